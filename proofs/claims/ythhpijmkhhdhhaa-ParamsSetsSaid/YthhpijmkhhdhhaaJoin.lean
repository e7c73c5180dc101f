/- Contracts: strings.Join, quill.Join. -/
import Derived.Test.YthhpijmkhhdhhaaQuill2
import Derived.Test.YthhpijmkhhdhhaaShelf
import Derived.Lib.Join
namespace Go.Proofs.Ythhpijmkhhdhhaa
open Go.RowKit
set_option linter.unusedVariables false
set_option linter.unusedSimpArgs false

/-- Texts with another one between each two. -/
def joinB (ss : List ByteArray) (sep : List UInt8) : List UInt8 := Lib.join (ss.map fun s => s.data.toList) sep

theorem joinB_nil (sep : List UInt8) : joinB [] sep = [] := rfl
theorem joinB_one (s : ByteArray) (sep : List UInt8) : joinB [s] sep = s.data.toList := Lib.join_one _ _
theorem joinB_snoc (ss : List ByteArray) (s : ByteArray) (sep : List UInt8) (h : ss ≠ []) : joinB (ss ++ [s]) sep = joinB ss sep ++ sep ++ s.data.toList := by
  cases ss with
  | nil => exact absurd rfl h
  | cons x r =>
    unfold joinB
    simp only [List.cons_append, List.map_cons, List.map_append, List.map_nil]
    rw [Lib.join_cons, Lib.join_cons]
    simp [Lib.joinTail]

theorem joinB_empty (ss : List ByteArray) : joinB ss [] = bytesOf ss := by
  cases ss with
  | nil => rfl
  | cons x r =>
    unfold joinB bytesOf
    simp only [List.map_cons]
    rw [Lib.join_cons]
    simp only [Lib.joinTail, List.nil_append, List.flatten_cons, List.map_id']

theorem joinB_len (ss : List ByteArray) (sep : List UInt8) : (joinB ss sep).length ≤ (bytesOf ss).length + ss.length * sep.length := by
  induction ss with
  | nil => simp [joinB_nil, bytesOf]
  | cons x r ih =>
    unfold joinB bytesOf at *
    cases r with
    | nil => simp [Lib.join_one]
    | cons y r =>
      simp only [List.map_cons] at *
      rw [Lib.join_cons] at *
      simp only [Lib.joinTail, List.map_cons, List.flatten_cons, List.length_append, List.length_cons] at *
      have : (r.length + 1 + 1) * sep.length = (r.length + 1) * sep.length + sep.length := by rw [Nat.add_mul (r.length + 1) 1]; simp
      omega

theorem cat_str (l : List UInt8) (s : ByteArray) : (⟨l.toArray⟩ ++ s : ByteArray) = ⟨(l ++ s.data.toList).toArray⟩ := by
  apply ByteArray.ext; rw [ByteArray.data_append]; simp

theorem stringsJoin_any (w : World) (B : Nat) (a : Option Addr) (n cap : Nat) (ss : List ByteArray) (sep : ByteArray) (hnn : n = ss.length) (hs : StrsIn w B a ss) (hc : n ≤ cap) (hn : n ≤ 1000000)
    (hl : (bytesOf ss).length + ss.length * sep.data.toList.length ≤ 1000000000) :
    Calls Try.prog 114 #[.slice a n cap, .string sep] w fun e w' => e = .returned (.string ⟨(joinB ss sep.data.toList).toArray⟩) ∧ Below w.heap.size w w' := by
  subst hnn
  rcases hs with rfl | ⟨g, o, rfl, hg, _, hcells⟩
  · exact (Try.strings_Join_none a cap sep w).mono fun e w' ⟨h1, h2⟩ => ⟨h1, by rw [h2]; exact Below.refl _ _⟩
  · refine Try.strings_Join g o cap ss sep w (fun j x hx => ?_) hg (by omega) hc ?_
    · obtain ⟨hj, rfl⟩ := List.getElem?_eq_some_iff.1 hx
      exact hcells j hj
    · have := joinB_len ss sep.data.toList
      unfold joinB at this
      omega

theorem quillJoin_any (w : World) (B : Nat) (a : Option Addr) (n cap : Nat) (ss : List ByteArray) (sep : ByteArray) (hnn : n = ss.length) (hs : StrsIn w B a ss) (hc : n ≤ cap) (hn : n ≤ 1000000)
    (hl : (bytesOf ss).length + ss.length * sep.data.toList.length ≤ 1000000000) :
    Calls Try.prog 70 #[.string sep, .slice a n cap] w fun e w' => e = .returned (.string ⟨(joinB ss sep.data.toList).toArray⟩) ∧ Below w.heap.size w w' := by
  have J := Lib.hid (stringsJoin_any w B a n cap ss sep hnn hs hc hn hl)
  clear hnn hs hl
  go_enter Try.func70, Try.ntmps70
  go_wp2_with fail
  (refine (J.out).mono ?_; rintro e w1 ⟨rfl, h1⟩; have H1 := Lib.hid h1; clear h1; go_wp2_with fail)
  go_ret
  exact ⟨rfl, H1.out⟩

end Go.Proofs.Ythhpijmkhhdhhaa
