/- Contracts of package quill: Line, and a nil quill. -/
import Derived.Test.YthhpijmkhhdhhaaQuill
import Derived.Laws.AppendOwnNone
namespace Go.Proofs.Ythhpijmkhhdhhaa
open Go.RowKit
set_option linter.unusedVariables false
set_option linter.unusedSimpArgs false

def strCells (ss : List ByteArray) : List Value := ss.map Value.string
def crlf : ByteArray := ⟨#[13, 10]⟩

/-- A row of texts of the call's own is a place that a quill's writing does not reach. -/
theorem strsIn_own {w : World} {A B : Nat} {v : Value} {ss : List ByteArray} (h : w.ownsRow A 9 1 v ss.length (strCells ss)) : ∃ a c, v = .slice a ss.length c ∧ StrsIn w B a ss ∧ (a = none → c = 0) ∧ ss.length ≤ c := by
  rcases h.2 with ⟨rfl, hz⟩ | ⟨g, cp, cur, rfl, _, hg, hcp, _, _, htk⟩
  · exact ⟨none, 0, by rw [hz], .inl (List.eq_nil_of_length_eq_zero hz), fun _ => rfl, by omega⟩
  · refine ⟨_, _, rfl, .inr ⟨g, 0, rfl, lt_of_block hg, .inr ⟨_, _, hg⟩, fun j hj => ?_⟩, fun h => (by cases h), hcp⟩
    rw [Nat.zero_add, cell_of_row w g j _ _ _ hg]
    have h3 : (strCells ss)[j]? = some (.string ss[j]) := by simp [strCells, List.getElem?_eq_getElem hj]
    rw [← htk, List.getElem?_take] at h3
    split at h3
    · simpa using h3
    · cases h3

/-- append(v, l...) of texts onto a row of the call's own. -/
theorem app_strs {ops : Array Oper} {rest : List Oper} {o : Oper} {act : Act} {Q : Exit → Act → World → Prop} (hgd : o.guard = none) (s x : Operand)
    (ho : o.op = .call { callee := .builtin .append, args := #[s, x], argTypes := #[26, 26] })
    (w : World) (base : Nat) (v : Value) (n : Nat) (xs : List ByteArray) (hs : act.eval s = v) (hown : w.ownsRow base 9 1 v n (strCells xs))
    (B : Nat) (a : Option Addr) (cap : Nat) (ss : List ByteArray) (hx : act.eval x = .slice a ss.length cap) (hss : StrsIn w B a ss) (hcap : a = none → cap = 0)
    (hn : n + ss.length ≤ 1000000) (hbase : base ≤ w.heap.size)
    (h : ∀ v' w', w'.ownsRow base 9 1 v' (n + ss.length) (strCells (xs ++ ss)) → w.grownBy w' v.ownBlock → wpList Try.prog ops Q rest (act.put o.dst v') w') : wpList Try.prog ops Q (o :: rest) act w := by
  obtain ⟨i, hi, hz0, hz1, hz2⟩ := info_parts info_str
  have hcells : strCells (xs ++ ss) = strCells xs ++ strCells ss := by simp [strCells]
  have hlen : (strCells ss).length = ss.length * 1 := by simp [strCells]
  have hone : ∀ u ∈ strCells ss, u.oneCell' = true := by
    intro u hu; obtain ⟨t, _, rfl⟩ := List.mem_map.1 hu; rfl
  rcases ha : a with _ | ad
  · have hnil : ss = [] := by
      rcases hss with h | ⟨g, o', h, _⟩
      · exact h
      · rw [ha] at h; cases h
    subst hnil
    have hc0 := hcap ha
    subst hc0 ha
    exact wpList_append_own_none hgd s x 26 ho base 9 i 1 Try.underlying26 hi v n (strCells xs) hs hown hx
      (h v w (by simpa using hown) ⟨rfl, rfl, rfl, Nat.le_refl _, fun _ _ _ => rfl⟩)
  · subst ha
    refine wpList_append_own w hgd s x 26 ho base 9 i (.string ByteArray.empty) 1 16 Try.underlying26 hi hz0 hz1 hz2 rfl (by decide) v n (strCells xs) hs hown ad ss.length cap (strCells ss) hx hlen ?_ hone
      (by unfold maxLen; omega) (by omega) hbase fun v' w' h1 h2 _ => h v' w' (by rw [hcells]; exact h1) h2
    intro j u hj
    have hj' : j < ss.length := by
      have := (List.getElem?_eq_some_iff.1 hj).1
      simpa [strCells] using this
    rcases hss with hss | ⟨g, o', had, _, _, hc⟩
    · subst hss; exact absurd hj' (by simp)
    · obtain rfl := Option.some.inj had
      rw [addr_add0, hc j hj', ← hj]
      unfold strCells
      rw [List.getElem?_map, List.getElem?_eq_getElem hj']
      rfl

theorem quill_put' (w : World) (B b : Nat) (l : List UInt8) (most : Int) (a : Option Addr) (n cap : Nat) (ss : List ByteArray) (hnn : n = ss.length) (h : QuillAt w B b l most) (h0 : 0 ≤ most) (h1 : most ≤ 9223372036854775807) (hl : (l.length : Int) ≤ most) (hlt0 : l.length + (bytesOf ss).length ≤ 1000000)
    (hs : StrsIn w B a ss) (hn : n ≤ maxLen) (hsz : ∀ s ∈ ss, s.size ≤ maxLen) :
    Calls Try.prog 56 #[.pointer (some ⟨b, 0, none⟩), .slice a n cap] w (PutPost w B b l most ss) := by
  subst hnn; exact quill_put w B b l most a cap ss h h0 h1 hl hlt0 hs hn hsz

theorem strCells_snoc (ss : List ByteArray) (s : ByteArray) : strCells ss ++ [.string s] = strCells (ss ++ [s]) := by simp [strCells]

theorem strsIn_below {w w1 : World} {B : Nat} {a : Option Addr} {ss : List ByteArray} (h : StrsIn w B a ss) (hf : Below w.heap.size w w1) : StrsIn w1 B a ss := by
  rcases h with h | ⟨g, o, ha, hg, hk, hc⟩
  · exact .inl h
  · have hsame := hf.block g hg
    exact .inr ⟨g, o, ha, Nat.lt_of_lt_of_le hg hf.size, by rw [hsame]; exact hk, fun j hj => by
      rw [World.cell?_of_block (w := w) (w' := w1) (a := ⟨g, o + j, none⟩) hsame]; exact hc j hj⟩

theorem quill_line (w : World) (B b : Nat) (l : List UInt8) (most : Int) (a : Option Addr) (cap : Nat) (ss : List ByteArray) (h : QuillAt w B b l most) (h0 : 0 ≤ most) (h1 : most ≤ 9223372036854775807) (hl : (l.length : Int) ≤ most) (hlt0 : l.length + (bytesOf (ss ++ [crlf])).length ≤ 1000000)
    (hs : StrsIn w B a ss) (hcap : a = none → cap = 0) (hn : ss.length ≤ 100000) (hsz : ∀ s ∈ ss, s.size ≤ maxLen) :
    Calls Try.prog 55 #[.pointer (some ⟨b, 0, none⟩), .slice a ss.length cap] w (PutPost w B b l most (ss ++ [crlf])) := by
  have hB : B ≤ b := by obtain ⟨_, _, hB, _⟩ := h; exact hB
  have hbs : b < w.heap.size := by obtain ⟨_, hv, _⟩ := h; exact lt_of_block hv
  have HQ := Lib.hid h; clear h
  have HZ := Lib.hid hsz; clear hsz
  have hal : Below w.heap.size w (w.alloc (.cells #[] 9)) := (Below.refl _ _).alloc (Nat.le_refl _) _
  have hs1 : StrsIn (w.alloc (.cells #[] 9)) B a ss := by
    obtain ⟨v0, hv0, _⟩ := HQ.out
    exact strsIn_fr hs (FrT.ofBelow hal) hv0 (by decide) hB
  have hown : (w.alloc (.cells #[] 9)).ownsRow w.heap.size 9 1 (.slice (some ⟨w.heap.size, 0, none⟩) 0 0) 0 (strCells []) :=
    World.ownsRow_made w #[] 0 (Nat.le_refl _) (by decide) rfl
  have HS := Lib.hid hs1; clear hs hs1
  have HO := Lib.hid hown; clear hown
  have HAL := Lib.hid hal; clear hal
  have HCAP := Lib.hid hcap; clear hcap
  go_enter Try.func55, Try.ntmps55
  go_wp2_with (at_builtin; refine app_strs (by rfl) (.tmp 6) (.tmp 7) (by rfl) _ w.heap.size _ 0 [] (by rfl) HO.out B a cap ss (by rfl) HS.out HCAP.out (by omega) (by simp) ?_)
  intro v1 w1 hown1 hg1
  have HO1 := Lib.hid hown1; clear hown1
  have HG1 := Lib.hid hg1; clear hg1
  have hz1 : w.heap.size ≤ w1.heap.size := by have := HG1.out.size; simp at this; omega
  go_wp2_with (at_builtin; refine app_one 26 9 (.string ByteArray.empty) 16 Try.underlying26 info_str rfl (by rfl) (.tmp 8) (.tmp 9) (by rfl) w1 w.heap.size v1 ss.length (strCells ss) (.string crlf) (by rfl) HO1.out (by rfl) rfl ?_ ?_ ?_ ?_)
  · omega
  · unfold maxLen; omega
  · exact hz1
  intro g cp w2 hown2 hg2 hat hbg hgl
  have hA : Below w.heap.size w w2 := app_below (app_below HAL.out HO.out HG1.out (Nat.le_refl _) (by simp)) HO1.out hg2 (Nat.le_refl _) hz1
  rw [strCells_snoc] at hown2
  have hln : ss.length + 1 = (ss ++ [crlf]).length := by simp
  rw [hln] at hown2
  obtain ⟨sa, sc, hsa, hsi, _⟩ := strsIn_own (B := B) hown2
  obtain ⟨hsa1, hsa2, hsa3⟩ := Value.slice.inj hsa
  subst hsa1 hsa3
  have HSI := Lib.hid hsi; clear hsi
  have HA := Lib.hid hA; clear hA
  have HLN := Lib.hid hln; clear hln
  have hsz3 : ∀ s ∈ ss ++ [crlf], s.size ≤ maxLen := by
    intro s hs
    rcases List.mem_append.1 hs with h | h
    · exact HZ.out s h
    · simp at h; subst h; decide
  have HZ3 := Lib.hid hsz3; clear hsz3
  clear hown2 hg2 hat hsa2
  go_wp2_with fail
  refine (quill_put' w2 B b l most _ _ _ (ss ++ [crlf]) HLN.out (quillAt_frT HQ.out HA.out) h0 h1 hl hlt0 HSI.out (by unfold maxLen; omega) HZ3.out).mono ?_
  rintro e w3 ⟨rfl, hq, hf⟩
  go_wp2_with fail
  go_ret
  exact ⟨rfl, hq, (FrT.ofBelow HA.out).trans hf⟩

end Go.Proofs.Ythhpijmkhhdhhaa
