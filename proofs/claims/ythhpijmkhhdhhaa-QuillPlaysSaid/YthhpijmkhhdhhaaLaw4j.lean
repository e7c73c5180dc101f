/- The walk of the law QuillJoins. -/
import Derived.Test.YthhpijmkhhdhhaaLaw4n
import Derived.Lib.Join
namespace Go.Proofs.Ythhpijmkhhdhhaa
open Go.RowKit
set_option linter.unusedVariables false
set_option linter.unusedSimpArgs false

/-- Texts with another one between each two. -/
def joinB (ss : List ByteArray) (sep : List UInt8) : List UInt8 := Lib.join (ss.map fun s => s.data.toList) sep

theorem joinB_nil (sep : List UInt8) : joinB [] sep = [] := rfl
theorem joinB_one (s : ByteArray) (sep : List UInt8) : joinB [s] sep = s.data.toList := Lib.join_one _ _
theorem joinB_snoc (ss : List ByteArray) (s : ByteArray) (sep : List UInt8) (h : ss ≠ []) : joinB (ss ++ [s]) sep = joinB ss sep ++ sep ++ s.data.toList := by
  cases ss with
  | nil => exact absurd rfl h
  | cons x r =>
    unfold joinB
    simp only [List.cons_append, List.map_cons, List.map_append, List.map_nil]
    rw [Lib.join_cons, Lib.join_cons]
    simp [Lib.joinTail]

theorem joinB_empty (ss : List ByteArray) : joinB ss [] = bytesOf ss := by
  cases ss with
  | nil => rfl
  | cons x r =>
    unfold joinB bytesOf
    simp only [List.map_cons]
    rw [Lib.join_cons]
    simp only [Lib.joinTail, List.nil_append, List.flatten_cons, List.map_id']

theorem joinB_len (ss : List ByteArray) (sep : List UInt8) : (joinB ss sep).length ≤ (bytesOf ss).length + ss.length * sep.length := by
  induction ss with
  | nil => simp [joinB_nil, bytesOf]
  | cons x r ih =>
    unfold joinB bytesOf at *
    cases r with
    | nil => simp [Lib.join_one]
    | cons y r =>
      simp only [List.map_cons] at *
      rw [Lib.join_cons] at *
      simp only [Lib.joinTail, List.map_cons, List.flatten_cons, List.length_append, List.length_cons] at *
      have : (r.length + 1 + 1) * sep.length = (r.length + 1) * sep.length + sep.length := by rw [Nat.add_mul (r.length + 1) 1]; simp
      omega

theorem cat_str (l : List UInt8) (s : ByteArray) : (⟨l.toArray⟩ ++ s : ByteArray) = ⟨(l ++ s.data.toList).toArray⟩ := by
  apply ByteArray.ext; rw [ByteArray.data_append]; simp

theorem stringsJoin_any (w : World) (B : Nat) (a : Option Addr) (n cap : Nat) (ss : List ByteArray) (sep : ByteArray) (hnn : n = ss.length) (hs : StrsIn w B a ss) (hc : n ≤ cap) (hn : n ≤ 1000000)
    (hl : (bytesOf ss).length + ss.length * sep.data.toList.length ≤ 1000000000) :
    Calls Try.prog 114 #[.slice a n cap, .string sep] w fun e w' => e = .returned (.string ⟨(joinB ss sep.data.toList).toArray⟩) ∧ Below w.heap.size w w' := by
  subst hnn
  rcases hs with rfl | ⟨g, o, rfl, hg, _, hcells⟩
  · exact (Try.strings_Join_none a cap sep w).mono fun e w' ⟨h1, h2⟩ => ⟨h1, by rw [h2]; exact Below.refl _ _⟩
  · refine Try.strings_Join g o cap ss sep w (fun j x hx => ?_) hg (by omega) hc ?_
    · obtain ⟨hj, rfl⟩ := List.getElem?_eq_some_iff.1 hx
      exact hcells j hj
    · have := joinB_len ss sep.data.toList
      unfold joinB at this
      omega

theorem quillJoin_any (w : World) (B : Nat) (a : Option Addr) (n cap : Nat) (ss : List ByteArray) (sep : ByteArray) (hnn : n = ss.length) (hs : StrsIn w B a ss) (hc : n ≤ cap) (hn : n ≤ 1000000)
    (hl : (bytesOf ss).length + ss.length * sep.data.toList.length ≤ 1000000000) :
    Calls Try.prog 70 #[.string sep, .slice a n cap] w fun e w' => e = .returned (.string ⟨(joinB ss sep.data.toList).toArray⟩) ∧ Below w.heap.size w w' := by
  have J := Lib.hid (stringsJoin_any w B a n cap ss sep hnn hs hc hn hl)
  clear hnn hs hl
  go_enter Try.func70, Try.ntmps70
  go_wp2_with fail
  (refine (J.out).mono ?_; rintro e w1 ⟨rfl, h1⟩; have H1 := Lib.hid h1; clear h1; go_wp2_with fail)
  go_ret
  exact ⟨rfl, H1.out⟩

set_option maxRecDepth 100000 in
theorem refJoin_any (w : World) (B : Nat) (a : Option Addr) (n cap : Nat) (ss : List ByteArray) (sep : ByteArray) (hnn : n = ss.length) (hs : StrsIn w B a ss) (hn : n ≤ 1000000)
    (hl : (bytesOf ss).length + ss.length * sep.data.toList.length ≤ 1000000000) :
    Calls Try.prog 71 #[.string sep, .slice a n cap] w fun e w' => e = .returned (.string ⟨(joinB ss sep.data.toList).toArray⟩) ∧ w = w' := by
  subst hnn
  have HS := Lib.hid hs; clear hs
  have hse := Lib.size_eq sep
  have HSE := Lib.hid hse; clear hse
  have HLL := Lib.hid hl; clear hl
  go_enter Try.func71, Try.ntmps71
  go_wp2_with fail
  go_loop [5, 6] (fun s i => ∃ k : Nat, k ≤ ss.length ∧ i = .int .i64 k ∧ s = .string ⟨(joinB (ss.take k) sep.data.toList).toArray⟩) (fun _ i => ss.length - (intOf i).toNat)
  case atStart => exact ⟨0, Nat.zero_le _, rfl, rfl⟩
  case round =>
    obtain ⟨k, hk, rfl, rfl⟩ := hrel
    by_cases hlt : k < ss.length
    · have hcell : ∃ g o, a = some ⟨g, o, none⟩ ∧ w.cell? ⟨g, o + k, none⟩ = some (.string ss[k]) := by
        rcases HS.out with h | ⟨g, o, ha, _, _, hc⟩
        · rw [h] at hlt; simp at hlt
        · exact ⟨g, o, ha, hc k hlt⟩
      obtain ⟨g, o, rfl, hcell⟩ := hcell
      have hb : (joinB (ss.take k) sep.data.toList).length + sep.size + ss[k].size ≤ 2000000000 := by
        have h1 := joinB_len (ss.take k) sep.data.toList
        have h2 := bytesOf_take_le ss (k + 1)
        rw [bytesOf_take_succ ss k hlt, List.length_append, ← Lib.size_eq] at h2
        have h3 : (ss.take k).length * sep.data.toList.length ≤ ss.length * sep.data.toList.length := Nat.mul_le_mul_right _ (by simp; omega)
        have h4 : sep.data.toList.length ≤ ss.length * sep.data.toList.length := Nat.le_mul_of_pos_left _ (by omega)
        have := HLL.out
        have := HSE.out
        omega
      by_cases hk0 : k = 0
      · have hkn : (k : Int) ≤ 0 := by omega
        have hov1 : ¬ 9223372036854775807 < (joinB (ss.take k) sep.data.toList).length + ss[k].size := by omega
        have HK0 := Lib.hid hk0; clear hk0
        go_wp2_with fail
        go_round
        case rel =>
          refine ⟨k + 1, by omega, by go_num, congrArg Value.string ?_⟩
          have ht : ss.take k = [] := by rw [HK0.out]; rfl
          rw [List.take_succ_eq_append_getElem hlt, ht, joinB_nil, List.nil_append, joinB_one, cat_str]
          rfl
        case measure => simp [intOf]; omega
      · have hkp : (0 : Int) < k := by omega
        have hov1 : ¬ 9223372036854775807 < (joinB (ss.take k) sep.data.toList).length + sep.size := by omega
        have hov2 : ¬ 9223372036854775807 < (joinB (ss.take k) sep.data.toList).length + sep.size + ss[k].size := by omega
        have HK0 := Lib.hid hk0; clear hk0
        go_wp2_with fail
        go_round
        case rel =>
          refine ⟨k + 1, by omega, by go_num, congrArg Value.string ?_⟩
          have ht : ss.take k ≠ [] := by
            intro e
            have hl2 : (ss.take k).length = k := by simp; omega
            rw [e] at hl2
            exact HK0.out hl2.symm
          rw [List.take_succ_eq_append_getElem hlt, joinB_snoc _ _ _ ht, cat_str, cat_str]
        case measure => simp [intOf]; omega
    · obtain rfl : k = ss.length := by omega
      go_wp2_with fail
      go_ret
      exact ⟨rfl, rfl⟩

theorem strsArg_below {w w1 : World} {a : Option Addr} {len : Nat} {ss : List ByteArray} (h : StrsArg w a len ss) (hb : Below w.heap.size w w1) : StrsArg w1 a len ss := by
  obtain ⟨x1, x2, x3, x4⟩ := h
  refine ⟨x1, x2, x3, ?_⟩
  rcases x4 with x4 | ⟨b, o, y1, y2, y3⟩
  · exact .inl x4
  · exact .inr ⟨b, o, y1, Nat.lt_of_lt_of_le y2 hb.size, fun j hj => (hb.cell (by exact y2)).trans (y3 j hj)⟩

set_option maxRecDepth 100000 in
theorem quillJoins_walk (sep : ByteArray) (a : Option Addr) (len cap : Nat) (ss : List ByteArray) (w : World) (hsep : sep.size ≤ maxLen) (h : StrsArg w a len ss) :
    Calls Try.prog 11 #[.string sep, .slice a len cap] w fun e w' => e = .returned (.bool true) ∧ Below w.heap.size w w' := by
  unfold maxLen at hsep
  have HSA := Lib.hid h; clear h
  have hft := few4_total ss
  obtain ⟨F, hF⟩ : ∃ F, F = few4 ss := ⟨_, rfl⟩
  rw [← hF] at hft
  have HF := Lib.hid hF; clear hF
  obtain ⟨hf1, hf2, hf3⟩ := hft
  have HF3 := Lib.hid hf3; clear hf3
  have hm1 : (0 : Int) ≤ min (sep.size : Int) 20 := by omega
  have hm2 : min (sep.size : Int) 20 ≤ sep.size := by omega
  go_enter Try.func11, Try.ntmps11
  go_wp2_with fail
  (refine (awake4_any _).mono ?_; rintro e w1 ⟨rfl, h1⟩; have H1 := Lib.hid h1; clear h1; go_wp2_with fail)
  have hfew := few4_any w1.drew a len cap ss (strsArg_below (strsArg_below HSA.out H1.out) ((Below.refl _ _).drew))
  have FEW := Lib.hid hfew; clear hfew
  go_region_held3 (fun w' => True) (trivial) (first | (go_at_call 54; refine FEW.out.mono ?_; rintro e w2 ⟨v, rfl, hown, hb2⟩))
  all_goals
    rw [extract_cutS 20 sep _ (by omega)]
    obtain ⟨S, hS⟩ : ∃ S, S = cutS 20 sep := ⟨_, rfl⟩
    rw [← hS]
    have hss : S.data.toList.length ≤ 20 := by rw [← Lib.size_eq, hS, cutS_size]; omega
    have hsm : F.length * S.data.toList.length ≤ 120 := Nat.le_trans (Nat.mul_le_mul hf2 hss) (by omega)
    clear hS hm1 hm2
    rw [← HF.out] at hown
    obtain ⟨va, vc, hv, hsi, hcap, hvc⟩ := strsIn_own (B := w2.heap.size) hown
    rw [hv]
    have hal : Below w2.heap.size w2 (w2.alloc (.cells #[.slice none 0 0, .int .i64 1000] 106)) := (Below.refl _ _).alloc (Nat.le_refl _) _
    have hq := quillAt_new 1000 w2 w2.heap.size (Nat.le_refl _)
    have hs3 := strsIn_below hsi hal
    have hsi2 := hsi
    have PUT := Lib.hid (quill_put' _ w2.heap.size w2.heap.size [] 1000 va F.length vc F rfl hq (by decide) (by decide) (by decide) (by simp; omega) hs3 (by unfold maxLen; omega) HF3.out)
    have HAL := Lib.hid hal; clear hal hq hs3 hsi
    have HSI := Lib.hid hsi2; clear hsi2
    have HB2 := Lib.hid hb2; clear hb2 hown hv hcap
    go_wp2_with fail
    (refine (quill_new_at 1000 1000 (by decide) _ (by decide) (by decide)).mono ?_; rintro e w' ⟨rfl, rfl⟩; go_wp2_with fail)
    refine PUT.out.mono ?_
    intro e w3 hp
    have hok : putOk [] 1000 F = true := by unfold putOk; simp; omega
    obtain ⟨rfl, hq3, hf3⟩ := put_known hp 0 (by unfold putE; rw [hok]; rfl) (bytesOf F) (by unfold putL; rw [hok]; rfl)
    have hsi3 : StrsIn w3 w2.heap.size va F := strsIn_fr (strsIn_below HSI.out HAL.out) hf3 (heap_alloc_new w2 _) (by decide) (Nat.le_refl _)
    have hbl3 : Below w2.heap.size w2 w3 := HAL.out.trans (hf3.below (by simp))
    have J := Lib.hid (quillJoin_any w3 w2.heap.size va F.length vc F S rfl hsi3 hvc (by omega) (by omega))
    have HS3 := Lib.hid hsi3; clear hsi3
    have HB3 := Lib.hid hbl3; clear hbl3
    have HQ3 := Lib.hid hq3; clear hq3 hf3 hp hok
    go_wp2_with fail
    refine J.out.mono ?_
    rintro e w4 ⟨rfl, hb4⟩
    have hsi4 := strsIn_below HS3.out hb4
    have R := Lib.hid (refJoin_any w4 w2.heap.size va F.length vc F S rfl hsi4 (by omega) (by omega))
    have J2 := Lib.hid (quillJoin_any w4 w2.heap.size va F.length vc F ⟨#[]⟩ rfl hsi4 hvc (by omega) (by simp; omega))
    have hq4 := quillAt_frT HQ3.out hb4
    have TX := Lib.hid (quill_text w4 _ _ _ _ hq4)
    have HQ4 := Lib.hid hq4; clear hq4
    have HS4 := Lib.hid hsi4; clear hsi4
    have HB4 := Lib.hid hb4; clear hb4
    go_wp2_with fail
    (refine (R.out).mono ?_; rintro e w' ⟨rfl, rfl⟩; go_wp2_with fail)
    (refine (TX.out).mono ?_; rintro e w' ⟨rfl, rfl⟩; go_wp2_with fail)
    refine J2.out.mono ?_
    have hje : joinB F ((⟨#[]⟩ : ByteArray).data.toList) = bytesOf F := joinB_empty F
    rw [hje]
    rintro e w5 ⟨rfl, hb5⟩
    have TK := Lib.hid (quill_take w5 _ _ _ _ (quillAt_frT HQ4.out hb5))
    have HS5 := Lib.hid (strsIn_below HS4.out hb5)
    have HQB := HQ4.out
    obtain ⟨v0, hv0, hB0, _⟩ := HQB
    have hv5 : w5.heap[w2.heap.size]? = some (.cells #[v0, .int .i64 1000] 106 (0, 0)) := by rw [hb5.block _ (lt_of_block hv0)]; exact hv0
    have HV5 := Lib.hid hv5
    have HB5 := Lib.hid hb5; clear hb5 hv5 hv0 hje
    go_wp2_with fail
    refine TK.out.mono ?_
    rintro e w6 ⟨rfl, hq6, hf6⟩
    have hs6 := strsIn_fr HS5.out hf6 HV5.out (by decide) (Nat.le_refl _)
    have A6 := Lib.hid (all4_any w6 w2.heap.size va F.length vc F rfl hs6 (by omega) (by omega))
    have L6 := Lib.hid (quill_len w6 _ _ _ _ hq6)
    have F6 := Lib.hid hf6; clear hf6 hs6 hq6
    go_wp2_with fail
    (refine (A6.out).mono ?_; rintro e w' ⟨rfl, rfl⟩; go_wp2_with fail)
    (refine (L6.out).mono ?_; rintro e w' ⟨rfl, rfl⟩; go_wp2_with fail)
    go_ret
    refine ⟨rfl, ?_⟩
    have hz2 := HB3.out.size
    have hz3 := HB4.out.size
    have hz4 := HB5.out.size
    have c1 : Below w2.heap.size w2 w6 := ((HB3.out.trans (HB4.out.mono hz2)).trans (HB5.out.mono (by omega))).trans (F6.out.below (by omega))
    have c2 : Below w1.heap.size w1 w2 := ((Below.refl _ _).drew).trans HB2.out
    exact bseq (bseq H1.out c2) c1

end Go.Proofs.Ythhpijmkhhdhhaa
