/- params' reader: one, more. -/
import Derived.Test.YthhpijmkhhdhhaaParPure
import Derived.Test.YthhpijmkhhdhhaaRead3
import Derived.Laws.ResultCell
namespace Go.Proofs.Ythhpijmkhhdhhaa
open Go.RowKit
set_option linter.unusedVariables false
set_option linter.unusedSimpArgs false

/-- What one and more hold of their own: the reader in block b; one's answer in the next. -/
def BoxAt (w : World) (b c : Nat) : Prop := w.heap[b]? = some (.cells #[.pointer (some ⟨c, 0, none⟩)] 122 (0, 0))
def ResAt (w : World) (b : Nat) : Prop := w.heap[b]? = some (.cells #[.string ⟨#[]⟩, .string ⟨#[]⟩] 85 (0, 0))

theorem box_cells {w : World} {b c : Nat} (h : BoxAt w b c) : w.cell? ⟨b, 0, none⟩ = some (.pointer (some ⟨c, 0, none⟩)) ∧ b < w.heap.size :=
  ⟨by rw [cell_of_row w b 0 _ _ _ h]; rfl, lt_of_block h⟩
theorem res_cells {w : World} {b : Nat} (h : ResAt w b) : w.cell? ⟨b, 0, none⟩ = some (.string ⟨#[]⟩) ∧ w.cell? ⟨b, 1, none⟩ = some (.string ⟨#[]⟩) ∧ w.frozen? ⟨b, 0, none⟩ = false ∧ w.frozen? ⟨b, 1, none⟩ = false ∧ b < w.heap.size :=
  ⟨by rw [cell_of_row w b 0 _ _ _ h]; rfl, by rw [cell_of_row w b 1 _ _ _ h]; rfl, frozen_of_row w b 0 _ _ h, frozen_of_row w b 1 _ _ h, lt_of_block h⟩
theorem box_frC {w w' : World} {b c : Nat} (h : BoxAt w b c) (hf : FrC c w w') (hb : c < b) : BoxAt w' b c := (hf.block b (lt_of_block h) (by omega)).trans h
theorem res_frC {w w' : World} {b c : Nat} (h : ResAt w b) (hf : FrC c w w') (hb : c < b) : ResAt w' b := (hf.block b (lt_of_block h) (by omega)).trans h

theorem nextIs_getElem (s : ByteArray) (i n : Nat) (x : UInt8) : (ahead s i)[n]? = some x ↔ nextIs s (i + n) (x.toNat : Int) = true := by
  unfold ahead nextIs
  rw [List.getElem?_drop]
  cases h : s.data.toList[i + n]? with
  | none => simp
  | some y =>
    simp only [Option.some.injEq, beq_iff_eq]
    constructor
    · intro e; rw [e]
    · intro e; exact UInt8.toNat_inj.1 (by omega)

def MorePost (w : World) (c : Nat) (s : ByteArray) (i : Nat) (e : Ending) (w' : World) : Prop :=
  ∃ ok, e = .returned (.bool ok) ∧ FrC c w w' ∧ ((ok = true ∧ ∃ m, moreL (ahead s i) = some m ∧ ScanAt w' c s (i + m)) ∨ (ok = false ∧ moreL (ahead s i) = none))

def OnePost (w : World) (c : Nat) (s : ByteArray) (i : Nat) (e : Ending) (w' : World) : Prop :=
  ∃ ok P V, e = .returned (.tuple #[.agg #[.string P, .string V], .bool ok]) ∧ FrC c w w' ∧
    ((ok = true ∧ ∃ p n, oneL (ahead s i) = some (p, n) ∧ P = ⟨p.1.toArray⟩ ∧ V = ⟨p.2.toArray⟩ ∧ ScanAt w' c s (i + n)) ∨ (ok = false ∧ oneL (ahead s i) = none))

set_option maxRecDepth 100000 in
theorem reader_more (w : World) (c : Nat) (s : ByteArray) (i : Nat) (h : ScanAt w c s i) :
    Calls Try.prog 118 #[.agg #[.pointer (some ⟨c, 0, none⟩)]] w (MorePost w c s i) := by
  have hcw := (scan_cells h).2.2.2
  have hal : Below w.heap.size w (w.alloc (.cells #[.pointer (some ⟨c, 0, none⟩)] 122)) := (Below.refl _ _).alloc (Nat.le_refl _) _
  have BX : BoxAt (w.alloc (.cells #[.pointer (some ⟨c, 0, none⟩)] 122)) w.heap.size c := heap_alloc_new w _
  have SA := scanAt_block h hal
  have FB := FrC.ofBelow (c := c) hal
  have BL := Lib.hid (scan_blanks _ _ _ _ SA)
  have HB := Lib.hid BX; clear BX
  have HF := Lib.hid FB; clear FB SA hal h
  go_enter Try.func118, Try.ntmps118
  go_wp2_with fail
  refine BL.out.mono ?_
  rintro e w1 ⟨rfl, hs1, hf1⟩
  have hb1 := box_frC HB.out hf1 hcw
  have hf1 := HF.out.trans hf1
  obtain ⟨r0, hbs⟩ := box_cells hb1
  have HB1 := Lib.hid hb1; clear hb1 HB BL HF
  have HF1 := Lib.hid hf1; clear hf1
  obtain ⟨j, hj⟩ : ∃ j, i + takeN bBlank (ahead s i) = j := ⟨_, rfl⟩
  have hmo := nextIs_getElem s i (takeN bBlank (ahead s i)) 59
  have hdr : (ahead s i).drop (takeN bBlank (ahead s i) + 1) = ahead s (j + 1) := by rw [ahead_drop, ← hj]; rfl
  rw [hj] at hmo hs1
  have BY := Lib.hid (scan_byte w1 c s j 59 hs1)
  have hs1 := Lib.hid hs1
  have HMO := Lib.hid hmo; clear hmo
  have HDR := Lib.hid hdr; clear hdr
  have HJ := Lib.hid hj; clear hj
  go_wp2_with fail
  refine BY.out.mono ?_
  rintro e w2 ⟨rfl, hs2, hf2⟩
  have hb2 := box_frC HB1.out hf2 hcw
  have hf2 := HF1.out.trans hf2
  clear r0 hbs
  obtain ⟨r0, hbs⟩ := box_cells hb2
  have HB2 := Lib.hid hb2; clear hb2 HB1 BY HF1
  have HF2 := Lib.hid hf2; clear hf2
  by_cases hq : nextIs s j 59 = true
  · rw [hq] at hs2 ⊢
    rw [if_pos rfl] at hs2
    have hm : moreL (ahead s i) = some (takeN bBlank (ahead s i) + 1 + takeN bBlank (ahead s (j + 1))) := by
      unfold moreL; rw [if_pos (HMO.out.2 hq), HDR.out]
    have HM := Lib.hid hm; clear hm hq
    have BL := Lib.hid (scan_blanks w2 c s (j + 1) hs2)
    clear hs2
    go_wp2_with fail
    refine BL.out.mono ?_
    rintro e w3 ⟨rfl, hs3, hf3⟩
    have HF3 := Lib.hid (HF2.out.trans hf3); clear hf3
    have HS3 := Lib.hid hs3; clear hs3
    go_wp2_with fail
    go_ret
    refine ⟨true, rfl, HF3.out, .inl ⟨rfl, _, HM.out, ?_⟩⟩
    have := HS3.out
    rw [← HJ.out] at this
    rw [show i + (takeN bBlank (ahead s i) + 1 + takeN bBlank (ahead s (j + 1))) = i + takeN bBlank (ahead s i) + 1 + takeN bBlank (ahead s (j + 1)) from by omega, ← HJ.out]
    exact this
  · have hm : moreL (ahead s i) = none := by unfold moreL; rw [if_neg (fun h => hq (HMO.out.1 h))]
    rw [Bool.not_eq_true] at hq
    rw [hq]
    have HM := Lib.hid hm; clear hm hq hs2
    go_wp2_with fail
    go_ret
    exact ⟨false, rfl, HF2.out, .inr ⟨rfl, HM.out⟩⟩

theorem frC_stores {w w' : World} {c b : Nat} (h : FrC c w w') (hb : w.heap.size ≤ b) (v1 v2 : Value) : FrC c w ((w'.setCell ⟨b, 0, none⟩ v1).setCell ⟨b, 1, none⟩ v2) :=
  ⟨h.os, h.tape, h.output, by simpa using h.size, fun k hk hp => by
    rw [Below.heap_setCell _ _ _ _ (by show k ≠ b; omega), Below.heap_setCell _ _ _ _ (by show k ≠ b; omega)]; exact h.block k hk hp⟩

theorem scanAt_stores {w : World} {c b : Nat} {s : ByteArray} {i : Nat} (h : ScanAt w c s i) (hb : c ≠ b) (v1 v2 : Value) : ScanAt ((w.setCell ⟨b, 0, none⟩ v1).setCell ⟨b, 1, none⟩ v2) c s i :=
  ⟨by rw [Below.heap_setCell _ _ _ _ (by show c ≠ b; omega), Below.heap_setCell _ _ _ _ (by show c ≠ b; omega)]; exact h.1, h.2⟩

set_option maxRecDepth 100000 in
set_option maxHeartbeats 1000000 in
theorem reader_one (w : World) (c : Nat) (s : ByteArray) (i : Nat) (h : ScanAt w c s i) :
    Calls Try.prog 117 #[.agg #[.pointer (some ⟨c, 0, none⟩)]] w (OnePost w c s i) := by
  have hcw := (scan_cells h).2.2.2
  have hal1 : Below w.heap.size w (w.alloc (.cells #[.pointer (some ⟨c, 0, none⟩)] 122)) := (Below.refl _ _).alloc (Nat.le_refl _) _
  have hal : Below w.heap.size w ((w.alloc (.cells #[.pointer (some ⟨c, 0, none⟩)] 122)).alloc (.cells #[.string ⟨#[]⟩, .string ⟨#[]⟩] 85)) := hal1.alloc hal1.size _
  have BX : BoxAt ((w.alloc (.cells #[.pointer (some ⟨c, 0, none⟩)] 122)).alloc (.cells #[.string ⟨#[]⟩, .string ⟨#[]⟩] 85)) w.heap.size c := (Below.heap_alloc _ _ _ (by simp)).trans (heap_alloc_new w _)
  have RS : ResAt ((w.alloc (.cells #[.pointer (some ⟨c, 0, none⟩)] 122)).alloc (.cells #[.string ⟨#[]⟩, .string ⟨#[]⟩] 85)) (w.heap.size + 1) := by
    have h2 := heap_alloc_new (w.alloc (.cells #[.pointer (some ⟨c, 0, none⟩)] 122)) (.cells #[.string ⟨#[]⟩, .string ⟨#[]⟩] 85)
    rw [show (w.alloc (.cells #[.pointer (some ⟨c, 0, none⟩)] 122)).heap.size = w.heap.size + 1 from by simp] at h2
    exact h2
  have SA := scanAt_block h hal
  have FB := FrC.ofBelow (c := c) hal
  have BL := Lib.hid (scan_token _ _ _ _ SA)
  have HB := Lib.hid BX; clear BX
  have HR := Lib.hid RS; clear RS
  have HF := Lib.hid FB; clear FB SA hal hal1 h
  go_enter Try.func117, Try.ntmps117
  go_wp2_with fail
  refine BL.out.mono ?_
  rintro e w1 ⟨rfl, hs1, hf1⟩
  have hb1 := box_frC HB.out hf1 hcw
  have hr1 := res_frC HR.out hf1 (by omega)
  have hf1 := HF.out.trans hf1
  obtain ⟨r0, hbs⟩ := box_cells hb1
  obtain ⟨q0, q1, z0, z1, hrs⟩ := res_cells hr1
  have HB1 := Lib.hid hb1; clear hb1 HB BL HF
  have HR1 := Lib.hid hr1; clear hr1 HR
  have HF1 := Lib.hid hf1; clear hf1
  obtain ⟨n, hn⟩ : ∃ n, takeN bTok (ahead s i) = n := ⟨_, rfl⟩
  have hmo := nextIs_getElem s i n 61
  have hdr : (ahead s i).drop (n + 1) = ahead s (i + n + 1) := by rw [ahead_drop]; rfl
  have hex := extract_ahead s i n
  have hone : oneL (ahead s i) = if 0 < n ∧ (ahead s i)[n]? = some 61 then (wordL ((ahead s i).drop (n + 1))).map fun p => (((ahead s i).take n, p.1), n + 1 + p.2) else none := by unfold oneL; rw [hn]
  rw [hdr] at hone
  rw [hn] at hs1 ⊢
  have HMO := Lib.hid hmo; clear hmo hdr
  have HON := Lib.hid hone; clear hone
  have HEX := Lib.hid hex; clear hex hn
  by_cases h0 : 0 < n
  · have hd : decide (0 < n) = true := decide_eq_true h0
    rw [hd]
    have BY := Lib.hid (scan_byte w1 c s (i + n) 61 hs1)
    have hs1 := Lib.hid hs1
    clear hd
    go_wp2_with fail
    refine BY.out.mono ?_
    rintro e w2 ⟨rfl, hs2, hf2⟩
    have hb2 := box_frC HB1.out hf2 hcw
    have hr2 := res_frC HR1.out hf2 (by omega)
    have hf2 := HF1.out.trans hf2
    clear r0 hbs q0 q1 z0 z1 hrs
    obtain ⟨r0, hbs⟩ := box_cells hb2
    obtain ⟨q0, q1, z0, z1, hrs⟩ := res_cells hr2
    have HB2 := Lib.hid hb2; clear hb2 HB1 BY HF1
    have HR2 := Lib.hid hr2; clear hr2 HR1
    have HF2 := Lib.hid hf2; clear hf2
    by_cases hq : nextIs s (i + n) 61 = true
    · rw [hq] at hs2 ⊢
      rw [if_pos rfl] at hs2
      obtain ⟨o, ho⟩ : ∃ o, wordL (ahead s (i + n + 1)) = o := ⟨_, rfl⟩
      have hm := HON.out
      rw [if_pos ⟨h0, HMO.out.2 hq⟩, ho] at hm
      have HM := Lib.hid hm; clear hm hq HON HMO
      have BL := Lib.hid (quoted_word w2 c s (i + n + 1) hs2)
      rw [ho] at BL
      clear hs2 ho
      go_wp2_with fail
      refine BL.out.mono ?_
      rintro e w3 ⟨rfl, hs3, hf3⟩
      have hb3 := box_frC HB2.out hf3 hcw
      have hr3 := res_frC HR2.out hf3 (by omega)
      have HF3 := Lib.hid (HF2.out.trans hf3); clear hf3
      have HS3 := Lib.hid hs3; clear hs3
      clear r0 hbs q0 q1 z0 z1 hrs
      obtain ⟨r0, hbs⟩ := box_cells hb3
      obtain ⟨q0, q1, z0, z1, hrs⟩ := res_cells hr3
      have hcr : c ≠ w.heap.size + 1 := by omega
      clear hb3 hr3 HB2 HR2 BL
      go_wp2_with fail
      (try simp only [Exit.inBlock, Exit.then])
      refine bodyPost_ret (v := .tuple #[.agg #[.string (s.extract i (i + n)), .string (oT o)], .bool (oOk o)]) (by rw [results_cell_tmp rfl]; go_simp) rfl ⟨oOk o, _, _, rfl, frC_stores HF3.out (Nat.le_succ _) _ _, ?_⟩
      cases o with
      | none => exact .inr ⟨rfl, HM.out⟩
      | some p =>
        refine .inl ⟨rfl, _, _, HM.out, HEX.out, rfl, ?_⟩
        have := scanAt_stores HS3.out hcr (.string (s.extract i (i + n))) (.string (oT (some p)))
        rw [show i + (n + 1 + p.2) = i + n + 1 + p.2 from by omega]
        exact this
    · have hm := HON.out
      rw [if_neg (fun h => hq (HMO.out.1 h.2))] at hm
      rw [Bool.not_eq_true] at hq
      rw [hq]
      have HM := Lib.hid hm; clear hm hq hs2 HON HMO
      go_wp2_with fail
      (try simp only [Exit.inBlock, Exit.then])
      refine bodyPost_ret (v := .tuple #[.agg #[.string ⟨#[]⟩, .string ⟨#[]⟩], .bool false]) (by rw [results_cell_tmp rfl]; go_simp) rfl ⟨false, _, _, rfl, frC_stores HF2.out (Nat.le_succ _) _ _, .inr ⟨rfl, HM.out⟩⟩
  · have hd : decide (0 < n) = false := decide_eq_false h0
    have hm := HON.out
    rw [if_neg (fun h => h0 h.1)] at hm
    rw [hd]
    have HM := Lib.hid hm; clear hm hs1 HON HMO hd
    go_wp2_with fail
    (try simp only [Exit.inBlock, Exit.then])
    refine bodyPost_ret (v := .tuple #[.agg #[.string ⟨#[]⟩, .string ⟨#[]⟩], .bool false]) (by rw [results_cell_tmp rfl]; go_simp) rfl ⟨false, _, _, rfl, frC_stores HF1.out (Nat.le_succ _) _ _, .inr ⟨rfl, HM.out⟩⟩

end Go.Proofs.Ythhpijmkhhdhhaa
