/- quoted's reader: next, Read, at a scanner and at none. -/
import Derived.Test.YthhpijmkhhdhhaaQPure
namespace Go.Proofs.Ythhpijmkhhdhhaa
open Go.RowKit
set_option linter.unusedVariables false
set_option linter.unusedSimpArgs false

/-- A reader in block b, over the scanner in block c: what it has read. -/
def ReaderAt (w : World) (b c : Nat) (l : List UInt8) : Prop :=
  ∃ v, w.heap[b]? = some (.cells #[.pointer (some ⟨c, 0, none⟩), v] 120 (0, 0)) ∧ w.ownsRow (b + 1) 5 1 v l.length (u8cells l)

/-- Below b only block c has turned. -/
structure FrB (c b : Nat) (w w' : World) : Prop where
  os : w'.os = w.os
  tape : w'.tape = w.tape
  output : w'.output = w.output
  size : w.heap.size ≤ w'.heap.size
  block : ∀ k, k < b → k ≠ c → w'.heap[k]? = w.heap[k]?

theorem FrB.refl (c b : Nat) (w : World) : FrB c b w w := ⟨rfl, rfl, rfl, Nat.le_refl _, fun _ _ _ => rfl⟩
theorem FrB.trans {c b : Nat} {w w1 w2 : World} (h : FrB c b w w1) (k : FrB c b w1 w2) : FrB c b w w2 :=
  ⟨k.os.trans h.os, k.tape.trans h.tape, k.output.trans h.output, Nat.le_trans h.size k.size, fun i hi hp => by rw [k.block i hi hp, h.block i hi hp]⟩
theorem FrB.ofFrC {c b : Nat} {w w1 : World} (h : FrC c w w1) (hb : b ≤ w.heap.size) : FrB c b w w1 := ⟨h.os, h.tape, h.output, h.size, fun k hk hp => h.block k (by omega) hp⟩
theorem FrB.setCell {c b : Nat} {w w1 : World} (h : FrB c b w w1) (o : Nat) (u : Value) : FrB c b w (w1.setCell ⟨b, o, none⟩ u) :=
  h.trans ⟨rfl, rfl, rfl, by simp, fun k hk _ => Below.heap_setCell _ _ _ _ (by show k ≠ b; omega)⟩
theorem FrB.grown {c b : Nat} {w w1 w2 : World} (h : FrB c b w w1) {e : TypeId} {size : Nat} {v : Value} {n : Nat} {xs : List Value} (ho : w1.ownsRow (b + 1) e size v n xs) (hg : w1.grownBy w2 v.ownBlock) (hb : b ≤ w1.heap.size) : FrB c b w w2 :=
  h.trans ⟨hg.os, hg.tape, hg.output, hg.size, fun k hk _ => hg.block k (by omega) fun e0 => by have := (ho.lt k e0.symm).1; omega⟩

theorem own_frC {w w' : World} {base : Nat} {size : Nat} {v : Value} {n c : Nat} {xs : List Value} {s : ByteArray} {i : Nat} (h : w.ownsRow base 5 size v n xs) (hs : ScanAt w c s i) (hf : FrC c w w') : w'.ownsRow base 5 size v n xs :=
  h.kept (row := some c) ⟨hf.os, hf.tape, hf.output, hf.size, fun k hk hne => hf.block k hk fun e => hne (by rw [e])⟩ (.inr (own_ne h hs.1 (by decide)))

theorem readerAt_frC {w w' : World} {b c : Nat} {l : List UInt8} {s : ByteArray} {i : Nat} (h : ReaderAt w b c l) (hs : ScanAt w c s i) (hf : FrC c w w') (hbc : c < b) : ReaderAt w' b c l := by
  obtain ⟨v, hv, ho⟩ := h
  exact ⟨v, (hf.block b (lt_of_block hv) (by omega)).trans hv, own_frC ho hs hf⟩

theorem reader_cells {w : World} {b c : Nat} {l : List UInt8} (h : ReaderAt w b c l) :
    ∃ va vc, w.cell? ⟨b, 0, none⟩ = some (.pointer (some ⟨c, 0, none⟩)) ∧ w.cell? ⟨b, 1, none⟩ = some (.slice va l.length vc) ∧ w.frozen? ⟨b, 1, none⟩ = false ∧ b < w.heap.size ∧
      w.heap[b]? = some (.cells #[.pointer (some ⟨c, 0, none⟩), .slice va l.length vc] 120 (0, 0)) ∧ w.ownsRow (b + 1) 5 1 (.slice va l.length vc) l.length (u8cells l) := by
  obtain ⟨v, hb, ho⟩ := h
  obtain ⟨va, vc, rfl⟩ := own_form ho
  exact ⟨va, vc, by rw [cell_of_row w b 0 _ _ _ hb]; rfl, by rw [cell_of_row w b 1 _ _ _ hb]; rfl, frozen_of_row w b 1 _ _ hb, lt_of_block hb, hb, ho⟩

theorem scan_peek_yesF (w : World) (c : Nat) (s : ByteArray) (i : Nat) (h : ScanAt w c s i) (hi : i < s.size) :
    Calls Try.prog 110 #[.pointer (some ⟨c, 0, none⟩)] w fun e w' => e = .returned (.tuple #[.int .u8 (s[i].toNat : Int), .bool true]) ∧ ScanAt w' c s i ∧ FrC c w w' :=
  (scan_peek_yes w c s i h hi).mono fun _ _ ⟨he, n, hw⟩ => ⟨he, by subst hw; exact h, by subst hw; exact (FrC.refl c w).drewN n⟩
theorem scan_peek_noF (w : World) (c : Nat) (s : ByteArray) (i : Nat) (h : ScanAt w c s i) (hi : s.size ≤ i) :
    Calls Try.prog 110 #[.pointer (some ⟨c, 0, none⟩)] w fun e w' => e = .returned (.tuple #[.int .u8 0, .bool false]) ∧ ScanAt w' c s i ∧ FrC c w w' :=
  (scan_peek_no w c s i h hi).mono fun _ _ ⟨he, n, hw⟩ => ⟨he, by subst hw; exact h, by subst hw; exact (FrC.refl c w).drewN n⟩

theorem nextIs_at (s : ByteArray) (i : Nat) (h : i < s.size) (b : Int) : nextIs s i b = ((s[i].toNat : Int) == b) := by
  unfold nextIs
  rw [List.getElem?_eq_getElem (by simpa using h)]
  rfl
theorem nextIs_end (s : ByteArray) (i : Nat) (h : s.size ≤ i) (b : Int) : nextIs s i b = false := by
  unfold nextIs
  rw [List.getElem?_eq_none (by rw [← Lib.size_eq]; omega)]

theorem ahead_cons (s : ByteArray) (i : Nat) (h : i < s.size) : ahead s i = s[i] :: ahead s (i + 1) := by unfold ahead; exact drop_cons s i h
theorem ahead_end (s : ByteArray) (i : Nat) (h : s.size ≤ i) : ahead s i = [] := by unfold ahead; exact List.drop_of_length_le (by rw [← Lib.size_eq]; omega)
theorem ahead_drop (s : ByteArray) (i n : Nat) : (ahead s i).drop n = ahead s (i + n) := by unfold ahead; rw [List.drop_drop]

/-- What next reads, by the scanner's steps. -/
theorem next_yes (s : ByteArray) (j j1 : Nat) (hj : (if nextIs s j 92 = true then j + 1 else j) = j1) (h : j1 < s.size) (hv : bValue (s[j1].toNat : Int) = true) : nextL (ahead s j) = some (s[j1], j1 + 1 - j) := by
  by_cases hn : nextIs s j 92 = true
  · rw [if_pos hn] at hj
    subst hj
    have hlt : j < s.size := by omega
    rw [nextIs_at s j hlt] at hn
    have e : s[j] = 92 := UInt8.toNat_inj.1 (by have := eq_of_beq hn; have e : (92 : UInt8).toNat = 92 := rfl; omega)
    rw [ahead_cons s j hlt, ahead_cons s (j + 1) h]
    simp only [nextL]
    rw [if_pos e, if_pos hv, show j + 1 + 1 - j = 2 from by omega]
  · rw [if_neg hn] at hj
    subst hj
    have e : s[j] ≠ 92 := fun e => hn (by rw [nextIs_at s j h, e]; rfl)
    rw [ahead_cons s j h]
    simp only [nextL]
    rw [if_neg e, if_pos hv, show j + 1 - j = 1 from by omega]

theorem next_no (s : ByteArray) (j j1 : Nat) (hj : (if nextIs s j 92 = true then j + 1 else j) = j1) (h : ∀ h : j1 < s.size, bValue (s[j1].toNat : Int) = false) : nextL (ahead s j) = none := by
  by_cases hn : nextIs s j 92 = true
  · rw [if_pos hn] at hj
    subst hj
    by_cases hlt : j < s.size
    · rw [nextIs_at s j hlt] at hn
      have e : s[j] = 92 := UInt8.toNat_inj.1 (by have := eq_of_beq hn; have e : (92 : UInt8).toNat = 92 := rfl; omega)
      rw [ahead_cons s j hlt]
      simp only [nextL]
      rw [if_pos e]
      by_cases h2 : j + 1 < s.size
      · rw [ahead_cons s (j + 1) h2]; simp [h h2]
      · rw [ahead_end s (j + 1) (by omega)]
    · rw [nextIs_end s j (by omega)] at hn; cases hn
  · rw [if_neg hn] at hj
    subst hj
    by_cases hlt : j < s.size
    · have e : s[j] ≠ 92 := fun e => hn (by rw [nextIs_at s j hlt, e]; rfl)
      rw [ahead_cons s j hlt]
      simp only [nextL]
      rw [if_neg e, if_neg (by rw [h hlt]; simp)]
    · rw [ahead_end s j (by omega)]; rfl

def NextPost (w : World) (b c : Nat) (l : List UInt8) (s : ByteArray) (j : Nat) (e : Ending) (w' : World) : Prop :=
  ∃ ok, e = .returned (.bool ok) ∧ FrB c b w w' ∧
    ((ok = true ∧ ∃ x n, nextL (ahead s j) = some (x, n) ∧ ScanAt w' c s (j + n) ∧ ReaderAt w' b c (l ++ [x])) ∨ (ok = false ∧ nextL (ahead s j) = none ∧ ∃ k, j ≤ k ∧ ScanAt w' c s k ∧ ReaderAt w' b c l))

set_option maxRecDepth 100000 in
theorem reader_next (w : World) (b c : Nat) (l : List UInt8) (s : ByteArray) (j : Nat) (h : ScanAt w c s j) (hr : ReaderAt w b c l) (hbc : c < b) (hl : l.length ≤ 1000000) :
    Calls Try.prog 115 #[.pointer (some ⟨b, 0, none⟩)] w (NextPost w b c l s j) := by
  obtain ⟨j1, hj1⟩ : ∃ j1, (if nextIs s j 92 = true then j + 1 else j) = j1 := ⟨_, rfl⟩
  obtain ⟨va, vc, r0, r1, r2, hbs, hbh, ho⟩ := reader_cells hr
  have TK := Lib.hid (scan_byte w c s j 92 h)
  have HR := Lib.hid hr; clear hr
  have H := Lib.hid h; clear h
  have HJ := Lib.hid hj1; clear hj1
  clear hbh ho
  go_enter Try.func115, Try.ntmps115
  go_wp2_with fail
  refine TK.out.mono ?_
  rintro e w1 ⟨rfl, hs1, hf1⟩
  rw [HJ.out] at hs1
  have hr1 := readerAt_frC HR.out H.out hf1 hbc
  clear r0 r1 r2
  obtain ⟨va1, vc1, r0, r1, r2, hbs1, hbh1, ho1⟩ := reader_cells hr1
  have HF1 := Lib.hid (FrB.ofFrC (b := b) hf1 (by omega)); clear hf1
  have HS1 := Lib.hid hs1; clear hs1
  have HR1 := Lib.hid hr1; clear hr1
  clear hbh1 ho1 TK
  by_cases hlt : j1 < s.size
  · have TK := Lib.hid (scan_peek_yesF w1 c s j1 HS1.out hlt)
    have hb1 : ((s[j1].toNat : Nat) : Int) ≤ 255 := by have := s[j1].toNat_lt; omega
    go_wp2_with fail
    refine TK.out.mono ?_
    rintro e w2 ⟨rfl, hs2, hf2⟩
    have hr2 := readerAt_frC HR1.out HS1.out hf2 hbc
    clear r0 r1 r2
    obtain ⟨va2, vc2, r0, r1, r2, hbs2, hbh2, ho2⟩ := reader_cells hr2
    have HF2 := Lib.hid (HF1.out.trans (FrB.ofFrC (b := b) hf2 (by omega))); clear hf2
    have HS2 := Lib.hid hs2; clear hs2
    have HR2 := Lib.hid hr2; clear hr2
    have HBH := Lib.hid hbh2; clear hbh2
    have HO := Lib.hid ho2; clear ho2
    clear TK HF1 HS1 HR1
    go_wp2_with fail
    refine (isValue_any _ _).mono ?_
    rintro e w' ⟨rfl, rfl⟩
    by_cases hv : bValue (s[j1].toNat : Int) = true
    · rw [hv]
      have NX := Lib.hid (next_yes s j j1 HJ.out hlt hv)
      have hjj : j ≤ j1 := by have := HJ.out; split at this <;> omega
      clear hv
      obtain ⟨x, hx⟩ : ∃ x, s[j1] = x := ⟨_, rfl⟩
      have NI := Lib.hid (nextIs_at s j1 hlt (x.toNat : Int))
      rw [hx]
      rw [hx] at NX
      rw [hx] at NI
      clear hx
      go_wp2_with (at_builtin; refine app_one 29 5 (.int .u8 0) 1 Try.underlying29 info_u8 rfl (by rfl) (.tmp 29) (.tmp 31) (by rfl) w2 (b + 1) (.slice va2 l.length vc2) l.length (u8cells l) (.int .u8 (x.toNat : Int)) (by rfl) HO.out (by rfl) rfl ?_ ?_ ?_ ?_)
      · omega
      · unfold maxLen; omega
      · omega
      intro g cp w3 hown hg hat hbg hgl
      have hb3 : w3.heap[b]? = some (.cells #[.pointer (some ⟨c, 0, none⟩), .slice va2 l.length vc2] 120 (0, 0)) := by
        rw [hg.block b hbs2 (fun e => own_ne HO.out HBH.out (by decide) e.symm)]; exact HBH.out
      have hs3 : ScanAt w3 c s j1 := ⟨by rw [hg.block c (scan_cells HS2.out).2.2.2 (fun e => own_ne HO.out HS2.out.1 (by decide) e.symm)]; exact HS2.out.1, HS2.out.2⟩
      have hf3 := FrB.grown HF2.out HO.out hg (by omega)
      have d1 : w3.cell? ⟨b, 1, none⟩ = some (.slice va2 l.length vc2) := by rw [cell_of_row w3 b 1 _ _ _ hb3]; rfl
      have d2 : w3.frozen? ⟨b, 1, none⟩ = false := frozen_of_row w3 b 1 _ _ hb3
      have d0 : w3.cell? ⟨b, 0, none⟩ = some (.pointer (some ⟨c, 0, none⟩)) := by rw [cell_of_row w3 b 0 _ _ _ hb3]; rfl
      have hcb : ¬ c = b := by omega
      have hr4 : ReaderAt (w3.setCell ⟨b, 1, none⟩ (.slice (some ⟨g, 0, none⟩) (l.length + 1) cp)) b c (l ++ [x]) := by
        refine ⟨_, heap_setCell_at hb3 1 _, ?_⟩
        rw [u8cells_append, List.length_append]
        exact ownsRow_setCell_other hown (own_ne hown hb3 (by decide)) _
      have hs4 : ScanAt (w3.setCell ⟨b, 1, none⟩ (.slice (some ⟨g, 0, none⟩) (l.length + 1) cp)) c s j1 := ⟨(Below.heap_setCell _ _ _ _ hcb).trans hs3.1, hs3.2⟩
      have hf4 := FrB.setCell hf3 1 (.slice (some ⟨g, 0, none⟩) (l.length + 1) cp)
      have hbs4 : b < w3.heap.size := lt_of_block hb3
      have HS4 := Lib.hid hs4; clear hs4 hs3
      have HR4 := Lib.hid hr4; clear hr4 hb3 hown hg hat
      have HF4 := Lib.hid hf4; clear hf4 hf3
      clear r0 r1 r2 HO HBH HF2 HS2 HR2 H HR
      go_wp2_with fail
      refine (scan_byte _ c s j1 _ HS4.out).mono ?_
      rintro e w5 ⟨rfl, hs5, hf5⟩
      rw [NI.out]
      rw [NI.out] at hs5
      have hr5 := readerAt_frC HR4.out HS4.out hf5 hbc
      have hf6 := HF4.out.trans (FrB.ofFrC (b := b) hf5 (by simp; omega))
      have HS5 := Lib.hid hs5; clear hs5
      have HR5 := Lib.hid hr5; clear hr5
      have HF6 := Lib.hid hf6; clear hf6 hf5
      clear d0 d1 d2
      have hxx : ((x.toNat : Int) == (x.toNat : Int)) = true := by simp
      rw [hxx] at HS5
      rw [hxx]
      go_wp2_with fail
      go_ret
      refine ⟨true, rfl, HF6.out, .inl ⟨rfl, x, _, NX.out, ?_, HR5.out⟩⟩
      have := HS5.out
      rw [if_pos trivial] at this
      rw [show j + (j1 + 1 - j) = j1 + 1 from by omega]
      exact this
    · rw [Bool.not_eq_true] at hv
      rw [hv]
      have NX := Lib.hid (next_no s j j1 HJ.out (fun _ => hv))
      have hjj : j ≤ j1 := by have := HJ.out; split at this <;> omega
      clear hv
      go_wp2_with fail
      go_ret
      exact ⟨false, rfl, HF2.out, .inr ⟨rfl, NX.out, j1, hjj, HS2.out, HR2.out⟩⟩
  · have TK := Lib.hid (scan_peek_noF w1 c s j1 HS1.out (by omega))
    have NX := Lib.hid (next_no s j j1 HJ.out (fun h => absurd h hlt))
    have hjj : j ≤ j1 := by have := HJ.out; split at this <;> omega
    go_wp2_with fail
    refine TK.out.mono ?_
    rintro e w2 ⟨rfl, hs2, hf2⟩
    have HR2 := Lib.hid (readerAt_frC HR1.out HS1.out hf2 hbc)
    have HF2 := Lib.hid (HF1.out.trans (FrB.ofFrC (b := b) hf2 (by omega))); clear hf2
    have HS2 := Lib.hid hs2; clear hs2
    go_wp2_with fail
    go_ret
    exact ⟨false, rfl, HF2.out, .inr ⟨rfl, NX.out, j1, hjj, HS2.out, HR2.out⟩⟩

end Go.Proofs.Ythhpijmkhhdhhaa
