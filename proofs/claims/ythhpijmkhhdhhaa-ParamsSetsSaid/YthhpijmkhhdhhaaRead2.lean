/- quoted.Read, Word, Unquote: at a scanner and at none. -/
import Derived.Test.YthhpijmkhhdhhaaRead
namespace Go.Proofs.Ythhpijmkhhdhhaa
open Go.RowKit
set_option linter.unusedVariables false
set_option linter.unusedSimpArgs false

def oT : Option (List UInt8 × Nat) → ByteArray | some p => ⟨p.1.toArray⟩ | none => ⟨#[]⟩
def oN : Option (List UInt8 × Nat) → Nat | some p => p.2 | none => 0
def oOk : Option (List UInt8 × Nat) → Bool | some p => true | none => false

def FrontPost (w : World) (c : Nat) (s : ByteArray) (i : Nat) (o : Option (List UInt8 × Nat)) (e : Ending) (w' : World) : Prop :=
  e = .returned (.tuple #[.string (oT o), .bool (oOk o)]) ∧ ScanAt w' c s (i + oN o) ∧ FrC c w w'

theorem scanAt_block {w w' : World} {c : Nat} {s : ByteArray} {i : Nat} (h : ScanAt w c s i) (hb : Below w.heap.size w w') : ScanAt w' c s i := ⟨(hb.block _ (lt_of_block h.1)).trans h.1, h.2⟩
theorem FrB.toFrC {c : Nat} {w w1 : World} (h : FrB c w.heap.size w w1) : FrC c w w1 := ⟨h.os, h.tape, h.output, h.size, h.block⟩

/-- What the loop of Read keeps. -/
def RL (w : World) (b c : Nat) (s : ByteArray) (i : Nat) (okb : Bool) (j : Nat) (l : List UInt8) (wr : World) : Prop :=
  FrB c b w wr ∧ i ≤ j ∧ ScanAt wr c s j ∧ ReaderAt wr b c l ∧ l.length ≤ j ∧ (okb = true → frontL (ahead s i) = (bodyL (ahead s j)).map (fun p => (l ++ p.1, p.2 + (j - i)))) ∧ (okb = false → frontL (ahead s i) = none)

theorem front_start (s : ByteArray) (i : Nat) (h : nextIs s i 34 = true) : i < s.size ∧ frontL (ahead s i) = (bodyL (ahead s (i + 1))).map (fun p => ([] ++ p.1, p.2 + (i + 1 - i))) := by
  by_cases hlt : i < s.size
  · refine ⟨hlt, ?_⟩
    rw [nextIs_at s i hlt] at h
    have e : s[i] = 34 := UInt8.toNat_inj.1 (by have := eq_of_beq h; have e : (34 : UInt8).toNat = 34 := rfl; omega)
    rw [ahead_cons s i hlt]
    simp only [frontL]
    rw [if_pos e, show i + 1 - i = 1 from by omega]
    rfl
  · rw [nextIs_end s i (by omega)] at h; cases h

theorem front_none (s : ByteArray) (i : Nat) (h : nextIs s i 34 = false) : frontL (ahead s i) = none := by
  by_cases hlt : i < s.size
  · rw [nextIs_at s i hlt] at h
    have e : s[i] ≠ 34 := fun e => by rw [e] at h; cases h
    rw [ahead_cons s i hlt]
    simp only [frontL]
    rw [if_neg e]
  · rw [ahead_end s i (by omega)]; rfl

theorem body_end (s : ByteArray) (j : Nat) (h : nextIs s j 34 = true) : bodyL (ahead s j) = some ([], 1) := by
  by_cases hlt : j < s.size
  · rw [nextIs_at s j hlt] at h
    have e : s[j] = 34 := UInt8.toNat_inj.1 (by have := eq_of_beq h; have e : (34 : UInt8).toNat = 34 := rfl; omega)
    rw [ahead_cons s j hlt, e, bodyL_quote]
  · rw [nextIs_end s j (by omega)] at h; cases h

theorem body_next (s : ByteArray) (j : Nat) (h : nextIs s j 34 = false) (x : UInt8) (n : Nat) (hx : nextL (ahead s j) = some (x, n)) : bodyL (ahead s j) = (bodyL (ahead s (j + n))).map (fun p => (x :: p.1, p.2 + n)) := by
  by_cases hlt : j < s.size
  · rw [nextIs_at s j hlt] at h
    have e : s[j] ≠ 34 := fun e => by rw [e] at h; cases h
    have hs := bodyL_step s[j] (ahead s (j + 1)) e
    rw [← ahead_cons s j hlt, hx] at hs
    rw [hs]
    simp only [ahead_drop]
  · rw [ahead_end s j (by omega)] at hx; cases hx

theorem body_stop (s : ByteArray) (j : Nat) (h : nextIs s j 34 = false) (hx : nextL (ahead s j) = none) : bodyL (ahead s j) = none := by
  by_cases hlt : j < s.size
  · rw [nextIs_at s j hlt] at h
    have e : s[j] ≠ 34 := fun e => by rw [e] at h; cases h
    have hs := bodyL_step s[j] (ahead s (j + 1)) e
    rw [← ahead_cons s j hlt, hx] at hs
    exact hs
  · rw [ahead_end s j (by omega)]; rfl

theorem rl_next {w w2 w3 : World} {b c : Nat} {s : ByteArray} {i j n : Nat} {l : List UInt8} {x : UInt8} (h : FrB c b w w3) (hij : i ≤ j) (hl : l.length ≤ j) (hn : nextIs s j 34 = false)
    (hfr : frontL (ahead s i) = (bodyL (ahead s j)).map (fun p => (l ++ p.1, p.2 + (j - i)))) (hx : nextL (ahead s j) = some (x, n)) (hs : ScanAt w3 c s (j + n)) (hr : ReaderAt w3 b c (l ++ [x])) : RL w b c s i true (j + n) (l ++ [x]) w3 := by
  have h0 := nextL_pos hx
  refine ⟨h, by omega, hs, hr, by simp; omega, fun _ => ?_, fun h => (by cases h)⟩
  rw [hfr, body_next s j hn x n hx, Option.map_map]
  congr 1
  funext p
  simp only [Function.comp, List.append_assoc, List.singleton_append]
  rw [show p.2 + n + (j - i) = p.2 + (j + n - i) from by omega]

theorem rl_stop {w w3 : World} {b c : Nat} {s : ByteArray} {i j k : Nat} {l : List UInt8} (h : FrB c b w w3) (hij : i ≤ j) (hl : l.length ≤ j) (hn : nextIs s j 34 = false)
    (hfr : frontL (ahead s i) = (bodyL (ahead s j)).map (fun p => (l ++ p.1, p.2 + (j - i)))) (hx : nextL (ahead s j) = none) (hk : j ≤ k) (hs : ScanAt w3 c s k) (hr : ReaderAt w3 b c l) : RL w b c s i false k l w3 := by
  refine ⟨h, by omega, hs, hr, by omega, fun h => (by cases h), fun _ => ?_⟩
  rw [hfr, body_stop s j hn hx]; rfl

theorem reader_text {w : World} {b : Nat} {va : Option Addr} {n vc : Nat} {l : List UInt8} (h : w.ownsRow (b + 1) 5 1 (.slice va n vc) l.length (u8cells l)) : (convert 29 9 (.slice va n vc)).run Try.prog w = .ok (.string ⟨l.toArray⟩) w := conv_own w (b + 1) _ l h

set_option maxRecDepth 100000 in
set_option maxHeartbeats 1000000 in
theorem quoted_read (w : World) (c : Nat) (s : ByteArray) (i : Nat) (h : ScanAt w c s i) :
    Calls Try.prog 80 #[.pointer (some ⟨c, 0, none⟩)] w (FrontPost w c s i (frontL (ahead s i))) := by
  have hcw := (scan_cells h).2.2.2
  have hi := h.2.1
  have hs := h.2.2
  have RA : ReaderAt (w.alloc (.cells #[.pointer (some ⟨c, 0, none⟩), .slice none 0 0] 120)) w.heap.size c [] := ⟨_, heap_alloc_new w _, World.ownsRow_nil _ _ _ _⟩
  have hal : Below w.heap.size w (w.alloc (.cells #[.pointer (some ⟨c, 0, none⟩), .slice none 0 0] 120)) := (Below.refl _ _).alloc (Nat.le_refl _) _
  have SA := scanAt_block h hal
  have FB := FrB.ofFrC (b := w.heap.size) (FrC.ofBelow (c := c) hal) (Nat.le_refl _)
  have HR := Lib.hid RA; clear RA
  have HS := Lib.hid SA; clear SA
  have HF := Lib.hid FB; clear FB
  clear hal
  have AT := Lib.hid (scan_at w c s i h)
  clear h
  go_enter Try.func80, Try.ntmps80
  go_wp2_with fail
  refine AT.out.mono ?_
  rintro e w' ⟨rfl, rfl⟩
  clear AT
  go_wp2_with fail
  generalize w.alloc (.cells #[.pointer (some ⟨c, 0, none⟩), .slice none 0 0] 120) = w1 at HR HS HF
  refine (scan_byte w1 c s i 34 HS.out).mono ?_
  rintro e w2 ⟨rfl, hs2, hf2⟩
  have hb1 : w.heap.size < w1.heap.size := by obtain ⟨_, _, _, _, _, hx, _⟩ := reader_cells HR.out; exact hx
  have hr2 := readerAt_frC HR.out HS.out hf2 hcw
  have hfb2 := HF.out.trans (FrB.ofFrC (b := w.heap.size) hf2 (by omega))
  obtain ⟨okb, hok⟩ : ∃ okb, nextIs s i 34 = okb := ⟨_, rfl⟩
  rw [hok] at hs2 ⊢
  have hinv : ∃ j, RL w w.heap.size c s i okb j [] w2 ∧ j ≤ s.size := by
    by_cases hq : okb = true
    · subst hq
      rw [if_pos rfl] at hs2
      exact ⟨i + 1, ⟨hfb2, by omega, hs2, hr2, by simp, fun _ => (front_start s i hok).2, fun h => (by cases h)⟩, hs2.2.1⟩
    · rw [Bool.not_eq_true] at hq
      subst hq
      rw [if_neg (by simp)] at hs2
      exact ⟨i, ⟨hfb2, by omega, hs2, hr2, by simp, fun h => (by cases h), fun _ => front_none s i hok⟩, hi⟩
  obtain ⟨j0, hinv, hj0⟩ := hinv
  have HI := Lib.hid hinv; clear hinv hs2 hf2 hr2 hfb2 hok
  clear HR HS HF hb1
  go_wp2_with fail
  go_loopg [6] (if okb = true then s.size + 1 - j0 else 0) (fun g ok wr => ∃ (okb : Bool) (j : Nat) (l : List UInt8), ok = .bool okb ∧ g = (if okb = true then s.size + 1 - j else 0) ∧ Hid (RL w w.heap.size c s i okb j l wr))
  case atStart => exact ⟨okb, j0, [], rfl, rfl, HI.out⟩
  case round =>
    obtain ⟨okr, j, l, rfl, hg, hinv⟩ := hrel
    clear HI
    obtain ⟨hfb, hij, hsc, hrd, hll, hyes, hno⟩ := hinv.out
    clear hinv
    obtain ⟨va, vc, r0, r1, r2, hbs, hbh, ho⟩ := reader_cells hrd
    have hjs := hsc.2.1
    have HC := Lib.hid (reader_text ho)
    have HS := Lib.hid hsc; clear hsc
    have HR := Lib.hid hrd; clear hrd
    have HF := Lib.hid hfb; clear hfb
    have HY := Lib.hid hyes; clear hyes
    have HN := Lib.hid hno; clear hno hbh ho
    have HG := Lib.hid hg; clear hg
    by_cases hk : okr = true
    · subst hk
      have HY2 := Lib.hid (HY.out rfl); clear HY HN
      have hg2 := HG.out
      rw [if_pos rfl] at hg2
      have HG2 := Lib.hid hg2; clear hg2 HG
      have TK := Lib.hid (scan_byte wr c s j 34 HS.out)
      go_wp2_with fail
      refine TK.out.mono ?_
      rintro e w3 ⟨rfl, hs3, hf3⟩
      have hr3 := readerAt_frC HR.out HS.out hf3 hcw
      have hfb3 := HF.out.trans (FrB.ofFrC (b := w.heap.size) hf3 (by omega))
      clear TK r0 r1 r2 HC
      obtain ⟨va, vc, r0, r1, r2, hbs3, hbh3, ho3⟩ := reader_cells hr3
      have HC := Lib.hid (reader_text ho3)
      clear hbh3 ho3
      by_cases hq : nextIs s j 34 = true
      · rw [hq]
        rw [hq, if_pos rfl] at hs3
        have BE := Lib.hid (body_end s j hq)
        have HS3 := Lib.hid hs3; clear hs3
        have HF3 := Lib.hid hfb3; clear hfb3 hf3 hr3 hq
        have hc0 := HC.out
        go_wp2_with fail
        go_ret2
        have hfr := HY2.out
        rw [BE.out] at hfr
        rw [hfr]
        refine ⟨ret_sb ?_ rfl, ?_, HF3.out.toFrC⟩
        · show _ = (⟨(l ++ []).toArray⟩ : ByteArray)
          rw [List.append_nil]
        · show ScanAt _ c s (i + (1 + (j - i)))
          rw [show i + (1 + (j - i)) = j + 1 from by omega]
          exact HS3.out
      · rw [Bool.not_eq_true] at hq
        rw [hq]
        rw [hq, if_neg (by simp)] at hs3
        have NX := Lib.hid (reader_next w3 w.heap.size c l s j hs3 hr3 hcw (by omega))
        have HQ := Lib.hid hq; clear hq
        have HF3 := Lib.hid hfb3; clear hfb3 hf3 hr3 hs3
        go_wp2_with fail
        refine NX.out.mono ?_
        rintro e w4 ⟨ok, rfl, hfb4, hcase⟩
        have hf4 := HF3.out.trans hfb4
        rcases hcase with ⟨rfl, x, n, hx, hs4, hr4⟩ | ⟨rfl, hx, k, hjk, hs4, hr4⟩
        · have h0 := nextL_pos hx
          have hj4 := hs4.2.1
          have RN := Lib.hid (rl_next (w2 := w) hf4 hij hll HQ.out HY2.out hx hs4 hr4)
          clear hx hs4 hr4 hf4 hfb4 NX
          go_wp2_with fail
          go_roundg (s.size + 1 - (j + n))
          case measure => have := HG2.out; omega
          case rel => exact ⟨true, j + n, l ++ [x], rfl, by rw [if_pos rfl], RN.out⟩
        · have RN := Lib.hid (rl_stop hf4 hij hll HQ.out HY2.out hx hjk hs4 hr4)
          clear hx hs4 hr4 hf4 hfb4 NX
          go_wp2_with fail
          go_roundg 0
          case measure => have := HG2.out; omega
          case rel => exact ⟨false, k, l, rfl, by rw [if_neg (by simp)], RN.out⟩
    · rw [Bool.not_eq_true] at hk
      subst hk
      have HN2 := Lib.hid (HN.out rfl); clear HN HY
      have BK := Lib.hid (scan_back wr c s j (i : Int) HS.out)
      go_wp2_with fail
      refine BK.out.mono ?_
      rintro e w3 ⟨rfl, hs3, hf3⟩
      rw [if_pos (by omega)] at hs3
      have HF3 := Lib.hid (HF.out.trans (FrB.ofFrC (b := w.heap.size) hf3 (by omega)))
      have HS3 := Lib.hid hs3; clear hs3 hf3 BK
      go_wp2_with fail
      go_ret2
      rw [HN2.out]
      exact ⟨ret_sb rfl rfl, HS3.out, HF3.out.toFrC⟩

end Go.Proofs.Ythhpijmkhhdhhaa
