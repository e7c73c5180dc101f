/- Scanner's While at whatever function; what stands on it. -/
import Derived.Test.YthhpijmkhhdhhaaScan
import Derived.Test.YthhpijmkhhdhhaaAll
import Derived.Deep.LoopGhost
namespace Go.Proofs.Ythhpijmkhhdhhaa
open Go.RowKit
set_option linter.unusedVariables false
set_option linter.unusedSimpArgs false

/-- How many bytes While takes. -/
def whileN (p : List UInt8 → Bool) (l : List UInt8) : Nat := if (allRun p [] l).1 then l.length else (allRun p [] l).2.length - 1

/-- The bytes ahead of a scanner. -/
def ahead (s : ByteArray) (i : Nat) : List UInt8 := s.data.toList.drop i

theorem ahead_take_succ (s : ByteArray) (i j : Nat) (hi : i ≤ j) (h : j < s.size) : (ahead s i).take (j + 1 - i) = (ahead s i).take (j - i) ++ [s[j]] := by
  unfold ahead
  rw [show j + 1 - i = (j - i) + 1 from by omega, List.take_succ_eq_append_getElem (by rw [List.length_drop, ← Lib.size_eq]; omega)]
  congr 2
  simp only [List.getElem_drop, show i + (j - i) = j from by omega]; rfl

theorem ahead_at (s : ByteArray) (i j : Nat) (hi : i ≤ j) (h : j < s.size) : ∃ r, ahead s i = (ahead s i).take (j - i) ++ s[j] :: r := by
  refine ⟨(ahead s i).drop (j + 1 - i), ?_⟩
  have h2 := List.take_append_drop (j + 1 - i) (ahead s i)
  rw [ahead_take_succ s i j hi h, List.append_assoc] at h2
  exact h2.symm

theorem ahead_len (s : ByteArray) (i : Nat) : (ahead s i).length = s.size - i := by unfold ahead; rw [List.length_drop, ← Lib.size_eq]

theorem whileN_all {p : List UInt8 → Bool} {l : List UInt8} (h : allGood p l) : whileN p l = l.length := by unfold allGood at h; unfold whileN; rw [h]; rfl

def WhilePost (c : Nat) (s : ByteArray) (i : Nat) (p : List UInt8 → Bool) (Inv : List UInt8 → World → Prop) (e : Ending) (w' : World) : Prop :=
  e = .returned (.string (s.extract i (i + whileN p (ahead s i)))) ∧ ScanAt w' c s (i + whileN p (ahead s i)) ∧ Inv (allRun p [] (ahead s i)).2 w'

set_option maxRecDepth 100000 in
theorem while_gen (k : Nat) (first cap : Array Value) (c : Nat) (s : ByteArray) (i : Nat) (p : List UInt8 → Bool) (Inv : List UInt8 → World → Prop) (w : World)
    (hk : ∀ args w', (callFunc k args).run Try.prog w' = .ok (.enter k args) w') (h : ScanAt w c s i)
    (hfr : ∀ seen w' w'', Inv seen w' → FrC c w' w'' → Inv seen w'')
    (hcall : ∀ seen (x : UInt8) w', (∃ r, ahead s i = seen ++ x :: r) → Inv seen w' → Calls Try.prog k (first.push (.int .u8 (x.toNat : Int)) ++ cap) w' fun e w'' => e = .returned (.bool (p (seen ++ [x]))) ∧ Inv (seen ++ [x]) w'' ∧ w''.heap[c]? = w'.heap[c]?)
    (h0 : Inv [] w) :
    Calls Try.prog 64 #[.pointer (some ⟨c, 0, none⟩), .func (.func k) first cap] w (WhilePost c s i p Inv) := by
  have R := Lib.hid (scan_at w c s i h)
  have HF := Lib.hid hcall; clear hcall
  have HR := Lib.hid hfr; clear hfr
  have H0 := Lib.hid h0; clear h0
  have hi := h.2.1
  have hs := h.2.2
  have H := Lib.hid h; clear h
  go_enter Try.func64, Try.ntmps64
  go_wp2_with fail
  refine R.out.mono ?_
  rintro e w' ⟨rfl, rfl⟩
  clear R
  go_wp2_with fail
  go_loopg [6, 7] (s.size - i) (fun g _ _ wr => ∃ j : Nat, i ≤ j ∧ j ≤ s.size ∧ g = s.size - j ∧ Hid (ScanAt wr c s j ∧ Inv ((ahead s i).take (j - i)) wr ∧ allGood p ((ahead s i).take (j - i))))
  case atStart => exact ⟨i, Nat.le_refl _, hi, rfl, H.out, by simpa using H0.out, by simpa using allGood_nil p⟩
  case round =>
    obtain ⟨j, hij, hj, hg, hinv⟩ := hrel
    by_cases hlt : j < s.size
    · have P := Lib.hid (scan_peek_yes wr c s j hinv.out.1 hlt)
      go_wp2_with fail
      refine P.out.mono ?_
      rintro e w1 ⟨rfl, n, rfl⟩
      clear P
      have C := Lib.hid (HF.out _ s[j] (wr.drewN n) (ahead_at s i j hij hlt) (HR.out _ _ _ hinv.out.2.1 ((FrC.refl c wr).drewN n)))
      go_wp2_with fail
      refine C.out.mono ?_
      rintro e w2 ⟨rfl, hi2, hc2⟩
      clear C
      have HS2 : ScanAt w2 c s j := ⟨by rw [hc2]; exact hinv.out.1.1, hinv.out.1.2⟩
      have HI2 := Lib.hid hi2; clear hi2 hc2
      have HP := Lib.hid hinv.out.2.2; clear hinv
      obtain ⟨c0, c1, c2, _⟩ := scan_cells HS2
      have HSS := Lib.hid HS2; clear HS2
      have HG := Lib.hid hg; clear hg
      by_cases hp : p ((ahead s i).take (j - i) ++ [s[j]]) = true
      · rw [hp]
        have HPT := Lib.hid hp; clear hp
        go_wp2_with fail
        go_roundg (s.size - (j + 1))
        case measure => have := HG.out; omega
        case rel =>
          refine ⟨j + 1, by omega, by omega, rfl, ⟨scanAt_set HSS.out (j + 1) _ (by omega) (by omega), ?_, ?_⟩⟩
          · rw [ahead_take_succ s i j hij hlt]
            exact HR.out _ _ _ HI2.out ((FrC.refl c w2).setCell _ _)
          · rw [ahead_take_succ s i j hij hlt]
            exact allGood_snoc p _ _ HP.out HPT.out
      · rw [Bool.not_eq_true] at hp
        rw [hp]
        have HPF := Lib.hid hp; clear hp
        have hij2 : (i : Int) ≤ j := by omega
        have hj2 : (j : Int) ≤ s.size := by omega
        go_wp2_with fail
        go_quiet (fail)
        go_wp2_with fail
        go_ret
        obtain ⟨r, hr⟩ := ahead_at s i j hij hlt
        have h2 := allGood_stop p _ s[j] r HP.out HPF.out
        rw [← hr] at h2
        have hw : whileN p (ahead s i) = j - i := by
          unfold whileN
          rw [h2]
          simp only [Bool.false_eq_true, if_false, List.length_append, List.length_take, ahead_len, List.length_cons, List.length_nil]
          omega
        refine ⟨?_, ?_, ?_⟩
        · rw [hw, show i + (j - i) = j from by omega]; rfl
        · rw [hw, show i + (j - i) = j from by omega]; exact HSS.out
        · rw [h2]; exact HR.out _ _ _ HI2.out ((FrC.refl c w2).drewN _)
    · obtain rfl : j = s.size := by omega
      have P := Lib.hid (scan_peek_no wr c s s.size hinv.out.1 (Nat.le_refl _))
      have hij2 : (i : Int) ≤ s.size := by omega
      obtain ⟨c0, c1, c2, _⟩ := scan_cells hinv.out.1
      have HG := Lib.hid hg; clear hg
      go_wp2_with fail
      refine P.out.mono ?_
      rintro e w1 ⟨rfl, n, rfl⟩
      clear P
      go_wp2_with fail
      go_quiet (fail)
      go_wp2_with fail
      go_ret
      have ht : (ahead s i).take (s.size - i) = ahead s i := List.take_of_length_le (by rw [ahead_len]; exact Nat.le_refl _)
      have hx := hinv.out
      rw [ht] at hx
      have hw : whileN p (ahead s i) = s.size - i := by rw [whileN_all hx.2.2, ahead_len]
      refine ⟨?_, ?_, ?_⟩
      · rw [hw, show i + (s.size - i) = s.size from by omega]; rfl
      · rw [hw, show i + (s.size - i) = s.size from by omega]; exact hx.1
      · have h3 := hx.2.2; unfold allGood at h3; rw [h3]; exact HR.out _ _ _ hx.2.1 (((FrC.refl c wr).drewN _).drewN _)

end Go.Proofs.Ythhpijmkhhdhhaa
