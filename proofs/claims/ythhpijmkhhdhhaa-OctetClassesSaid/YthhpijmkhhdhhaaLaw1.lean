/- Contracts: octet.Same, the law's own few and awake; the walk of the law OctetFolds. -/
import Derived.Test.YthhpijmkhhdhhaaAll
import Derived.Test.YthhpijmkhhdhhaaRFold
namespace Go.Proofs.Ythhpijmkhhdhhaa
open Go.RowKit
set_option linter.unusedVariables false
set_option linter.unusedSimpArgs false

def sameL (a b : List UInt8) : Bool := foldL a == foldL b

/-- The first n bytes of a text. -/
def cutS (n : Nat) (s : ByteArray) : ByteArray := ⟨(s.data.toList.take n).toArray⟩

theorem cutS_data (n : Nat) (s : ByteArray) : (cutS n s).data.toList = s.data.toList.take n := rfl
theorem cutS_size (n : Nat) (s : ByteArray) : (cutS n s).size = min n s.size := by
  rw [Lib.size_eq, cutS_data, List.length_take, ← Lib.size_eq]
theorem extract_cutS (n : Nat) (s : ByteArray) (k : Nat) (h : k = min s.size n) : s.extract 0 k = cutS n s := by
  subst h
  rw [Lib.extract_eq, cutS, List.drop_zero, Nat.sub_zero]
  congr 2
  rw [Lib.size_eq]
  apply List.take_eq_take_iff.2
  omega
theorem beq_lists (a b : List UInt8) : ((⟨a.toArray⟩ : ByteArray).toList == (⟨b.toArray⟩ : ByteArray).toList) = (a == b) := by
  rw [Lib.toList_data, Lib.toList_data]

theorem same_any (a b : ByteArray) (w : World) (ha : a.size ≤ maxLen) (hb : b.size ≤ maxLen) :
    Calls Try.prog 23 #[.string a, .string b] w fun e w' => e = .returned (.bool (sameL a.data.toList b.data.toList)) ∧ Below w.heap.size w w' := by
  go_enter Try.func23, Try.ntmps23
  go_wp2_with fail
  refine (fold_any a _ ha).mono ?_
  rintro e w1 ⟨rfl, h1⟩
  have H1 := Lib.hid h1; clear h1
  go_wp2_with fail
  refine (fold_any b _ hb).mono ?_
  rintro e w2 ⟨rfl, h2⟩
  have H2 := Lib.hid h2; clear h2
  go_wp2_with fail
  go_ret
  exact ⟨ret_bool rfl, H1.out.trans (H2.out.mono H1.out.size)⟩

theorem few1_any (s : ByteArray) (w : World) (hs : s.size ≤ maxLen) :
    Calls Try.prog 22 #[.string s] w fun e w' => e = .returned (.string (cutS 300 s)) ∧ w = w' := by
  unfold maxLen at hs
  go_enter Try.func22, Try.ntmps22
  go_wp2_with fail
  go_ret
  exact ⟨ret_str (extract_cutS 300 s _ (by omega)), rfl⟩

theorem same_const (a b : ByteArray) (v : Bool) (w : World) (ha : a.size ≤ maxLen) (hb : b.size ≤ maxLen) (h : sameL a.data.toList b.data.toList = v) :
    Calls Try.prog 23 #[.string a, .string b] w fun e w' => e = .returned (.bool v) ∧ Below w.heap.size w w' := by
  subst h; exact same_any a b w ha hb
theorem token_const (a : ByteArray) (v : Bool) (w : World) (ha : a.size ≤ maxLen) (h : tokenL a.data.toList = v) :
    Calls Try.prog 26 #[.string a] w fun e w' => e = .returned (.bool v) ∧ Below w.heap.size w w' := by
  subst h; exact token_any a w ha
theorem isBlank_const (n : Int) (v : Bool) (w : World) (h : bBlank n = v) :
    Calls Try.prog 36 #[.int .u8 n] w fun e w' => e = .returned (.bool v) ∧ w = w' := by
  subst h; exact isBlank_any n w

theorem awake1_any (w : World) :
    Calls Try.prog 21 #[] w fun e w' => e = .returned (.bool true) ∧ Below w.heap.size w w' := by
  go_enter Try.func21, Try.ntmps21
  go_wp2_with fail
  refine (same_const _ _ true _ (by decide) (by decide) (by decide +kernel)).mono ?_
  rintro e w1 ⟨rfl, h1⟩
  have H1 := Lib.hid h1; clear h1
  go_wp2_with fail
  refine (token_const _ true _ (by decide) (by decide +kernel)).mono ?_
  rintro e w2 ⟨rfl, h2⟩
  have H2 := Lib.hid h2; clear h2
  go_wp2_with fail
  refine (token_const _ false _ (by decide) (by decide +kernel)).mono ?_
  rintro e w3 ⟨rfl, h3⟩
  have H3 := Lib.hid h3; clear h3
  go_wp2_with fail
  refine (isBlank_const _ true _ (by decide +kernel)).mono ?_
  rintro e w4 ⟨rfl, rfl⟩
  go_wp2_with fail
  go_ret
  exact ⟨rfl, (H1.out.trans (H2.out.mono H1.out.size)).trans (H3.out.mono (Nat.le_trans H1.out.size H2.out.size))⟩

theorem bLow_idem (n : Int) : bLow (bLow n) = bLow n := by
  unfold bLow
  by_cases h : 65 ≤ n ∧ n ≤ 90
  · rw [if_pos h, if_neg (by omega)]
  · rw [if_neg h, if_neg h]

theorem lowB_idem (c : UInt8) : lowB (lowB c) = lowB c := by
  apply UInt8.toNat_inj.1
  have h1 := lowB_toNat (lowB c)
  have h2 := lowB_toNat c
  rw [h2, bLow_idem] at h1
  omega

theorem foldL_idem (l : List UInt8) : foldL (foldL l) = foldL l := by
  unfold foldL
  rw [List.map_map]
  congr 1
  funext c
  exact lowB_idem c

theorem foldL_size (l : List UInt8) : (⟨(foldL l).toArray⟩ : ByteArray).size = l.length := by
  rw [Lib.size_eq]; simp [foldL]

theorem sameL_refl_fold (l : List UInt8) : sameL l (foldL l) = true := by simp [sameL, foldL_idem]
theorem sameL_comm (a b : List UInt8) : sameL a b = sameL b a := by unfold sameL; exact Bool.beq_comm

theorem fold_const (s r : ByteArray) (w : World) (hs : s.size ≤ maxLen) (h : foldL s.data.toList = r.data.toList) :
    Calls Try.prog 24 #[.string s] w fun e w' => e = .returned (.string r) ∧ Below w.heap.size w w' := by
  have := fold_any s w hs
  rw [h, Lib.mk_data] at this
  exact this

theorem rFold_const (s r : ByteArray) (w : World) (hs : s.size ≤ maxLen) (h : foldL s.data.toList = r.data.toList) :
    Calls Try.prog 25 #[.string s] w fun e w' => e = .returned (.string r) ∧ Below w.heap.size w w' := by
  have := rFold_any s w hs
  rw [h, Lib.mk_data] at this
  exact this

theorem folds_walk (a b c : ByteArray) (w : World) (ha : a.size ≤ maxLen) (hb : b.size ≤ maxLen) (hc : c.size ≤ maxLen) :
    Calls Try.prog 3 #[.string a, .string b, .string c] w fun e w' => e = .returned (.bool true) ∧ Below w.heap.size w w' := by
  obtain ⟨A, hA⟩ : ∃ A, A = cutS 300 a := ⟨_, rfl⟩
  obtain ⟨B, hB⟩ : ∃ B, B = cutS 300 b := ⟨_, rfl⟩
  obtain ⟨C, hC⟩ : ∃ C, C = cutS 300 c := ⟨_, rfl⟩
  have la : A.size ≤ maxLen := by rw [hA, cutS_size]; unfold maxLen at *; omega
  have lb : B.size ≤ maxLen := by rw [hB, cutS_size]; unfold maxLen at *; omega
  have lc : C.size ≤ maxLen := by rw [hC, cutS_size]; unfold maxLen at *; omega
  obtain ⟨F, hF⟩ : ∃ F : ByteArray, F = ⟨(foldL A.data.toList).toArray⟩ := ⟨_, rfl⟩
  have lf : F.size = A.size := by rw [hF, foldL_size, Lib.size_eq]
  have hFd : F.data.toList = foldL A.data.toList := by rw [hF]
  obtain ⟨x, hx⟩ : ∃ x, sameL A.data.toList B.data.toList = x := ⟨_, rfl⟩
  obtain ⟨y, hy⟩ : ∃ y, sameL B.data.toList C.data.toList = y := ⟨_, rfl⟩
  obtain ⟨z, hz⟩ : ∃ z, sameL A.data.toList C.data.toList = z := ⟨_, rfl⟩
  obtain ⟨G, hG⟩ : ∃ G : ByteArray, G = ⟨(foldL B.data.toList).toArray⟩ := ⟨_, rfl⟩
  have hGd : G.data.toList = foldL B.data.toList := by rw [hG]
  have k1 := fun w => few1_any a w ha
  rw [← hA] at k1
  have k2 := fun w => few1_any b w hb
  rw [← hB] at k2
  have k3 := fun w => few1_any c w hc
  rw [← hC] at k3
  have s1 := fun w => same_const A B x w la lb hx
  have s2 := fun w => same_const B C y w lb lc hy
  have s3 := fun w => same_const A C z w la lc hz
  have f1 := fun w => fold_const A F w la hFd.symm
  have g1 := fun w => rFold_const A F w la hFd.symm
  have f3 := fun w => fold_const F F w (by omega) (by rw [hFd, foldL_idem])
  have g2 := fun w => rFold_const B G w lb hGd.symm
  have s4 := fun w => same_const A F true w la (by omega) (by rw [hFd]; exact sameL_refl_fold _)
  have s5 := fun w => same_const B A x w lb la (by rw [sameL_comm]; exact hx)
  have hFG : (F.toList == G.toList) = x := by rw [Lib.toList_data, Lib.toList_data, hFd, hGd]; exact hx
  have hyz : x = true → y = true → z = true := by
    intro h1 h2
    subst h1 h2
    rw [← hz]
    unfold sameL at *
    simp at *
    rw [hx, hy]
  have K1 := Lib.hid k1; have K2 := Lib.hid k2; have K3 := Lib.hid k3; have S1 := Lib.hid s1; have S2 := Lib.hid s2; have S3 := Lib.hid s3; have F1 := Lib.hid f1; have G1 := Lib.hid g1; have F3 := Lib.hid f3; have G2 := Lib.hid g2; have S4 := Lib.hid s4; have S5 := Lib.hid s5
  clear k1 k2 k3 s1 s2 s3 f1 g1 f3 g2 s4 s5 hx hy hz hF hG hFd hGd hA hB hC ha hb hc la lb lc
  cases x <;> cases y <;> cases z
  case true.true.false => exact absurd (hyz rfl rfl) (by simp)
  all_goals
    clear hyz
    go_enter Try.func3, Try.ntmps3
    go_wp2_with fail
    (refine (awake1_any _).mono ?_; rintro e w1 ⟨rfl, h1⟩; have H1 := Lib.hid h1; clear h1; go_wp2_with fail)
    (refine (K1.out _).mono ?_; rintro e w' ⟨rfl, rfl⟩; go_wp2_with fail)
    (refine (K2.out _).mono ?_; rintro e w' ⟨rfl, rfl⟩; go_wp2_with fail)
    (refine (K3.out _).mono ?_; rintro e w' ⟨rfl, rfl⟩; go_wp2_with fail)
    (refine (S1.out _).mono ?_; rintro e w2 ⟨rfl, h2⟩; have H2 := Lib.hid h2; clear h2; go_wp2_with fail)
    (refine (S2.out _).mono ?_; rintro e w3 ⟨rfl, h3⟩; have H3 := Lib.hid h3; clear h3; go_wp2_with fail)
    (refine (S3.out _).mono ?_; rintro e w4 ⟨rfl, h4⟩; have H4 := Lib.hid h4; clear h4; go_wp2_with fail)
    (refine (F1.out _).mono ?_; rintro e w5 ⟨rfl, h5⟩; have H5 := Lib.hid h5; clear h5; go_wp2_with fail)
    (refine (G1.out _).mono ?_; rintro e w6 ⟨rfl, h6⟩; have H6 := Lib.hid h6; clear h6; go_wp2_with fail)
    (refine (F3.out _).mono ?_; rintro e w7 ⟨rfl, h7⟩; have H7 := Lib.hid h7; clear h7; go_wp2_with fail)
    (refine (G2.out _).mono ?_; rintro e w8 ⟨rfl, h8⟩; have H8 := Lib.hid h8; clear h8; go_wp2_with fail)
    (refine (S4.out _).mono ?_; rintro e w9 ⟨rfl, h9⟩; have H9 := Lib.hid h9; clear h9; go_wp2_with fail)
    (refine (S5.out _).mono ?_; rintro e w10 ⟨rfl, h10⟩; have H10 := Lib.hid h10; clear h10; go_wp2_with fail)
    go_ret
    exact ⟨rfl, (bseq (bseq (bseq (bseq (bseq (bseq (bseq (bseq (bseq H1.out H2.out) H3.out) H4.out) H5.out) H6.out) H7.out) H8.out) H9.out) H10.out)⟩

end Go.Proofs.Ythhpijmkhhdhhaa
