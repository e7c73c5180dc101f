/- References held against each other; the law's awake and few of layer 11. -/
import Derived.Test.YthhpijmkhhdhhaaSw3
import Derived.Laws.StructEq
namespace Go.Proofs.Ythhpijmkhhdhhaa
open Go.RowKit
set_option linter.unusedVariables false
set_option linter.unusedSimpArgs false

def refEq (a b : RefB) : Bool := (a.S.toList == b.S.toList) && ((a.A.toList == b.A.toList) && ((a.Pa.toList == b.Pa.toList) && ((a.Q.toList == b.Q.toList) && ((a.F.toList == b.F.toList) && ((a.ha == b.ha) && ((a.hq == b.hq) && (a.hf == b.hf)))))))
theorem refEq_iff (a b : RefB) : refEq a b = true ↔ a = b := by
  unfold refEq
  simp only [Bool.and_eq_true, beq_iff_eq, Lib.toList_data]
  constructor
  · rintro ⟨h0, h1, h2, h3, h4, h5, h6, h7⟩
    obtain ⟨S, A, Pa, Q, F, ha, hq, hf⟩ := a
    obtain ⟨S', A', Pa', Q', F', ha', hq', hf'⟩ := b
    simp only at h0 h1 h2 h3 h4 h5 h6 h7
    rw [bytes_extX h0, bytes_extX h1, bytes_extX h2, bytes_extX h3, bytes_extX h4, h5, h6, h7]
  · rintro rfl; simp

set_option maxHeartbeats 1000000 in
theorem ref_equalIn (a b : RefB) (W : World) : (Op.equalIn 10000 95 a.val b.val).run Try.prog W = .ok (refEq a b) W := by
  obtain ⟨S, A, Pa, Q, F, ha, hq, hf⟩ := a
  obtain ⟨S', A', Pa', Q', F', ha', hq', hf'⟩ := b
  unfold RefB.val RefB.cells refEq
  simp only
  have hS : Try.prog.underlying 95 = some (.struct (Try.prog.fieldsOf 95)) := by kernel_rfl
  have hp : Try.prog.stoodInHeld 95 = false := by kernel_rfl
  rw [show (10000 : Nat) = 9999 + 1 from rfl, run_equalIn_agg W 9999 95 _ _ hS hp]
  simp only [Program.fieldsOf, Try.underlying95]
  go_simp
  (repeat' split) <;> simp_all
theorem ref_eql (a b : RefB) (W : World) : (binOp .eql 95 a.val b.val).run Try.prog W = .ok (.bool (refEq a b)) W := by
  have h := ref_equalIn a b W
  unfold RefB.val at h ⊢
  rw [run_eql_struct, h]; rfl
theorem ref_neq (a b : RefB) (W : World) : (binOp .neq 95 a.val b.val).run Try.prog W = .ok (.bool (!refEq a b)) W := by
  have h := ref_equalIn a b W
  unfold RefB.val at h ⊢
  rw [run_neq_struct, h]; rfl

theorem few11_any (s : ByteArray) (w : World) (hs : s.size ≤ 9223372036854775807) :
    Calls Try.prog 96 #[.string s] w fun e w' => e = .returned (.string (bs (s.data.toList.take 150))) ∧ w = w' := by
  have hm1 : (0 : Int) ≤ min (s.size : Int) 150 := by omega
  have hm2 : min (s.size : Int) 150 ≤ s.size := by omega
  have HX : Hid (∀ k, k = min s.size 150 → s.extract 0 k = bs (s.data.toList.take 150)) := Lib.hid (fun k h => by rw [extract_cutX 150 s k h]; rfl)
  go_enter Try.func96, Try.ntmps96
  go_wp2_with fail
  go_ret
  exact ⟨ret_strX (HX.out _ (by omega)), rfl⟩

theorem psAt_lit (w : World) (u1 u2 : ByteArray) (p : List UInt8 × List UInt8) (h1 : bs p.1 = u1) (h2 : bs p.2 = u2) : PsAt (w.alloc (.cells #[.string u1, .string u2] 90)) (some ⟨w.heap.size, 0, none⟩) [p] := by
  subst h1 h2
  refine .inr ⟨w.heap.size, 0, rfl, by simp, fun j hj => ?_⟩
  obtain rfl : j = 0 := by simpa using hj
  simp

def exL : List UInt8 := [104, 116, 116, 112, 58, 47, 47, 97, 58, 49, 47, 98, 63, 99, 35, 100]
def exR : RefB := ⟨⟨#[104, 116, 116, 112]⟩, ⟨#[97, 58, 49]⟩, ⟨#[47, 98]⟩, ⟨#[99]⟩, ⟨#[100]⟩, true, true, true⟩
theorem ex_parse : parseV exL = .tuple #[exR.val, .int .i64 0] := by
  unfold parseV
  rw [if_pos (by decide +kernel)]
  kernel_rfl

set_option maxRecDepth 100000 in
theorem awake11_any (w : World) :
    Calls Try.prog 95 #[] w fun e w' => e = .returned (.bool true) ∧ Below w.heap.size w w' := by
  have PA := Lib.hid (parse_any ⟨#[104, 116, 116, 112, 58, 47, 47, 97, 58, 49, 47, 98, 63, 99, 35, 100]⟩ w (by decide))
  rw [show (⟨#[104, 116, 116, 112, 58, 47, 47, 97, 58, 49, 47, 98, 63, 99, 35, 100]⟩ : ByteArray).data.toList = exL from rfl, ex_parse] at PA
  have EQ := fun W => ref_eql exR exR W
  rw [(refEq_iff exR exR).2 rfl] at EQ
  unfold RefB.val RefB.cells exR at PA EQ
  simp only at PA EQ
  go_enter Try.func95, Try.ntmps95
  go_wp2_with fail
  refine PA.out.mono ?_
  rintro e w1 ⟨rfl, hb1⟩
  have H1 := Lib.hid hb1; clear hb1 PA
  go_wp2_with fail
  have r1 : RefAt (w1.alloc (.cells exR.cells 95)) w1.heap.size exR := refAt_new w1 _
  have r2 : RefAt ((w1.alloc (.cells exR.cells 95)).alloc (.cells #[.string ⟨#[104, 116, 116, 112, 58, 47, 47, 117, 112]⟩, .string ⟨#[104, 116, 116, 112, 115, 58, 47, 47, 97]⟩] 90)) w1.heap.size exR := refAt_alloc r1 _
  have pl := psAt_lit (w1.alloc (.cells exR.cells 95)) ⟨#[104, 116, 116, 112, 58, 47, 47, 117, 112]⟩ ⟨#[104, 116, 116, 112, 115, 58, 47, 47, 97]⟩ ([104, 116, 116, 112, 58, 47, 47, 117, 112], [104, 116, 116, 112, 115, 58, 47, 47, 97]) rfl rfl
  rw [show (w1.alloc (.cells exR.cells 95)).heap.size = w1.heap.size + 1 by simp] at pl
  have SW := swap_any _ ⟨#[104, 116, 116, 112, 58, 47, 47, 117, 112, 47, 120]⟩ _ 1 1 _ pl rfl ⟨by decide, by decide, by intro p hp; simp at hp; subst hp; decide⟩
  have hal : Below w1.heap.size w1 ((w1.alloc (.cells exR.cells 95)).alloc (.cells #[.string ⟨#[104, 116, 116, 112, 58, 47, 47, 117, 112]⟩, .string ⟨#[104, 116, 116, 112, 115, 58, 47, 47, 97]⟩] 90)) := ((Below.refl _ _).alloc (Nat.le_refl _) _).alloc (by simp) _
  refine SW.mono ?_
  rintro e w2 ⟨rfl, hb2⟩
  have R2 := Lib.hid (refAt_below r2 hb2 (refAt_lt r2))
  have H2 := Lib.hid (bseq hal hb2)
  clear r1 r2 pl SW hal hb2
  rw [show bs ((swapL (⟨#[104, 116, 116, 112, 58, 47, 47, 117, 112, 47, 120]⟩ : ByteArray).data.toList [([104, 116, 116, 112, 58, 47, 47, 117, 112], [104, 116, 116, 112, 115, 58, 47, 47, 97])]).getD (⟨#[104, 116, 116, 112, 58, 47, 47, 117, 112, 47, 120]⟩ : ByteArray).data.toList) = ⟨#[104, 116, 116, 112, 115, 58, 47, 47, 97, 47, 120]⟩ from bytes_extX (by decide +kernel),
    show (swapL (⟨#[104, 116, 116, 112, 58, 47, 47, 117, 112, 47, 120]⟩ : ByteArray).data.toList [([104, 116, 116, 112, 58, 47, 47, 117, 112], [104, 116, 116, 112, 115, 58, 47, 47, 97])]).isSome = true by decide +kernel]
  obtain ⟨c0, c1, c2, c3, c4, c5, c6, c7⟩ := ref_cells R2.out
  unfold exR at c0 c1 c2 c3 c4 c5 c6 c7
  simp only at c0 c1 c2 c3 c4 c5 c6 c7
  go_wp2_with fail

  go_ret
  exact ⟨rfl, (bseq H1.out H2.out)⟩

end Go.Proofs.Ythhpijmkhhdhhaa
