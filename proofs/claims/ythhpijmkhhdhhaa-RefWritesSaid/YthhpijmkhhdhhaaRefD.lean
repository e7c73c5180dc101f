/- uriref.Parse. -/
import Derived.Test.YthhpijmkhhdhhaaRefC
namespace Go.Proofs.Ythhpijmkhhdhhaa
open Go.RowKit
set_option linter.unusedVariables false
set_option linter.unusedSimpArgs false

theorem parts_sizes (l : List UInt8) : (partsP l).scheme.length ≤ l.length ∧ (partsP l).auth.length ≤ l.length ∧ (partsP l).path.length ≤ l.length ∧ (partsP l).query.length ≤ l.length ∧ (partsP l).frag.length ≤ l.length := by
  have h := congrArg List.length (text_parts l)
  rw [← parts_same] at h
  have hq0 : (partsP l).hasQuery = false → (partsP l).query = [] := by
    show (queryP _).1 = false → (queryP _).2.1 = []
    unfold queryP
    split
    · intro h; cases h
    · intro _; rfl
  have ha0 : (partsP l).hasAuth = false → (partsP l).auth = [] := by
    show (authP _ _).1 = false → (authP _ _).2.1 = []
    unfold authP
    split
    · intro h; cases h
    · intro _; rfl
  have hf0 : (partsP l).hasFrag = false → (partsP l).frag = [] := by
    show (!(queryP _).2.2.isEmpty) = false → (queryP _).2.2.drop 1 = []
    intro h
    have : (queryP (uptoL [63, 35] (authP [47, 63, 35] (schP l).2).2.2).2).2.2 = [] := by simpa using h
    rw [this]; rfl
  unfold textL headL at h
  simp only [List.length_append] at h
  refine ⟨?_, ?_, ?_, ?_, ?_⟩
  · by_cases e : (partsP l).scheme = []
    · rw [e]; simp
    · rw [if_neg e] at h; simp only [List.length_append] at h; omega
  · cases e : (partsP l).hasAuth with
    | false => rw [ha0 e]; simp
    | true => rw [e] at h; simp at h; omega
  · omega
  · cases e : (partsP l).hasQuery with
    | false => rw [hq0 e]; simp
    | true => rw [e] at h; simp at h; omega
  · cases e : (partsP l).hasFrag with
    | false => rw [hf0 e]; simp
    | true => rw [e] at h; simp at h; omega

/-- What Parse hands back. -/
def parseV (l : List UInt8) : Value := if wellL (partsP l) then .tuple #[(partsP l).toB.val, .int .i64 0] else .tuple #[RefB.zero.val, .int .i64 2]

set_option maxHeartbeats 4000000 in
set_option maxRecDepth 1000000 in
theorem parse_any (s : ByteArray) (w : World) (hs : s.size ≤ 100000) :
    Calls Try.prog 101 #[.string s] w fun e w' => e = .returned (parseV s.data.toList) ∧ Below w.heap.size w w' := by
  obtain ⟨z1, z2, z3, z4, z5⟩ := parts_sizes s.data.toList
  rw [← Lib.size_eq] at z1 z2 z3 z4 z5
  have PA := Lib.hid (fun W => parts_any s W hs)
  have WE := Lib.hid (fun W => well_any (partsP s.data.toList).toB W (by show (mkB _).size ≤ _; rw [mkB_size]; omega) (by show (mkB _).size ≤ _; rw [mkB_size]; omega) (by show (mkB _).size ≤ _; rw [mkB_size]; omega) (by show (mkB _).size ≤ _; rw [mkB_size]; omega))
  rw [toV_toB] at WE
  have hv : parseV s.data.toList = if wellL (partsP s.data.toList) then .tuple #[(partsP s.data.toList).toB.val, .int .i64 0] else .tuple #[RefB.zero.val, .int .i64 2] := rfl
  obtain ⟨ok, hok⟩ : ∃ ok, wellL (partsP s.data.toList) = ok := ⟨_, rfl⟩
  obtain ⟨R, hR⟩ : ∃ R, (partsP s.data.toList).toB = R := ⟨_, rfl⟩
  rw [hok] at WE hv
  rw [hR] at PA WE hv
  obtain ⟨S, A, Pa, Q, F, ha, hq, hf⟩ := R
  have HV := Lib.hid hv; clear hv hok hR z1 z2 z3 z4 z5
  go_enter Try.func101, Try.ntmps101
  go_wp2_with fail
  refine (PA.out _).mono ?_
  rintro e w2 ⟨rfl, hw2⟩
  have q0 : RefAt (w.alloc (.cells RefB.zero.cells 95)) w.heap.size RefB.zero := refAt_new w _
  have q2 : RefAt w2 w.heap.size RefB.zero := refAt_below q0 hw2 (refAt_lt q0)
  have hb2 : Below w.heap.size w w2 := bseq ((Below.refl _ _).alloc (Nat.le_refl _) (.cells RefB.zero.cells 95)) hw2
  have Q2 := Lib.hid q2; have HB2 := Lib.hid hb2
  clear q0 q2 hw2 hb2 PA
  unfold RefB.val RefB.cells
  simp only
  go_wp2_with fail
  have k3 : RefAt (w2.alloc (.cells (⟨S, A, Pa, Q, F, ha, hq, hf⟩ : RefB).cells 95)) w2.heap.size ⟨S, A, Pa, Q, F, ha, hq, hf⟩ := refAt_new w2 _
  have q3 : RefAt (w2.alloc (.cells (⟨S, A, Pa, Q, F, ha, hq, hf⟩ : RefB).cells 95)) w.heap.size RefB.zero := refAt_alloc Q2.out _
  have hb3 : Below w.heap.size w (w2.alloc (.cells (⟨S, A, Pa, Q, F, ha, hq, hf⟩ : RefB).cells 95)) := HB2.out.alloc HB2.out.size _
  refine (WE.out _).mono ?_
  rintro e w3 ⟨rfl, hw3⟩
  have K3 := Lib.hid (refAt_below k3 hw3 (refAt_lt k3))
  have Q3 := Lib.hid (refAt_below q3 hw3 (refAt_lt q3))
  have HB3 := Lib.hid (bseq hb3 hw3)
  clear k3 q3 hb3 hw3 Q2 HB2 WE
  obtain ⟨z0, z1, z2, z3, z4, z5, z6, z7⟩ := ref_cells Q3.out
  obtain ⟨c0, c1, c2, c3, c4, c5, c6, c7⟩ := ref_cells K3.out
  have f0 := ref_frozen Q3.out 0
  have f1 := ref_frozen Q3.out 1
  have f2 := ref_frozen Q3.out 2
  have f3 := ref_frozen Q3.out 3
  have f4 := ref_frozen Q3.out 4
  have f5 := ref_frozen Q3.out 5
  have f6 := ref_frozen Q3.out 6
  have f7 := ref_frozen Q3.out 7
  have BB := Lib.hid (fun v0 v1 v2 v3 v4 v5 v6 v7 => (((((((HB3.out.setCell (p := ⟨w.heap.size, 0, none⟩) (Nat.le_refl _) v0).setCell (p := ⟨w.heap.size, 1, none⟩) (Nat.le_refl _) v1).setCell (p := ⟨w.heap.size, 2, none⟩) (Nat.le_refl _) v2).setCell (p := ⟨w.heap.size, 3, none⟩) (Nat.le_refl _) v3).setCell (p := ⟨w.heap.size, 4, none⟩) (Nat.le_refl _) v4).setCell (p := ⟨w.heap.size, 5, none⟩) (Nat.le_refl _) v5).setCell (p := ⟨w.heap.size, 6, none⟩) (Nat.le_refl _) v6).setCell (p := ⟨w.heap.size, 7, none⟩) (Nat.le_refl _) v7)
  cases ok with
  | true =>
    go_wp2_with fail
    refine bodyPost_ret (ref_result2 rfl (ref_all Q3.out ⟨S, A, Pa, Q, F, ha, hq, hf⟩) _ rfl) rfl ?_
    exact ⟨by rw [HV.out]; rfl, BB.out _ _ _ _ _ _ _ _⟩
  | false =>
    go_wp2_with fail
    refine bodyPost_ret (ref_result2 rfl (ref_all Q3.out RefB.zero) _ rfl) rfl ?_
    exact ⟨by rw [HV.out]; rfl, BB.out _ _ _ _ _ _ _ _⟩

end Go.Proofs.Ythhpijmkhhdhhaa
