/- The walk of the law EventsCount. -/
import Derived.Test.YthhpijmkhhdhhaaDoorEvN
import Derived.Deep.RegionHeld3
import Derived.StillTailTactics
namespace Go.Proofs.YthhpijmkhhdhhaaDoor
open Go.RowKit
set_option linter.unusedVariables false
set_option linter.unusedSimpArgs false

def NumAt (w : World) (B : Nat) (s1 s3 : Int) : Prop := w.heap[B]? = some (.cells #[.int .i64 0, .int .i64 s1, .int .i64 0, .int .i64 s3, .int .i64 0] 58 (0, 0))
def EndAt (w : World) (B : Nat) (e2 e4 : Bool) : Prop := w.heap[B]? = some (.cells #[.bool false, .bool false, .bool e2, .bool false, .bool e4] 59 (0, 0))
theorem numAt_cells {w : World} {B : Nat} {s1 s3 : Int} (h : NumAt w B s1 s3) : w.cell? ⟨B, 1, none⟩ = some (.int .i64 s1) ∧ w.cell? ⟨B, 2, none⟩ = some (.int .i64 0) ∧ w.cell? ⟨B, 3, none⟩ = some (.int .i64 s3) ∧ w.cell? ⟨B, 4, none⟩ = some (.int .i64 0) ∧ w.frozen? ⟨B, 1, none⟩ = false ∧ w.frozen? ⟨B, 2, none⟩ = false ∧ w.frozen? ⟨B, 3, none⟩ = false ∧ w.frozen? ⟨B, 4, none⟩ = false := by
  unfold NumAt at h
  exact ⟨by rw [cell_of_row w B 1 _ _ _ h]; rfl, by rw [cell_of_row w B 2 _ _ _ h]; rfl, by rw [cell_of_row w B 3 _ _ _ h]; rfl, by rw [cell_of_row w B 4 _ _ _ h]; rfl, frozen_of_row w B 1 _ _ h, frozen_of_row w B 2 _ _ h, frozen_of_row w B 3 _ _ h, frozen_of_row w B 4 _ _ h⟩
theorem endAt_cells {w : World} {B : Nat} {e2 e4 : Bool} (h : EndAt w B e2 e4) : w.cell? ⟨B, 2, none⟩ = some (.bool e2) ∧ w.cell? ⟨B, 4, none⟩ = some (.bool e4) ∧ w.frozen? ⟨B, 2, none⟩ = false ∧ w.frozen? ⟨B, 4, none⟩ = false := by
  unfold EndAt at h
  exact ⟨by rw [cell_of_row w B 2 _ _ _ h]; rfl, by rw [cell_of_row w B 4 _ _ _ h]; rfl, frozen_of_row w B 2 _ _ h, frozen_of_row w B 4 _ _ h⟩
theorem numAt_below {w w1 : World} {B : Nat} {s1 s3 : Int} (h : NumAt w B s1 s3) (hb : Below w.heap.size w w1) : NumAt w1 B s1 s3 := (hb.block _ (lt_of_block h)).trans h
theorem endAt_below {w w1 : World} {B : Nat} {s1 s3 : Bool} (h : EndAt w B s1 s3) (hb : Below w.heap.size w w1) : EndAt w1 B s1 s3 := (hb.block _ (lt_of_block h)).trans h

/-- What the loop keeps. -/
def CntR (w : World) (a : Option Addr) (ys : EL) (B : Nat) (k : Nat) (wr : World) : Prop :=
  NumAt wr B (sumK 1 (ys.take k)) (sumK 3 (ys.take k)) ∧ EndAt wr (B + 1) (anyK 2 (ys.take k)) (anyK 4 (ys.take k)) ∧ Below w.heap.size w wr ∧ w.heap.size ≤ B

set_option maxRecDepth 100000 in
set_option maxHeartbeats 4000000 in
theorem eventsCount_walk (w : World) (a : Option Addr) (len cap : Nat) (xs : EL) (h : EvsAt w a xs) (hn : len = xs.length) (hlc : len ≤ cap) (hlm : len ≤ maxLen) (hok : EvsOk xs) (hM : MaxAt w) (hP : PowAt w) :
    Calls Tryd.prog 11 #[.slice a len cap] w fun e w' => e = .returned (.bool true) ∧ Below w.heap.size w w' := by
  unfold maxLen at hlm
  have AW := Lib.hid (awake45_any w hM hP); clear hM hP
  obtain ⟨ys, hys⟩ : ∃ ys, xs.take 100 = ys := ⟨_, rfl⟩
  have hyl : ys.length = min len 100 := by rw [← hys, List.length_take, hn]; omega
  have HA : Hid (EvsAt w a ys) := Lib.hid (by rw [← hys]; exact evsAt_take h 100)
  obtain ⟨n, hnn⟩ : ∃ n, ys.length = n := ⟨_, rfl⟩
  have hmin : min (len : Int) 100 = (n : Int) := by omega
  have hncap : (n : Int) ≤ cap := by omega
  have hn100 : n ≤ 100 := by omega
  have SZ := Lib.hid (fun w h => sizes_any w a n cap ys h hnn.symm (by omega))
  have EN := Lib.hid (fun w h => ends_any w a n cap ys h hnn.symm (by omega))
  have HNN := Lib.hid hnn; clear hnn hyl hys h hok hn
  have hm2 : (0 : Int) ≤ (n : Int) := by omega
  have CK := Lib.hid (fun k n w => rEvCheck_any k n w)
  unfold evV at CK
  go_enter Tryd.func11, Tryd.ntmps11
  go_wp2_with fail
  (refine (AW.out).mono ?_; rintro e w1 ⟨rfl, h1⟩; have H1 := Lib.hid h1; clear h1; go_wp2_with fail)
  obtain ⟨B, hB⟩ : ∃ B, w1.heap.size = B := ⟨_, rfl⟩
  obtain ⟨w2, hw2⟩ : ∃ w2, (w1.alloc (.cells #[.int .i64 0, .int .i64 0, .int .i64 0, .int .i64 0, .int .i64 0] 58)).alloc (.cells #[.bool false, .bool false, .bool false, .bool false, .bool false] 59) = w2 := ⟨_, rfl⟩
  have hz2 : w2.heap.size = B + 2 := by rw [← hw2, ← hB]; simp
  have hR0 : CntR w a ys B 0 w2 := by
    refine ⟨?_, ?_, ?_, by rw [← hB]; exact H1.out.size⟩
    · unfold NumAt
      rw [← hw2, ← hB, Below.heap_alloc _ _ _ (by simp)]
      exact heap_alloc_new w1 _
    · unfold EndAt
      have := heap_alloc_new (w1.alloc (.cells #[.int .i64 0, .int .i64 0, .int .i64 0, .int .i64 0, .int .i64 0] 58)) (.cells #[.bool false, .bool false, .bool false, .bool false, .bool false] 59)
      rw [World.size_alloc, hB, hw2] at this
      exact this
    · rw [← hw2]
      exact (H1.out.alloc H1.out.size _).alloc (by have := H1.out.size; simp; omega) _
  rw [hw2, hB]
  have HR0 := Lib.hid hR0; clear hR0 hw2 hB hz2
  go_loopw [5] (fun i wr => ∃ (k : Nat), k ≤ n ∧ i = .int .i64 k ∧ Hid (CntR w a ys B k wr)) (fun i _ => n - (intOf i).toNat)
  case atStart => exact ⟨0, Nat.zero_le _, rfl, HR0.out⟩
  case round =>
    obtain ⟨k, hk, rfl, hR⟩ := hrel
    obtain ⟨hN, hE, hb, hwB⟩ := hR.out
    by_cases hlt : k < n
    · have hky : k < ys.length := by have := HNN.out; omega
      obtain ⟨b, o, rfl, hbs, x0, x1⟩ := evsAt_at (evsAt_below HA.out hb) k hky
      have hbw : b < w.heap.size := by
        rcases HA.out with h | ⟨b', o', ha, h, _⟩
        · rw [h] at hky; simp at hky
        · injection ha with ha; injection ha with h1; rw [h1]; exact h
      have hs1 := sumK_snoc 1 (ys.take k) ys[k]
      have hs3 := sumK_snoc 3 (ys.take k) ys[k]
      have he2 := anyK_snoc 2 (ys.take k) ys[k]
      have he4 := anyK_snoc 4 (ys.take k) ys[k]
      rw [← take_snocE ys k hky] at hs1 hs3 he2 he4
      have hb1 := sumK_bound 1 (ys.take k)
      have hb3 := sumK_bound 3 (ys.take k)
      have hlk : (ys.take k).length ≤ 100 := by rw [List.length_take]; omega
      obtain ⟨s1, hs1'⟩ : ∃ s1, sumK 1 (ys.take k) = s1 := ⟨_, rfl⟩
      obtain ⟨s3, hs3'⟩ : ∃ s3, sumK 3 (ys.take k) = s3 := ⟨_, rfl⟩
      obtain ⟨e2, he2'⟩ : ∃ e2, anyK 2 (ys.take k) = e2 := ⟨_, rfl⟩
      obtain ⟨e4, he4'⟩ : ∃ e4, anyK 4 (ys.take k) = e4 := ⟨_, rfl⟩
      rw [hs1', hs3'] at hN
      rw [he2', he4'] at hE
      rw [hs1'] at hs1 hb1
      rw [hs3'] at hs3 hb3
      rw [he2'] at he2
      rw [he4'] at he4
      have hs1a : 0 ≤ s1 ∧ s1 ≤ 104857600 := by omega
      have hs3a : 0 ≤ s3 ∧ s3 ≤ 104857600 := by omega
      obtain ⟨K, hK⟩ : ∃ K, ys[k].1 = K := ⟨_, rfl⟩
      obtain ⟨N, hN'⟩ : ∃ N, ys[k].2 = N := ⟨_, rfl⟩
      rw [hK] at x0
      rw [hN'] at x1
      rw [hK, hN'] at hs1 hs3
      rw [hK] at he2 he4
      clear hb1 hb3 hlk hs1' hs3' he2' he4' hK hN'
      have CKK := Lib.hid (fun w => CK.out K N w)
      have HN := Lib.hid hN; clear hN
      have HE := Lib.hid hE; clear hE
      have HBW := Lib.hid hb; clear hb
      have HNX := Lib.hid (And.intro hs1 (And.intro hs3 (And.intro he2 he4))); clear hs1 hs3 he2 he4
      clear hR
      by_cases h0 : evE K N = 0
      · have hok := ev_ok h0
        rw [h0] at CKK
        rcases evOk_cases hok with ⟨rfl, a0, a1⟩ | ⟨rfl, a0, a1⟩ | ⟨rfl, rfl⟩ | ⟨rfl, rfl⟩
        · have HNX2 : Hid (sumK 1 (ys.take (k + 1)) = s1 + N ∧ sumK 3 (ys.take (k + 1)) = s3 ∧ anyK 2 (ys.take (k + 1)) = e2 ∧ anyK 4 (ys.take (k + 1)) = e4) := Lib.hid (by
            obtain ⟨p1, p2, p3, p4⟩ := HNX.out
            rw [p1, p2, p3, p4, if_pos ⟨rfl, h0⟩, if_neg (by simp)]; simp)
          clear hok h0 HNX
          go_wp2_with fail
          refine (CKK.out _).mono ?_
          rintro e w3 ⟨rfl, hb3⟩
          have HN3 := Lib.hid (numAt_below HN.out hb3)
          have HE3 := Lib.hid (endAt_below HE.out hb3)
          have y0 : w3.cell? ⟨b, o + k * 2, none⟩ = some (.int .i64 1) := by rw [hb3.cell (by exact hbs)]; exact x0
          have y1 : w3.cell? ⟨b, o + k * 2 + 1, none⟩ = some (.int .i64 N) := by rw [hb3.cell (by exact hbs)]; exact x1
          have HB3 : Hid (Below w.heap.size w w3) := Lib.hid (bseq HBW.out hb3)
          obtain ⟨m1, m2, m3, m4, q1, q2, q3, q4⟩ := numAt_cells HN3.out
          clear hb3 x0 x1
          go_wp2_with fail
          go_still_tail 19, (by kernel_rfl)
          change wpList _ _ _ _ _ w3.drew
          obtain ⟨w4, hw4⟩ : ∃ w4, w3.drew = w4 := ⟨_, rfl⟩
          have HN4 : Hid (NumAt w4 B s1 s3) := Lib.hid (by rw [← hw4]; exact HN3.out)
          have HE4 : Hid (EndAt w4 (B + 1) e2 e4) := Lib.hid (by rw [← hw4]; exact HE3.out)
          have HB4 : Hid (Below w.heap.size w w4) := Lib.hid (by rw [← hw4]; exact HB3.out.drew)
          have y0' : w4.cell? ⟨b, o + k * 2, none⟩ = some (.int .i64 1) := by rw [← hw4]; exact y0
          have y1' : w4.cell? ⟨b, o + k * 2 + 1, none⟩ = some (.int .i64 N) := by rw [← hw4]; exact y1
          clear m1 m2 m3 m4 q1 q2 q3 q4 y0 y1 HN3 HE3 HB3
          rw [hw4]
          clear hw4
          obtain ⟨m1, m2, m3, m4, q1, q2, q3, q4⟩ := numAt_cells HN4.out
          have gw : IntKind.i64.wrap (s1 + N) = s1 + N := IntWalk.i64_in _ (by omega)
          go_wp2_with fail
          go_roundw
          case rel =>
            refine ⟨k + 1, by omega, by go_num, ?_⟩
            unfold CntR
            rw [HNX2.out.1, HNX2.out.2.1, HNX2.out.2.2.1, HNX2.out.2.2.2]
            exact ⟨heap_setCell_at HN4.out 1 (.int .i64 (s1 + N)), by unfold EndAt; rw [Below.heap_setCell _ _ _ _ (by simp)]; exact HE4.out, HB4.out.setCell (by exact hwB) _, hwB⟩
          case measure => simp [intOf]; omega
        · have HNX2 : Hid (sumK 1 (ys.take (k + 1)) = s1 ∧ sumK 3 (ys.take (k + 1)) = s3 + N ∧ anyK 2 (ys.take (k + 1)) = e2 ∧ anyK 4 (ys.take (k + 1)) = e4) := Lib.hid (by
            obtain ⟨p1, p2, p3, p4⟩ := HNX.out
            rw [p1, p2, p3, p4, if_neg (by simp), if_pos ⟨rfl, h0⟩]; simp)
          clear hok h0 HNX
          go_wp2_with fail
          refine (CKK.out _).mono ?_
          rintro e w3 ⟨rfl, hb3⟩
          have HN3 := Lib.hid (numAt_below HN.out hb3)
          have HE3 := Lib.hid (endAt_below HE.out hb3)
          have y0 : w3.cell? ⟨b, o + k * 2, none⟩ = some (.int .i64 3) := by rw [hb3.cell (by exact hbs)]; exact x0
          have y1 : w3.cell? ⟨b, o + k * 2 + 1, none⟩ = some (.int .i64 N) := by rw [hb3.cell (by exact hbs)]; exact x1
          have HB3 : Hid (Below w.heap.size w w3) := Lib.hid (bseq HBW.out hb3)
          obtain ⟨m1, m2, m3, m4, q1, q2, q3, q4⟩ := numAt_cells HN3.out
          clear hb3 x0 x1
          go_wp2_with fail
          go_still_tail 19, (by kernel_rfl)
          change wpList _ _ _ _ _ w3.drew
          obtain ⟨w4, hw4⟩ : ∃ w4, w3.drew = w4 := ⟨_, rfl⟩
          have HN4 : Hid (NumAt w4 B s1 s3) := Lib.hid (by rw [← hw4]; exact HN3.out)
          have HE4 : Hid (EndAt w4 (B + 1) e2 e4) := Lib.hid (by rw [← hw4]; exact HE3.out)
          have HB4 : Hid (Below w.heap.size w w4) := Lib.hid (by rw [← hw4]; exact HB3.out.drew)
          have y0' : w4.cell? ⟨b, o + k * 2, none⟩ = some (.int .i64 3) := by rw [← hw4]; exact y0
          have y1' : w4.cell? ⟨b, o + k * 2 + 1, none⟩ = some (.int .i64 N) := by rw [← hw4]; exact y1
          clear m1 m2 m3 m4 q1 q2 q3 q4 y0 y1 HN3 HE3 HB3
          rw [hw4]
          clear hw4
          obtain ⟨m1, m2, m3, m4, q1, q2, q3, q4⟩ := numAt_cells HN4.out
          have gw : IntKind.i64.wrap (s3 + N) = s3 + N := IntWalk.i64_in _ (by omega)
          go_wp2_with fail
          go_roundw
          case rel =>
            refine ⟨k + 1, by omega, by go_num, ?_⟩
            unfold CntR
            rw [HNX2.out.1, HNX2.out.2.1, HNX2.out.2.2.1, HNX2.out.2.2.2]
            exact ⟨heap_setCell_at HN4.out 3 (.int .i64 (s3 + N)), by unfold EndAt; rw [Below.heap_setCell _ _ _ _ (by simp)]; exact HE4.out, HB4.out.setCell (by exact hwB) _, hwB⟩
          case measure => simp [intOf]; omega
        · have HNX2 : Hid (sumK 1 (ys.take (k + 1)) = s1 ∧ sumK 3 (ys.take (k + 1)) = s3 ∧ anyK 2 (ys.take (k + 1)) = true ∧ anyK 4 (ys.take (k + 1)) = e4) := Lib.hid (by
            obtain ⟨p1, p2, p3, p4⟩ := HNX.out
            rw [p1, p2, p3, p4, if_neg (by simp), if_neg (by simp)]; simp)
          clear hok h0 HNX
          obtain ⟨z2, z4, g2, g4⟩ := endAt_cells HE.out
          obtain ⟨ws, hws⟩ : ∃ ws, wr.setCell ⟨B + 1, 2, none⟩ (.bool true) = ws := ⟨_, rfl⟩
          have hbB : b < B := by omega
          have HNs : Hid (NumAt ws B s1 s3) := Lib.hid (by unfold NumAt; rw [← hws, Below.heap_setCell _ _ _ _ (by simp)]; exact HN.out)
          have HEs : Hid (EndAt ws (B + 1) true e4) := Lib.hid (by rw [← hws]; exact heap_setCell_at HE.out 2 _)
          have HBs : Hid (Below w.heap.size w ws) := Lib.hid (by rw [← hws]; exact HBW.out.setCell (by show w.heap.size ≤ B + 1; omega) _)
          have xs0 : ws.cell? ⟨b, o + k * 2, none⟩ = some (.int .i64 2) := by rw [← hws, World.cell?_setCell_other _ _ _ _ (by simp <;> omega)]; exact x0
          have xs1 : ws.cell? ⟨b, o + k * 2 + 1, none⟩ = some (.int .i64 0) := by rw [← hws, World.cell?_setCell_other _ _ _ _ (by simp <;> omega)]; exact x1
          have hbss : b < ws.heap.size := by rw [← hws]; simpa using hbs
          go_wp2_with fail
          refine (CKK.out _).mono ?_
          rintro e w3 ⟨rfl, hb3⟩
          have HN3 := Lib.hid (numAt_below HNs.out hb3)
          have HE3 := Lib.hid (endAt_below HEs.out hb3)
          have y0 : w3.cell? ⟨b, o + k * 2, none⟩ = some (.int .i64 2) := by rw [hb3.cell (by exact hbss)]; exact xs0
          have y1 : w3.cell? ⟨b, o + k * 2 + 1, none⟩ = some (.int .i64 0) := by rw [hb3.cell (by exact hbss)]; exact xs1
          have HB3 : Hid (Below w.heap.size w w3) := Lib.hid (bseq HBs.out hb3)
          obtain ⟨m1, m2, m3, m4, q1, q2, q3, q4⟩ := numAt_cells HN3.out
          clear hb3 x0 x1 xs0 xs1 z2 z4 g2 g4 hws
          go_wp2_with fail
          go_still_tail 19, (by kernel_rfl)
          change wpList _ _ _ _ _ w3.drew
          obtain ⟨w4, hw4⟩ : ∃ w4, w3.drew = w4 := ⟨_, rfl⟩
          have HN4 : Hid (NumAt w4 B s1 s3) := Lib.hid (by rw [← hw4]; exact HN3.out)
          have HE4 : Hid (EndAt w4 (B + 1) true e4) := Lib.hid (by rw [← hw4]; exact HE3.out)
          have HB4 : Hid (Below w.heap.size w w4) := Lib.hid (by rw [← hw4]; exact HB3.out.drew)
          have y0' : w4.cell? ⟨b, o + k * 2, none⟩ = some (.int .i64 2) := by rw [← hw4]; exact y0
          have y1' : w4.cell? ⟨b, o + k * 2 + 1, none⟩ = some (.int .i64 0) := by rw [← hw4]; exact y1
          clear m1 m2 m3 m4 q1 q2 q3 q4 y0 y1 HN3 HE3 HB3
          rw [hw4]
          clear hw4
          obtain ⟨m1, m2, m3, m4, q1, q2, q3, q4⟩ := numAt_cells HN4.out
          go_wp2_with fail
          go_roundw
          case rel =>
            refine ⟨k + 1, by omega, by go_num, ?_⟩
            unfold CntR
            rw [HNX2.out.1, HNX2.out.2.1, HNX2.out.2.2.1, HNX2.out.2.2.2]
            exact ⟨heap_setCell_at HN4.out 2 (.int .i64 (0)), by unfold EndAt; rw [Below.heap_setCell _ _ _ _ (by simp)]; exact HE4.out, HB4.out.setCell (by exact hwB) _, hwB⟩
          case measure => simp [intOf]; omega
        · have HNX2 : Hid (sumK 1 (ys.take (k + 1)) = s1 ∧ sumK 3 (ys.take (k + 1)) = s3 ∧ anyK 2 (ys.take (k + 1)) = e2 ∧ anyK 4 (ys.take (k + 1)) = true) := Lib.hid (by
            obtain ⟨p1, p2, p3, p4⟩ := HNX.out
            rw [p1, p2, p3, p4, if_neg (by simp), if_neg (by simp)]; simp)
          clear hok h0 HNX
          obtain ⟨z2, z4, g2, g4⟩ := endAt_cells HE.out
          obtain ⟨ws, hws⟩ : ∃ ws, wr.setCell ⟨B + 1, 4, none⟩ (.bool true) = ws := ⟨_, rfl⟩
          have hbB : b < B := by omega
          have HNs : Hid (NumAt ws B s1 s3) := Lib.hid (by unfold NumAt; rw [← hws, Below.heap_setCell _ _ _ _ (by simp)]; exact HN.out)
          have HEs : Hid (EndAt ws (B + 1) e2 true) := Lib.hid (by rw [← hws]; exact heap_setCell_at HE.out 4 _)
          have HBs : Hid (Below w.heap.size w ws) := Lib.hid (by rw [← hws]; exact HBW.out.setCell (by show w.heap.size ≤ B + 1; omega) _)
          have xs0 : ws.cell? ⟨b, o + k * 2, none⟩ = some (.int .i64 4) := by rw [← hws, World.cell?_setCell_other _ _ _ _ (by simp <;> omega)]; exact x0
          have xs1 : ws.cell? ⟨b, o + k * 2 + 1, none⟩ = some (.int .i64 0) := by rw [← hws, World.cell?_setCell_other _ _ _ _ (by simp <;> omega)]; exact x1
          have hbss : b < ws.heap.size := by rw [← hws]; simpa using hbs
          go_wp2_with fail
          refine (CKK.out _).mono ?_
          rintro e w3 ⟨rfl, hb3⟩
          have HN3 := Lib.hid (numAt_below HNs.out hb3)
          have HE3 := Lib.hid (endAt_below HEs.out hb3)
          have y0 : w3.cell? ⟨b, o + k * 2, none⟩ = some (.int .i64 4) := by rw [hb3.cell (by exact hbss)]; exact xs0
          have y1 : w3.cell? ⟨b, o + k * 2 + 1, none⟩ = some (.int .i64 0) := by rw [hb3.cell (by exact hbss)]; exact xs1
          have HB3 : Hid (Below w.heap.size w w3) := Lib.hid (bseq HBs.out hb3)
          obtain ⟨m1, m2, m3, m4, q1, q2, q3, q4⟩ := numAt_cells HN3.out
          clear hb3 x0 x1 xs0 xs1 z2 z4 g2 g4 hws
          go_wp2_with fail
          go_still_tail 19, (by kernel_rfl)
          change wpList _ _ _ _ _ w3.drew
          obtain ⟨w4, hw4⟩ : ∃ w4, w3.drew = w4 := ⟨_, rfl⟩
          have HN4 : Hid (NumAt w4 B s1 s3) := Lib.hid (by rw [← hw4]; exact HN3.out)
          have HE4 : Hid (EndAt w4 (B + 1) e2 true) := Lib.hid (by rw [← hw4]; exact HE3.out)
          have HB4 : Hid (Below w.heap.size w w4) := Lib.hid (by rw [← hw4]; exact HB3.out.drew)
          have y0' : w4.cell? ⟨b, o + k * 2, none⟩ = some (.int .i64 4) := by rw [← hw4]; exact y0
          have y1' : w4.cell? ⟨b, o + k * 2 + 1, none⟩ = some (.int .i64 0) := by rw [← hw4]; exact y1
          clear m1 m2 m3 m4 q1 q2 q3 q4 y0 y1 HN3 HE3 HB3
          rw [hw4]
          clear hw4
          obtain ⟨m1, m2, m3, m4, q1, q2, q3, q4⟩ := numAt_cells HN4.out
          go_wp2_with fail
          go_roundw
          case rel =>
            refine ⟨k + 1, by omega, by go_num, ?_⟩
            unfold CntR
            rw [HNX2.out.1, HNX2.out.2.1, HNX2.out.2.2.1, HNX2.out.2.2.2]
            exact ⟨heap_setCell_at HN4.out 4 (.int .i64 (0)), by unfold EndAt; rw [Below.heap_setCell _ _ _ _ (by simp)]; exact HE4.out, HB4.out.setCell (by exact hwB) _, hwB⟩
          case measure => simp [intOf]; omega
      · have h1 : evE K N = 1 := by unfold evE; rw [ev_no h0]; rfl
        rw [h1] at CKK
        by_cases hk2 : K = 2
        · subst hk2
          have HNX2 : Hid (sumK 1 (ys.take (k + 1)) = s1 ∧ sumK 3 (ys.take (k + 1)) = s3 ∧ anyK 2 (ys.take (k + 1)) = true ∧ anyK 4 (ys.take (k + 1)) = e4) := Lib.hid (by
            obtain ⟨p1, p2, p3, p4⟩ := HNX.out
            rw [p1, p2, p3, p4, if_neg (by simp), if_neg (by simp)]; simp)
          clear h0 h1 HNX
          obtain ⟨z2, z4, g2, g4⟩ := endAt_cells HE.out
          obtain ⟨ws, hws⟩ : ∃ ws, wr.setCell ⟨B + 1, 2, none⟩ (.bool true) = ws := ⟨_, rfl⟩
          have hbB : b < B := by omega
          have HNs : Hid (NumAt ws B s1 s3) := Lib.hid (by unfold NumAt; rw [← hws, Below.heap_setCell _ _ _ _ (by simp)]; exact HN.out)
          have HEs : Hid (EndAt ws (B + 1) true e4) := Lib.hid (by rw [← hws]; exact heap_setCell_at HE.out 2 _)
          have HBs : Hid (Below w.heap.size w ws) := Lib.hid (by rw [← hws]; exact HBW.out.setCell (by show w.heap.size ≤ B + 1; omega) _)
          have xs0 : ws.cell? ⟨b, o + k * 2, none⟩ = some (.int .i64 2) := by rw [← hws, World.cell?_setCell_other _ _ _ _ (by simp <;> omega)]; exact x0
          have xs1 : ws.cell? ⟨b, o + k * 2 + 1, none⟩ = some (.int .i64 N) := by rw [← hws, World.cell?_setCell_other _ _ _ _ (by simp <;> omega)]; exact x1
          have hbss : b < ws.heap.size := by rw [← hws]; simpa using hbs
          go_wp2_with fail
          refine (CKK.out _).mono ?_
          rintro e w3 ⟨rfl, hb3⟩
          have HN3 := Lib.hid (numAt_below HNs.out hb3)
          have HE3 := Lib.hid (endAt_below HEs.out hb3)
          have y0 : w3.cell? ⟨b, o + k * 2, none⟩ = some (.int .i64 2) := by rw [hb3.cell (by exact hbss)]; exact xs0
          have y1 : w3.cell? ⟨b, o + k * 2 + 1, none⟩ = some (.int .i64 N) := by rw [hb3.cell (by exact hbss)]; exact xs1
          have HB3 : Hid (Below w.heap.size w w3) := Lib.hid (bseq HBs.out hb3)
          clear hb3 x0 x1 xs0 xs1 z2 z4 g2 g4 hws
          go_wp2_with fail
          go_roundw
          case rel =>
            refine ⟨k + 1, by omega, by go_num, ?_⟩
            unfold CntR
            rw [HNX2.out.1, HNX2.out.2.1, HNX2.out.2.2.1, HNX2.out.2.2.2]
            exact ⟨HN3.out, HE3.out, HB3.out, hwB⟩
          case measure => simp [intOf]; omega
        · by_cases hk4 : K = 4
          · subst hk4
            have HNX2 : Hid (sumK 1 (ys.take (k + 1)) = s1 ∧ sumK 3 (ys.take (k + 1)) = s3 ∧ anyK 2 (ys.take (k + 1)) = e2 ∧ anyK 4 (ys.take (k + 1)) = true) := Lib.hid (by
              obtain ⟨p1, p2, p3, p4⟩ := HNX.out
              rw [p1, p2, p3, p4, if_neg (by simp), if_neg (by simp)]; simp)
            clear h0 h1 HNX hk2
            obtain ⟨z2, z4, g2, g4⟩ := endAt_cells HE.out
            obtain ⟨ws, hws⟩ : ∃ ws, wr.setCell ⟨B + 1, 4, none⟩ (.bool true) = ws := ⟨_, rfl⟩
            have hbB : b < B := by omega
            have HNs : Hid (NumAt ws B s1 s3) := Lib.hid (by unfold NumAt; rw [← hws, Below.heap_setCell _ _ _ _ (by simp)]; exact HN.out)
            have HEs : Hid (EndAt ws (B + 1) e2 true) := Lib.hid (by rw [← hws]; exact heap_setCell_at HE.out 4 _)
            have HBs : Hid (Below w.heap.size w ws) := Lib.hid (by rw [← hws]; exact HBW.out.setCell (by show w.heap.size ≤ B + 1; omega) _)
            have xs0 : ws.cell? ⟨b, o + k * 2, none⟩ = some (.int .i64 4) := by rw [← hws, World.cell?_setCell_other _ _ _ _ (by simp <;> omega)]; exact x0
            have xs1 : ws.cell? ⟨b, o + k * 2 + 1, none⟩ = some (.int .i64 N) := by rw [← hws, World.cell?_setCell_other _ _ _ _ (by simp <;> omega)]; exact x1
            have hbss : b < ws.heap.size := by rw [← hws]; simpa using hbs
            go_wp2_with fail
            refine (CKK.out _).mono ?_
            rintro e w3 ⟨rfl, hb3⟩
            have HN3 := Lib.hid (numAt_below HNs.out hb3)
            have HE3 := Lib.hid (endAt_below HEs.out hb3)
            have y0 : w3.cell? ⟨b, o + k * 2, none⟩ = some (.int .i64 4) := by rw [hb3.cell (by exact hbss)]; exact xs0
            have y1 : w3.cell? ⟨b, o + k * 2 + 1, none⟩ = some (.int .i64 N) := by rw [hb3.cell (by exact hbss)]; exact xs1
            have HB3 : Hid (Below w.heap.size w w3) := Lib.hid (bseq HBs.out hb3)
            clear hb3 x0 x1 xs0 xs1 z2 z4 g2 g4 hws
            go_wp2_with fail
            go_roundw
            case rel =>
              refine ⟨k + 1, by omega, by go_num, ?_⟩
              unfold CntR
              rw [HNX2.out.1, HNX2.out.2.1, HNX2.out.2.2.1, HNX2.out.2.2.2]
              exact ⟨HN3.out, HE3.out, HB3.out, hwB⟩
            case measure => simp [intOf]; omega
          · have b2 : (K == 2) = false := by rw [beq_eq_false_iff_ne]; exact hk2
            have b4 : (K == 4) = false := by rw [beq_eq_false_iff_ne]; exact hk4
            have HNX2 : Hid (sumK 1 (ys.take (k + 1)) = s1 ∧ sumK 3 (ys.take (k + 1)) = s3 ∧ anyK 2 (ys.take (k + 1)) = e2 ∧ anyK 4 (ys.take (k + 1)) = e4) := Lib.hid (by
              obtain ⟨p1, p2, p3, p4⟩ := HNX.out
              rw [p1, p2, p3, p4, if_neg (by rw [h1]; simp), if_neg (by rw [h1]; simp), b2, b4]; simp)
            clear h0 h1 HNX hk2 hk4
            go_wp2_with fail
            refine (CKK.out _).mono ?_
            rintro e w3 ⟨rfl, hb3⟩
            have HN3 := Lib.hid (numAt_below HN.out hb3)
            have HE3 := Lib.hid (endAt_below HE.out hb3)
            have y0 : w3.cell? ⟨b, o + k * 2, none⟩ = some (.int .i64 K) := by rw [hb3.cell (by exact hbs)]; exact x0
            have y1 : w3.cell? ⟨b, o + k * 2 + 1, none⟩ = some (.int .i64 N) := by rw [hb3.cell (by exact hbs)]; exact x1
            have HB3 : Hid (Below w.heap.size w w3) := Lib.hid (bseq HBW.out hb3)
            clear hb3 x0 x1
            go_wp2_with fail
            go_roundw
            case rel =>
              refine ⟨k + 1, by omega, by go_num, ?_⟩
              unfold CntR
              rw [HNX2.out.1, HNX2.out.2.1, HNX2.out.2.2.1, HNX2.out.2.2.2]
              exact ⟨HN3.out, HE3.out, HB3.out, hwB⟩
            case measure => simp [intOf]; omega
    · obtain rfl : k = n := by omega
      have hR1 := hR.out
      unfold CntR at hR1
      rw [List.take_of_length_le (by have := HNN.out; omega)] at hR1
      obtain ⟨hN, hE, hb, _⟩ := hR1
      have hb1 := sumK_bound 1 ys
      have hb3 := sumK_bound 3 ys
      have hyl := HNN.out
      obtain ⟨s1, hs1'⟩ : ∃ s1, sumK 1 ys = s1 := ⟨_, rfl⟩
      obtain ⟨s3, hs3'⟩ : ∃ s3, sumK 3 ys = s3 := ⟨_, rfl⟩
      obtain ⟨e2, he2'⟩ : ∃ e2, anyK 2 ys = e2 := ⟨_, rfl⟩
      obtain ⟨e4, he4'⟩ : ∃ e4, anyK 4 ys = e4 := ⟨_, rfl⟩
      rw [hs1', hs3'] at hN SZ
      rw [he2', he4'] at hE EN
      rw [hs1'] at hb1
      rw [hs3'] at hb3
      have hs1a : 0 ≤ s1 ∧ s1 ≤ 104857600 := by omega
      have hs3a : 0 ≤ s3 ∧ s3 ≤ 104857600 := by omega
      have HB := Lib.hid hb
      have HAr := Lib.hid (evsAt_below HA.out hb)
      have HN := Lib.hid hN; have HE := Lib.hid hE
      clear hN hE hb hs1' hs3' he2' he4' hb1 hb3 hyl hR HR0
      go_wp2_with fail
      refine (SZ.out _ HAr.out).mono ?_
      rintro e w3 ⟨rfl, hb3⟩
      have HA3 := Lib.hid (evsAt_below HAr.out hb3)
      have HN3 := Lib.hid (numAt_below HN.out hb3)
      have HE3 := Lib.hid (endAt_below HE.out hb3)
      have HB3 := Lib.hid (bseq HB.out hb3)
      clear hb3
      go_wp2_with fail
      refine (EN.out _ HA3.out).mono ?_
      rintro e w4 ⟨rfl, hb4⟩
      have HN4 := Lib.hid (numAt_below HN3.out hb4)
      have HE4 := Lib.hid (endAt_below HE3.out hb4)
      have HB4 := Lib.hid (bseq HB3.out hb4)
      clear hb4
      obtain ⟨m1, m2, m3, m4, q1, q2, q3, q4⟩ := numAt_cells HN4.out
      obtain ⟨z2, z4, g2, g4⟩ := endAt_cells HE4.out
      unfold capM
      have n1 : (min s1 1048576 == min s1 1048576) = true := by simp
      have n3 : (min s3 1048576 == min s3 1048576) = true := by simp
      go_wp2_with fail
      go_ret
      exact ⟨ret_bool (by simp), HB4.out⟩

end Go.Proofs.YthhpijmkhhdhhaaDoor
