/- events.Parse. -/
import Derived.Test.YthhpijmkhhdhhaaDoorEv
namespace Go.Proofs.YthhpijmkhhdhhaaDoor
open Go.RowKit
set_option linter.unusedVariables false
set_option linter.unusedSimpArgs false

theorem cut32 (s : ByteArray) (w : World) (hs : s.size ≤ 1000000) (hM : MaxAt w) (p q : ByteArray) (h : Bool) (h1 : s.data.toList.take (markN 32 s.data.toList) = p.data.toList) (h2 : s.data.toList.drop (markN 32 s.data.toList + 1) = q.data.toList) (h3 : decide (markN 32 s.data.toList < s.data.toList.length) = h) :
    Calls Tryd.prog 72 #[.string s, .string ⟨#[32]⟩] w fun e w' => e = .returned (.tuple #[.string p, .string q, .bool h]) ∧ ∃ n, w' = w.drewN n := by
  obtain ⟨m, hm, _⟩ := hM
  have hc := Tryd.strings_Cut s ⟨#[32]⟩ m w (by omega) hm
  rw [show (⟨#[32]⟩ : ByteArray).data.toList = [32] from rfl, cut_mark] at hc
  simp only [h1, h2, h3, Lib.mk_data] at hc
  exact hc

def EvParsePost (w : World) (l : List UInt8) (e : Ending) (w' : World) : Prop :=
  e = .returned (.tuple #[evV (if evYes l then (evCand l).1 else 0) (if evYes l then (evCand l).2 else 0), .int .i64 (if evYes l then 0 else 2)]) ∧ Below w.heap.size w w'

theorem evPost_yes {w w' : World} {l : List UInt8} {k n : Int} (h : evYes l = true) (hc : evCand l = (k, n)) (hb : Below w.heap.size w w') : EvParsePost w l (.returned (.tuple #[.agg #[.int .i64 k, .int .i64 n], .int .i64 0])) w' := by
  unfold EvParsePost; rw [h, hc]; exact ⟨rfl, hb⟩
theorem evPost_no {w w' : World} {l : List UInt8} (h : evYes l = false) (hb : Below w.heap.size w w') : EvParsePost w l (.returned (.tuple #[.agg #[.int .i64 0, .int .i64 0], .int .i64 2])) w' := by
  unfold EvParsePost; rw [h]; exact ⟨rfl, hb⟩

theorem ev_scen (s : ByteArray) (k n : Int) (h : evCand s.data.toList = (k, n)) : ∃ (T : ByteArray) (F : Int), ⟨(evT k n).toArray⟩ = T ∧ evE k n = F ∧
    ((evYes s.data.toList = true ∧ F = 0 ∧ T = s) ∨ (evYes s.data.toList = false ∧ F = 1) ∨ (evYes s.data.toList = false ∧ F = 0 ∧ (T.toList == s.toList) = false)) := by
  refine ⟨_, _, rfl, rfl, ?_⟩
  have hy : evYes s.data.toList = (evOk k n && evText k n == s.data.toList) := by unfold evYes; rw [h]
  cases ho : evOk k n with
  | false =>
    right; left
    rw [hy, ho]
    exact ⟨rfl, by unfold evE; rw [ho]; rfl⟩
  | true =>
    have hE : evE k n = 0 := by unfold evE; rw [ho]; rfl
    have hT : evT k n = evText k n := by unfold evT; rw [ho]; rfl
    rw [ho, Bool.true_and] at hy
    cases ht : (evText k n == s.data.toList) with
    | true =>
      left
      refine ⟨by rw [hy, ht], hE, ?_⟩
      apply bytes_extX
      rw [hT]
      simpa using ht
    | false =>
      right; right
      refine ⟨by rw [hy, ht], hE, ?_⟩
      rw [hT, Lib.toList_data, Lib.toList_data]
      exact ht

set_option maxRecDepth 100000 in
set_option maxHeartbeats 4000000 in
theorem evParse_any (s : ByteArray) (w : World) (hs : s.size ≤ 100000) (hM : MaxAt w) (hP : PowAt w) :
    Calls Tryd.prog 37 #[.string s] w (EvParsePost w s.data.toList) := by
  have HM := Lib.hid hM; clear hM
  have HP := Lib.hid hP; clear hP
  obtain ⟨p, hp⟩ : ∃ p : ByteArray, ⟨(s.data.toList.take (markN 32 s.data.toList)).toArray⟩ = p := ⟨_, rfl⟩
  obtain ⟨q, hq⟩ : ∃ q : ByteArray, ⟨(s.data.toList.drop (markN 32 s.data.toList + 1)).toArray⟩ = q := ⟨_, rfl⟩
  have hpl : s.data.toList.take (markN 32 s.data.toList) = p.data.toList := by rw [← hp]
  have hql : s.data.toList.drop (markN 32 s.data.toList + 1) = q.data.toList := by rw [← hq]
  have hqs : q.size ≤ 100000 := by rw [Lib.size_eq, ← hql, List.length_drop, ← Lib.size_eq]; omega
  have C := Lib.hid (fun w h => cut32 s w (by omega) h p q _ hpl hql rfl)
  have DC := Lib.hid (fun w => decimal_any q 1048576 w (by omega) (by decide) (by decide))
  have hrv := readV_range bDigit 10 1048576 q.data.toList (by omega) digit_hex (by omega)
  have hcand : evCand s.data.toList = (if q.data.toList == endS then ((if p.data.toList == upS then 3 else 1) + 1, 0) else (if p.data.toList == upS then 3 else 1, readV bDigit 10 1048576 q.data.toList)) := by
    unfold evCand; rw [hpl, hql]
  obtain ⟨V, hV⟩ : ∃ V, readV bDigit 10 1048576 q.data.toList = V := ⟨_, rfl⟩
  rw [hV] at hcand DC hrv
  have hyes : evYes s.data.toList = (evOk (evCand s.data.toList).1 (evCand s.data.toList).2 && evText (evCand s.data.toList).1 (evCand s.data.toList).2 == s.data.toList) := rfl
  have POSTY := Lib.hid (fun w' k n h hc hb => evPost_yes (w := w) (w' := w') (l := s.data.toList) (k := k) (n := n) h hc hb)
  have POSTN := Lib.hid (fun w' h hb => evPost_no (w := w) (w' := w') (l := s.data.toList) h hb)
  rw [← Lib.toList_data p, ← Lib.toList_data q] at hcand
  clear hp hq hpl hql hV
  obtain ⟨h3, hh3⟩ : ∃ h3, decide (markN 32 s.data.toList < s.data.toList.length) = h3 := ⟨_, rfl⟩
  rw [hh3] at C
  clear hh3
  have TX := Lib.hid (fun k n w a b c => evText_any k n w a b c)
  unfold evV at TX
  have HC := Lib.hid hcand; clear hcand
  have HY := Lib.hid hyes; clear hyes
  have haM : MaxAt (w.alloc (.cells #[.int .i64 0, .int .i64 0] 47)) := maxAt_below HM.out ((Below.refl _ _).alloc (Nat.le_refl _) _)
  have HAM := Lib.hid haM; clear haM
  cases hu : (p.toList == upS) with
  | true =>
    have u1 : (p.toList == [117, 112, 115, 116, 114, 101, 97, 109]) = true := hu
    cases he : (q.toList == endS) with
    | true =>
      have e1 : (q.toList == [101, 110, 100]) = true := he
      have HCC : Hid (evCand s.data.toList = (4, 0)) := Lib.hid (by rw [HC.out, hu, he]; rfl)
      have HU := Lib.hid hu; have HE := Lib.hid he; clear hu he
      obtain ⟨T, F, hT, hF, hsc⟩ := ev_scen s 4 0 HCC.out
      have TT := Lib.hid (fun w c => TX.out 4 0 w (by omega) (by omega) c)
      unfold EvTextPost at TT
      rw [hT, hF] at TT
      clear hT hF TX
      rcases hsc with ⟨hy, rfl, rfl⟩ | ⟨hy, rfl⟩ | ⟨hy, rfl, hne⟩
      · have HYY := Lib.hid hy; clear hy
        have n1 := eq_selfX T
        have n2 := neq_selfX T
        go_enter Tryd.func37, Tryd.ntmps37
        go_wp2_with fail
        refine (C.out _ HAM.out).mono ?_
        rintro e w2 ⟨rfl, nd, rfl⟩
        go_wp2_with fail
        obtain ⟨wx, hwx⟩ : ∃ wx, ((w.alloc (.cells #[.int .i64 0, .int .i64 0] 47)).drewN nd).alloc (.cells #[.int .i64 4, .int .i64 0] 47) = wx := ⟨_, rfl⟩
        have h0 : wx.heap[w.heap.size]? = some (.cells #[.int .i64 0, .int .i64 0] 47 (0, 0)) := by
          rw [← hwx, Below.heap_alloc _ _ _ (by simp [World.drewN])]
          exact heap_alloc_new w _
        have h1 : wx.heap[w.heap.size + 1]? = some (.cells #[.int .i64 4, .int .i64 0] 47 (0, 0)) := by
          have := heap_alloc_new ((w.alloc (.cells #[.int .i64 0, .int .i64 0] 47)).drewN nd) (.cells #[.int .i64 4, .int .i64 0] 47)
          rw [hwx, show ((w.alloc (.cells #[.int .i64 0, .int .i64 0] 47)).drewN nd).heap.size = w.heap.size + 1 by simp [World.drewN]] at this
          exact this
        have hbx : Below w.heap.size w wx := by rw [← hwx]; exact (belowN ((Below.refl _ _).alloc (Nat.le_refl _) _) nd).alloc (by simp [World.drewN]) _
        rw [hwx]
        refine (TT.out _ (powAt_below HP.out hbx)).mono ?_
        rintro e w3 ⟨rfl, hb3⟩
        have k0 := (hb3.block _ (lt_of_block h0)).trans h0
        have k1 := (hb3.block _ (lt_of_block h1)).trans h1
        have c00 : w3.cell? ⟨w.heap.size, 0, none⟩ = some (.int .i64 0) := by rw [cell_of_row w3 w.heap.size 0 _ _ _ k0]; rfl
        have c01 : w3.cell? ⟨w.heap.size, 1, none⟩ = some (.int .i64 0) := by rw [cell_of_row w3 w.heap.size 1 _ _ _ k0]; rfl
        have f00 := frozen_of_row w3 w.heap.size 0 _ _ k0
        have f01 := frozen_of_row w3 w.heap.size 1 _ _ k0
        have c10 : w3.cell? ⟨w.heap.size + 1, 0, none⟩ = some (.int .i64 4) := by rw [cell_of_row w3 (w.heap.size + 1) 0 _ _ _ k1]; rfl
        have c11 : w3.cell? ⟨w.heap.size + 1, 1, none⟩ = some (.int .i64 0) := by rw [cell_of_row w3 (w.heap.size + 1) 1 _ _ _ k1]; rfl
        have HB3 : Hid (Below w.heap.size w w3) := Lib.hid (hbx.trans (hb3.mono hbx.size))
        clear hb3 k0 k1 h0 h1 hbx hwx TT
        go_wp2_with fail
        refine bodyPost_ret (v := .tuple #[.agg #[.int .i64 4, .int .i64 0], .int .i64 0]) (by simp [results, Tryd.results37, go_sem, c00, c01]) rfl ?_
        exact POSTY.out _ _ _ HYY.out HCC.out ((HB3.out.setCell (Nat.le_refl _) _).setCell (Nat.le_refl _) _)
      · have HYY := Lib.hid hy; clear hy
        go_enter Tryd.func37, Tryd.ntmps37
        go_wp2_with fail
        refine (C.out _ HAM.out).mono ?_
        rintro e w2 ⟨rfl, nd, rfl⟩
        go_wp2_with fail
        obtain ⟨wx, hwx⟩ : ∃ wx, ((w.alloc (.cells #[.int .i64 0, .int .i64 0] 47)).drewN nd).alloc (.cells #[.int .i64 4, .int .i64 0] 47) = wx := ⟨_, rfl⟩
        have h0 : wx.heap[w.heap.size]? = some (.cells #[.int .i64 0, .int .i64 0] 47 (0, 0)) := by
          rw [← hwx, Below.heap_alloc _ _ _ (by simp [World.drewN])]
          exact heap_alloc_new w _
        have h1 : wx.heap[w.heap.size + 1]? = some (.cells #[.int .i64 4, .int .i64 0] 47 (0, 0)) := by
          have := heap_alloc_new ((w.alloc (.cells #[.int .i64 0, .int .i64 0] 47)).drewN nd) (.cells #[.int .i64 4, .int .i64 0] 47)
          rw [hwx, show ((w.alloc (.cells #[.int .i64 0, .int .i64 0] 47)).drewN nd).heap.size = w.heap.size + 1 by simp [World.drewN]] at this
          exact this
        have hbx : Below w.heap.size w wx := by rw [← hwx]; exact (belowN ((Below.refl _ _).alloc (Nat.le_refl _) _) nd).alloc (by simp [World.drewN]) _
        rw [hwx]
        refine (TT.out _ (powAt_below HP.out hbx)).mono ?_
        rintro e w3 ⟨rfl, hb3⟩
        have k0 := (hb3.block _ (lt_of_block h0)).trans h0
        have k1 := (hb3.block _ (lt_of_block h1)).trans h1
        have c00 : w3.cell? ⟨w.heap.size, 0, none⟩ = some (.int .i64 0) := by rw [cell_of_row w3 w.heap.size 0 _ _ _ k0]; rfl
        have c01 : w3.cell? ⟨w.heap.size, 1, none⟩ = some (.int .i64 0) := by rw [cell_of_row w3 w.heap.size 1 _ _ _ k0]; rfl
        have f00 := frozen_of_row w3 w.heap.size 0 _ _ k0
        have f01 := frozen_of_row w3 w.heap.size 1 _ _ k0
        have c10 : w3.cell? ⟨w.heap.size + 1, 0, none⟩ = some (.int .i64 4) := by rw [cell_of_row w3 (w.heap.size + 1) 0 _ _ _ k1]; rfl
        have c11 : w3.cell? ⟨w.heap.size + 1, 1, none⟩ = some (.int .i64 0) := by rw [cell_of_row w3 (w.heap.size + 1) 1 _ _ _ k1]; rfl
        have HB3 : Hid (Below w.heap.size w w3) := Lib.hid (hbx.trans (hb3.mono hbx.size))
        clear hb3 k0 k1 h0 h1 hbx hwx TT
        go_wp2_with fail
        refine bodyPost_ret (v := .tuple #[.agg #[.int .i64 0, .int .i64 0], .int .i64 2]) (by simp [results, Tryd.results37, go_sem, c00, c01]) rfl ?_
        exact POSTN.out _ HYY.out ((HB3.out.setCell (Nat.le_refl _) _).setCell (Nat.le_refl _) _)
      · have HYY := Lib.hid hy; clear hy
        have n2 : (T.toList != s.toList) = true := by rw [bne, hne]; rfl
        go_enter Tryd.func37, Tryd.ntmps37
        go_wp2_with fail
        refine (C.out _ HAM.out).mono ?_
        rintro e w2 ⟨rfl, nd, rfl⟩
        go_wp2_with fail
        obtain ⟨wx, hwx⟩ : ∃ wx, ((w.alloc (.cells #[.int .i64 0, .int .i64 0] 47)).drewN nd).alloc (.cells #[.int .i64 4, .int .i64 0] 47) = wx := ⟨_, rfl⟩
        have h0 : wx.heap[w.heap.size]? = some (.cells #[.int .i64 0, .int .i64 0] 47 (0, 0)) := by
          rw [← hwx, Below.heap_alloc _ _ _ (by simp [World.drewN])]
          exact heap_alloc_new w _
        have h1 : wx.heap[w.heap.size + 1]? = some (.cells #[.int .i64 4, .int .i64 0] 47 (0, 0)) := by
          have := heap_alloc_new ((w.alloc (.cells #[.int .i64 0, .int .i64 0] 47)).drewN nd) (.cells #[.int .i64 4, .int .i64 0] 47)
          rw [hwx, show ((w.alloc (.cells #[.int .i64 0, .int .i64 0] 47)).drewN nd).heap.size = w.heap.size + 1 by simp [World.drewN]] at this
          exact this
        have hbx : Below w.heap.size w wx := by rw [← hwx]; exact (belowN ((Below.refl _ _).alloc (Nat.le_refl _) _) nd).alloc (by simp [World.drewN]) _
        rw [hwx]
        refine (TT.out _ (powAt_below HP.out hbx)).mono ?_
        rintro e w3 ⟨rfl, hb3⟩
        have k0 := (hb3.block _ (lt_of_block h0)).trans h0
        have k1 := (hb3.block _ (lt_of_block h1)).trans h1
        have c00 : w3.cell? ⟨w.heap.size, 0, none⟩ = some (.int .i64 0) := by rw [cell_of_row w3 w.heap.size 0 _ _ _ k0]; rfl
        have c01 : w3.cell? ⟨w.heap.size, 1, none⟩ = some (.int .i64 0) := by rw [cell_of_row w3 w.heap.size 1 _ _ _ k0]; rfl
        have f00 := frozen_of_row w3 w.heap.size 0 _ _ k0
        have f01 := frozen_of_row w3 w.heap.size 1 _ _ k0
        have c10 : w3.cell? ⟨w.heap.size + 1, 0, none⟩ = some (.int .i64 4) := by rw [cell_of_row w3 (w.heap.size + 1) 0 _ _ _ k1]; rfl
        have c11 : w3.cell? ⟨w.heap.size + 1, 1, none⟩ = some (.int .i64 0) := by rw [cell_of_row w3 (w.heap.size + 1) 1 _ _ _ k1]; rfl
        have HB3 : Hid (Below w.heap.size w w3) := Lib.hid (hbx.trans (hb3.mono hbx.size))
        clear hb3 k0 k1 h0 h1 hbx hwx TT
        go_wp2_with fail
        refine bodyPost_ret (v := .tuple #[.agg #[.int .i64 0, .int .i64 0], .int .i64 2]) (by simp [results, Tryd.results37, go_sem, c00, c01]) rfl ?_
        exact POSTN.out _ HYY.out ((HB3.out.setCell (Nat.le_refl _) _).setCell (Nat.le_refl _) _)
    | false =>
      have e1 : (q.toList == [101, 110, 100]) = false := he
      have HCC : Hid (evCand s.data.toList = (3, V)) := Lib.hid (by rw [HC.out, hu, he]; rfl)
      have HU := Lib.hid hu; have HE := Lib.hid he; clear hu he
      obtain ⟨T, F, hT, hF, hsc⟩ := ev_scen s 3 V HCC.out
      have TT := Lib.hid (fun w c => TX.out 3 V w (by omega) (by omega) c)
      unfold EvTextPost at TT
      rw [hT, hF] at TT
      clear hT hF TX
      rcases hsc with ⟨hy, rfl, rfl⟩ | ⟨hy, rfl⟩ | ⟨hy, rfl, hne⟩
      · have HYY := Lib.hid hy; clear hy
        have n1 := eq_selfX T
        have n2 := neq_selfX T
        go_enter Tryd.func37, Tryd.ntmps37
        go_wp2_with fail
        refine (C.out _ HAM.out).mono ?_
        rintro e w2 ⟨rfl, nd, rfl⟩
        go_wp2_with fail
        obtain ⟨wx, hwx⟩ : ∃ wx, ((w.alloc (.cells #[.int .i64 0, .int .i64 0] 47)).drewN nd).alloc (.cells #[.int .i64 3, .int .i64 0] 47) = wx := ⟨_, rfl⟩
        have h0 : wx.heap[w.heap.size]? = some (.cells #[.int .i64 0, .int .i64 0] 47 (0, 0)) := by
          rw [← hwx, Below.heap_alloc _ _ _ (by simp [World.drewN])]
          exact heap_alloc_new w _
        have h1 : wx.heap[w.heap.size + 1]? = some (.cells #[.int .i64 3, .int .i64 0] 47 (0, 0)) := by
          have := heap_alloc_new ((w.alloc (.cells #[.int .i64 0, .int .i64 0] 47)).drewN nd) (.cells #[.int .i64 3, .int .i64 0] 47)
          rw [hwx, show ((w.alloc (.cells #[.int .i64 0, .int .i64 0] 47)).drewN nd).heap.size = w.heap.size + 1 by simp [World.drewN]] at this
          exact this
        have hbx : Below w.heap.size w wx := by rw [← hwx]; exact (belowN ((Below.refl _ _).alloc (Nat.le_refl _) _) nd).alloc (by simp [World.drewN]) _
        rw [hwx]
        refine (DC.out _).mono ?_
        rintro e wy ⟨rfl, hby⟩
        have h0' := (hby.block _ (lt_of_block h0)).trans h0
        have h1' := (hby.block _ (lt_of_block h1)).trans h1
        have d10 : wy.cell? ⟨w.heap.size + 1, 0, none⟩ = some (.int .i64 3) := by rw [cell_of_row wy (w.heap.size + 1) 0 _ _ _ h1']; rfl
        have d11 : wy.cell? ⟨w.heap.size + 1, 1, none⟩ = some (.int .i64 0) := by rw [cell_of_row wy (w.heap.size + 1) 1 _ _ _ h1']; rfl
        have df := frozen_of_row wy (w.heap.size + 1) 1 _ _ h1'
        have hbyy : Below w.heap.size w wy := hbx.trans (hby.mono hbx.size)
        obtain ⟨wz, hwz⟩ : ∃ wz, wy.setCell ⟨w.heap.size + 1, 1, none⟩ (.int .i64 V) = wz := ⟨_, rfl⟩
        have h0'' : wz.heap[w.heap.size]? = some (.cells #[.int .i64 0, .int .i64 0] 47 (0, 0)) := by rw [← hwz, Below.heap_setCell _ _ _ _ (by simp)]; exact h0'
        have h1'' : wz.heap[w.heap.size + 1]? = some (.cells #[.int .i64 3, .int .i64 V] 47 (0, 0)) := by rw [← hwz]; exact heap_setCell_at h1' 1 _
        have z10 : wz.cell? ⟨w.heap.size + 1, 0, none⟩ = some (.int .i64 3) := by rw [cell_of_row wz (w.heap.size + 1) 0 _ _ _ h1'']; rfl
        have z11 : wz.cell? ⟨w.heap.size + 1, 1, none⟩ = some (.int .i64 V) := by rw [cell_of_row wz (w.heap.size + 1) 1 _ _ _ h1'']; rfl
        have hbzz : Below w.heap.size w wz := by rw [← hwz]; exact hbyy.setCell (by simp) _
        have H0 := Lib.hid h0''; have H1 := Lib.hid h1''; have HBZ := Lib.hid hbzz
        clear h0 h1 hbx h0' h1' hby hbyy h0'' h1'' hbzz hwx
        go_wp2_with fail
        clear d10 d11 df z10 z11
        have h0 := H0.out
        have h1 := H1.out
        have hbx := HBZ.out
        clear H0 H1 HBZ
        have hwx := hwz
        refine (TT.out _ (powAt_below HP.out hbx)).mono ?_
        rintro e w3 ⟨rfl, hb3⟩
        have k0 := (hb3.block _ (lt_of_block h0)).trans h0
        have k1 := (hb3.block _ (lt_of_block h1)).trans h1
        have c00 : w3.cell? ⟨w.heap.size, 0, none⟩ = some (.int .i64 0) := by rw [cell_of_row w3 w.heap.size 0 _ _ _ k0]; rfl
        have c01 : w3.cell? ⟨w.heap.size, 1, none⟩ = some (.int .i64 0) := by rw [cell_of_row w3 w.heap.size 1 _ _ _ k0]; rfl
        have f00 := frozen_of_row w3 w.heap.size 0 _ _ k0
        have f01 := frozen_of_row w3 w.heap.size 1 _ _ k0
        have c10 : w3.cell? ⟨w.heap.size + 1, 0, none⟩ = some (.int .i64 3) := by rw [cell_of_row w3 (w.heap.size + 1) 0 _ _ _ k1]; rfl
        have c11 : w3.cell? ⟨w.heap.size + 1, 1, none⟩ = some (.int .i64 V) := by rw [cell_of_row w3 (w.heap.size + 1) 1 _ _ _ k1]; rfl
        have HB3 : Hid (Below w.heap.size w w3) := Lib.hid (hbx.trans (hb3.mono hbx.size))
        clear hb3 k0 k1 h0 h1 hbx hwx TT
        go_wp2_with fail
        refine bodyPost_ret (v := .tuple #[.agg #[.int .i64 3, .int .i64 V], .int .i64 0]) (by simp [results, Tryd.results37, go_sem, c00, c01]) rfl ?_
        exact POSTY.out _ _ _ HYY.out HCC.out ((HB3.out.setCell (Nat.le_refl _) _).setCell (Nat.le_refl _) _)
      · have HYY := Lib.hid hy; clear hy
        go_enter Tryd.func37, Tryd.ntmps37
        go_wp2_with fail
        refine (C.out _ HAM.out).mono ?_
        rintro e w2 ⟨rfl, nd, rfl⟩
        go_wp2_with fail
        obtain ⟨wx, hwx⟩ : ∃ wx, ((w.alloc (.cells #[.int .i64 0, .int .i64 0] 47)).drewN nd).alloc (.cells #[.int .i64 3, .int .i64 0] 47) = wx := ⟨_, rfl⟩
        have h0 : wx.heap[w.heap.size]? = some (.cells #[.int .i64 0, .int .i64 0] 47 (0, 0)) := by
          rw [← hwx, Below.heap_alloc _ _ _ (by simp [World.drewN])]
          exact heap_alloc_new w _
        have h1 : wx.heap[w.heap.size + 1]? = some (.cells #[.int .i64 3, .int .i64 0] 47 (0, 0)) := by
          have := heap_alloc_new ((w.alloc (.cells #[.int .i64 0, .int .i64 0] 47)).drewN nd) (.cells #[.int .i64 3, .int .i64 0] 47)
          rw [hwx, show ((w.alloc (.cells #[.int .i64 0, .int .i64 0] 47)).drewN nd).heap.size = w.heap.size + 1 by simp [World.drewN]] at this
          exact this
        have hbx : Below w.heap.size w wx := by rw [← hwx]; exact (belowN ((Below.refl _ _).alloc (Nat.le_refl _) _) nd).alloc (by simp [World.drewN]) _
        rw [hwx]
        refine (DC.out _).mono ?_
        rintro e wy ⟨rfl, hby⟩
        have h0' := (hby.block _ (lt_of_block h0)).trans h0
        have h1' := (hby.block _ (lt_of_block h1)).trans h1
        have d10 : wy.cell? ⟨w.heap.size + 1, 0, none⟩ = some (.int .i64 3) := by rw [cell_of_row wy (w.heap.size + 1) 0 _ _ _ h1']; rfl
        have d11 : wy.cell? ⟨w.heap.size + 1, 1, none⟩ = some (.int .i64 0) := by rw [cell_of_row wy (w.heap.size + 1) 1 _ _ _ h1']; rfl
        have df := frozen_of_row wy (w.heap.size + 1) 1 _ _ h1'
        have hbyy : Below w.heap.size w wy := hbx.trans (hby.mono hbx.size)
        obtain ⟨wz, hwz⟩ : ∃ wz, wy.setCell ⟨w.heap.size + 1, 1, none⟩ (.int .i64 V) = wz := ⟨_, rfl⟩
        have h0'' : wz.heap[w.heap.size]? = some (.cells #[.int .i64 0, .int .i64 0] 47 (0, 0)) := by rw [← hwz, Below.heap_setCell _ _ _ _ (by simp)]; exact h0'
        have h1'' : wz.heap[w.heap.size + 1]? = some (.cells #[.int .i64 3, .int .i64 V] 47 (0, 0)) := by rw [← hwz]; exact heap_setCell_at h1' 1 _
        have z10 : wz.cell? ⟨w.heap.size + 1, 0, none⟩ = some (.int .i64 3) := by rw [cell_of_row wz (w.heap.size + 1) 0 _ _ _ h1'']; rfl
        have z11 : wz.cell? ⟨w.heap.size + 1, 1, none⟩ = some (.int .i64 V) := by rw [cell_of_row wz (w.heap.size + 1) 1 _ _ _ h1'']; rfl
        have hbzz : Below w.heap.size w wz := by rw [← hwz]; exact hbyy.setCell (by simp) _
        have H0 := Lib.hid h0''; have H1 := Lib.hid h1''; have HBZ := Lib.hid hbzz
        clear h0 h1 hbx h0' h1' hby hbyy h0'' h1'' hbzz hwx
        go_wp2_with fail
        clear d10 d11 df z10 z11
        have h0 := H0.out
        have h1 := H1.out
        have hbx := HBZ.out
        clear H0 H1 HBZ
        have hwx := hwz
        refine (TT.out _ (powAt_below HP.out hbx)).mono ?_
        rintro e w3 ⟨rfl, hb3⟩
        have k0 := (hb3.block _ (lt_of_block h0)).trans h0
        have k1 := (hb3.block _ (lt_of_block h1)).trans h1
        have c00 : w3.cell? ⟨w.heap.size, 0, none⟩ = some (.int .i64 0) := by rw [cell_of_row w3 w.heap.size 0 _ _ _ k0]; rfl
        have c01 : w3.cell? ⟨w.heap.size, 1, none⟩ = some (.int .i64 0) := by rw [cell_of_row w3 w.heap.size 1 _ _ _ k0]; rfl
        have f00 := frozen_of_row w3 w.heap.size 0 _ _ k0
        have f01 := frozen_of_row w3 w.heap.size 1 _ _ k0
        have c10 : w3.cell? ⟨w.heap.size + 1, 0, none⟩ = some (.int .i64 3) := by rw [cell_of_row w3 (w.heap.size + 1) 0 _ _ _ k1]; rfl
        have c11 : w3.cell? ⟨w.heap.size + 1, 1, none⟩ = some (.int .i64 V) := by rw [cell_of_row w3 (w.heap.size + 1) 1 _ _ _ k1]; rfl
        have HB3 : Hid (Below w.heap.size w w3) := Lib.hid (hbx.trans (hb3.mono hbx.size))
        clear hb3 k0 k1 h0 h1 hbx hwx TT
        go_wp2_with fail
        refine bodyPost_ret (v := .tuple #[.agg #[.int .i64 0, .int .i64 0], .int .i64 2]) (by simp [results, Tryd.results37, go_sem, c00, c01]) rfl ?_
        exact POSTN.out _ HYY.out ((HB3.out.setCell (Nat.le_refl _) _).setCell (Nat.le_refl _) _)
      · have HYY := Lib.hid hy; clear hy
        have n2 : (T.toList != s.toList) = true := by rw [bne, hne]; rfl
        go_enter Tryd.func37, Tryd.ntmps37
        go_wp2_with fail
        refine (C.out _ HAM.out).mono ?_
        rintro e w2 ⟨rfl, nd, rfl⟩
        go_wp2_with fail
        obtain ⟨wx, hwx⟩ : ∃ wx, ((w.alloc (.cells #[.int .i64 0, .int .i64 0] 47)).drewN nd).alloc (.cells #[.int .i64 3, .int .i64 0] 47) = wx := ⟨_, rfl⟩
        have h0 : wx.heap[w.heap.size]? = some (.cells #[.int .i64 0, .int .i64 0] 47 (0, 0)) := by
          rw [← hwx, Below.heap_alloc _ _ _ (by simp [World.drewN])]
          exact heap_alloc_new w _
        have h1 : wx.heap[w.heap.size + 1]? = some (.cells #[.int .i64 3, .int .i64 0] 47 (0, 0)) := by
          have := heap_alloc_new ((w.alloc (.cells #[.int .i64 0, .int .i64 0] 47)).drewN nd) (.cells #[.int .i64 3, .int .i64 0] 47)
          rw [hwx, show ((w.alloc (.cells #[.int .i64 0, .int .i64 0] 47)).drewN nd).heap.size = w.heap.size + 1 by simp [World.drewN]] at this
          exact this
        have hbx : Below w.heap.size w wx := by rw [← hwx]; exact (belowN ((Below.refl _ _).alloc (Nat.le_refl _) _) nd).alloc (by simp [World.drewN]) _
        rw [hwx]
        refine (DC.out _).mono ?_
        rintro e wy ⟨rfl, hby⟩
        have h0' := (hby.block _ (lt_of_block h0)).trans h0
        have h1' := (hby.block _ (lt_of_block h1)).trans h1
        have d10 : wy.cell? ⟨w.heap.size + 1, 0, none⟩ = some (.int .i64 3) := by rw [cell_of_row wy (w.heap.size + 1) 0 _ _ _ h1']; rfl
        have d11 : wy.cell? ⟨w.heap.size + 1, 1, none⟩ = some (.int .i64 0) := by rw [cell_of_row wy (w.heap.size + 1) 1 _ _ _ h1']; rfl
        have df := frozen_of_row wy (w.heap.size + 1) 1 _ _ h1'
        have hbyy : Below w.heap.size w wy := hbx.trans (hby.mono hbx.size)
        obtain ⟨wz, hwz⟩ : ∃ wz, wy.setCell ⟨w.heap.size + 1, 1, none⟩ (.int .i64 V) = wz := ⟨_, rfl⟩
        have h0'' : wz.heap[w.heap.size]? = some (.cells #[.int .i64 0, .int .i64 0] 47 (0, 0)) := by rw [← hwz, Below.heap_setCell _ _ _ _ (by simp)]; exact h0'
        have h1'' : wz.heap[w.heap.size + 1]? = some (.cells #[.int .i64 3, .int .i64 V] 47 (0, 0)) := by rw [← hwz]; exact heap_setCell_at h1' 1 _
        have z10 : wz.cell? ⟨w.heap.size + 1, 0, none⟩ = some (.int .i64 3) := by rw [cell_of_row wz (w.heap.size + 1) 0 _ _ _ h1'']; rfl
        have z11 : wz.cell? ⟨w.heap.size + 1, 1, none⟩ = some (.int .i64 V) := by rw [cell_of_row wz (w.heap.size + 1) 1 _ _ _ h1'']; rfl
        have hbzz : Below w.heap.size w wz := by rw [← hwz]; exact hbyy.setCell (by simp) _
        have H0 := Lib.hid h0''; have H1 := Lib.hid h1''; have HBZ := Lib.hid hbzz
        clear h0 h1 hbx h0' h1' hby hbyy h0'' h1'' hbzz hwx
        go_wp2_with fail
        clear d10 d11 df z10 z11
        have h0 := H0.out
        have h1 := H1.out
        have hbx := HBZ.out
        clear H0 H1 HBZ
        have hwx := hwz
        refine (TT.out _ (powAt_below HP.out hbx)).mono ?_
        rintro e w3 ⟨rfl, hb3⟩
        have k0 := (hb3.block _ (lt_of_block h0)).trans h0
        have k1 := (hb3.block _ (lt_of_block h1)).trans h1
        have c00 : w3.cell? ⟨w.heap.size, 0, none⟩ = some (.int .i64 0) := by rw [cell_of_row w3 w.heap.size 0 _ _ _ k0]; rfl
        have c01 : w3.cell? ⟨w.heap.size, 1, none⟩ = some (.int .i64 0) := by rw [cell_of_row w3 w.heap.size 1 _ _ _ k0]; rfl
        have f00 := frozen_of_row w3 w.heap.size 0 _ _ k0
        have f01 := frozen_of_row w3 w.heap.size 1 _ _ k0
        have c10 : w3.cell? ⟨w.heap.size + 1, 0, none⟩ = some (.int .i64 3) := by rw [cell_of_row w3 (w.heap.size + 1) 0 _ _ _ k1]; rfl
        have c11 : w3.cell? ⟨w.heap.size + 1, 1, none⟩ = some (.int .i64 V) := by rw [cell_of_row w3 (w.heap.size + 1) 1 _ _ _ k1]; rfl
        have HB3 : Hid (Below w.heap.size w w3) := Lib.hid (hbx.trans (hb3.mono hbx.size))
        clear hb3 k0 k1 h0 h1 hbx hwx TT
        go_wp2_with fail
        refine bodyPost_ret (v := .tuple #[.agg #[.int .i64 0, .int .i64 0], .int .i64 2]) (by simp [results, Tryd.results37, go_sem, c00, c01]) rfl ?_
        exact POSTN.out _ HYY.out ((HB3.out.setCell (Nat.le_refl _) _).setCell (Nat.le_refl _) _)
  | false =>
    have u1 : (p.toList == [117, 112, 115, 116, 114, 101, 97, 109]) = false := hu
    cases he : (q.toList == endS) with
    | true =>
      have e1 : (q.toList == [101, 110, 100]) = true := he
      have HCC : Hid (evCand s.data.toList = (2, 0)) := Lib.hid (by rw [HC.out, hu, he]; rfl)
      have HU := Lib.hid hu; have HE := Lib.hid he; clear hu he
      obtain ⟨T, F, hT, hF, hsc⟩ := ev_scen s 2 0 HCC.out
      have TT := Lib.hid (fun w c => TX.out 2 0 w (by omega) (by omega) c)
      unfold EvTextPost at TT
      rw [hT, hF] at TT
      clear hT hF TX
      rcases hsc with ⟨hy, rfl, rfl⟩ | ⟨hy, rfl⟩ | ⟨hy, rfl, hne⟩
      · have HYY := Lib.hid hy; clear hy
        have n1 := eq_selfX T
        have n2 := neq_selfX T
        go_enter Tryd.func37, Tryd.ntmps37
        go_wp2_with fail
        refine (C.out _ HAM.out).mono ?_
        rintro e w2 ⟨rfl, nd, rfl⟩
        go_wp2_with fail
        obtain ⟨wx, hwx⟩ : ∃ wx, ((w.alloc (.cells #[.int .i64 0, .int .i64 0] 47)).drewN nd).alloc (.cells #[.int .i64 2, .int .i64 0] 47) = wx := ⟨_, rfl⟩
        have h0 : wx.heap[w.heap.size]? = some (.cells #[.int .i64 0, .int .i64 0] 47 (0, 0)) := by
          rw [← hwx, Below.heap_alloc _ _ _ (by simp [World.drewN])]
          exact heap_alloc_new w _
        have h1 : wx.heap[w.heap.size + 1]? = some (.cells #[.int .i64 2, .int .i64 0] 47 (0, 0)) := by
          have := heap_alloc_new ((w.alloc (.cells #[.int .i64 0, .int .i64 0] 47)).drewN nd) (.cells #[.int .i64 2, .int .i64 0] 47)
          rw [hwx, show ((w.alloc (.cells #[.int .i64 0, .int .i64 0] 47)).drewN nd).heap.size = w.heap.size + 1 by simp [World.drewN]] at this
          exact this
        have hbx : Below w.heap.size w wx := by rw [← hwx]; exact (belowN ((Below.refl _ _).alloc (Nat.le_refl _) _) nd).alloc (by simp [World.drewN]) _
        rw [hwx]
        refine (TT.out _ (powAt_below HP.out hbx)).mono ?_
        rintro e w3 ⟨rfl, hb3⟩
        have k0 := (hb3.block _ (lt_of_block h0)).trans h0
        have k1 := (hb3.block _ (lt_of_block h1)).trans h1
        have c00 : w3.cell? ⟨w.heap.size, 0, none⟩ = some (.int .i64 0) := by rw [cell_of_row w3 w.heap.size 0 _ _ _ k0]; rfl
        have c01 : w3.cell? ⟨w.heap.size, 1, none⟩ = some (.int .i64 0) := by rw [cell_of_row w3 w.heap.size 1 _ _ _ k0]; rfl
        have f00 := frozen_of_row w3 w.heap.size 0 _ _ k0
        have f01 := frozen_of_row w3 w.heap.size 1 _ _ k0
        have c10 : w3.cell? ⟨w.heap.size + 1, 0, none⟩ = some (.int .i64 2) := by rw [cell_of_row w3 (w.heap.size + 1) 0 _ _ _ k1]; rfl
        have c11 : w3.cell? ⟨w.heap.size + 1, 1, none⟩ = some (.int .i64 0) := by rw [cell_of_row w3 (w.heap.size + 1) 1 _ _ _ k1]; rfl
        have HB3 : Hid (Below w.heap.size w w3) := Lib.hid (hbx.trans (hb3.mono hbx.size))
        clear hb3 k0 k1 h0 h1 hbx hwx TT
        go_wp2_with fail
        refine bodyPost_ret (v := .tuple #[.agg #[.int .i64 2, .int .i64 0], .int .i64 0]) (by simp [results, Tryd.results37, go_sem, c00, c01]) rfl ?_
        exact POSTY.out _ _ _ HYY.out HCC.out ((HB3.out.setCell (Nat.le_refl _) _).setCell (Nat.le_refl _) _)
      · have HYY := Lib.hid hy; clear hy
        go_enter Tryd.func37, Tryd.ntmps37
        go_wp2_with fail
        refine (C.out _ HAM.out).mono ?_
        rintro e w2 ⟨rfl, nd, rfl⟩
        go_wp2_with fail
        obtain ⟨wx, hwx⟩ : ∃ wx, ((w.alloc (.cells #[.int .i64 0, .int .i64 0] 47)).drewN nd).alloc (.cells #[.int .i64 2, .int .i64 0] 47) = wx := ⟨_, rfl⟩
        have h0 : wx.heap[w.heap.size]? = some (.cells #[.int .i64 0, .int .i64 0] 47 (0, 0)) := by
          rw [← hwx, Below.heap_alloc _ _ _ (by simp [World.drewN])]
          exact heap_alloc_new w _
        have h1 : wx.heap[w.heap.size + 1]? = some (.cells #[.int .i64 2, .int .i64 0] 47 (0, 0)) := by
          have := heap_alloc_new ((w.alloc (.cells #[.int .i64 0, .int .i64 0] 47)).drewN nd) (.cells #[.int .i64 2, .int .i64 0] 47)
          rw [hwx, show ((w.alloc (.cells #[.int .i64 0, .int .i64 0] 47)).drewN nd).heap.size = w.heap.size + 1 by simp [World.drewN]] at this
          exact this
        have hbx : Below w.heap.size w wx := by rw [← hwx]; exact (belowN ((Below.refl _ _).alloc (Nat.le_refl _) _) nd).alloc (by simp [World.drewN]) _
        rw [hwx]
        refine (TT.out _ (powAt_below HP.out hbx)).mono ?_
        rintro e w3 ⟨rfl, hb3⟩
        have k0 := (hb3.block _ (lt_of_block h0)).trans h0
        have k1 := (hb3.block _ (lt_of_block h1)).trans h1
        have c00 : w3.cell? ⟨w.heap.size, 0, none⟩ = some (.int .i64 0) := by rw [cell_of_row w3 w.heap.size 0 _ _ _ k0]; rfl
        have c01 : w3.cell? ⟨w.heap.size, 1, none⟩ = some (.int .i64 0) := by rw [cell_of_row w3 w.heap.size 1 _ _ _ k0]; rfl
        have f00 := frozen_of_row w3 w.heap.size 0 _ _ k0
        have f01 := frozen_of_row w3 w.heap.size 1 _ _ k0
        have c10 : w3.cell? ⟨w.heap.size + 1, 0, none⟩ = some (.int .i64 2) := by rw [cell_of_row w3 (w.heap.size + 1) 0 _ _ _ k1]; rfl
        have c11 : w3.cell? ⟨w.heap.size + 1, 1, none⟩ = some (.int .i64 0) := by rw [cell_of_row w3 (w.heap.size + 1) 1 _ _ _ k1]; rfl
        have HB3 : Hid (Below w.heap.size w w3) := Lib.hid (hbx.trans (hb3.mono hbx.size))
        clear hb3 k0 k1 h0 h1 hbx hwx TT
        go_wp2_with fail
        refine bodyPost_ret (v := .tuple #[.agg #[.int .i64 0, .int .i64 0], .int .i64 2]) (by simp [results, Tryd.results37, go_sem, c00, c01]) rfl ?_
        exact POSTN.out _ HYY.out ((HB3.out.setCell (Nat.le_refl _) _).setCell (Nat.le_refl _) _)
      · have HYY := Lib.hid hy; clear hy
        have n2 : (T.toList != s.toList) = true := by rw [bne, hne]; rfl
        go_enter Tryd.func37, Tryd.ntmps37
        go_wp2_with fail
        refine (C.out _ HAM.out).mono ?_
        rintro e w2 ⟨rfl, nd, rfl⟩
        go_wp2_with fail
        obtain ⟨wx, hwx⟩ : ∃ wx, ((w.alloc (.cells #[.int .i64 0, .int .i64 0] 47)).drewN nd).alloc (.cells #[.int .i64 2, .int .i64 0] 47) = wx := ⟨_, rfl⟩
        have h0 : wx.heap[w.heap.size]? = some (.cells #[.int .i64 0, .int .i64 0] 47 (0, 0)) := by
          rw [← hwx, Below.heap_alloc _ _ _ (by simp [World.drewN])]
          exact heap_alloc_new w _
        have h1 : wx.heap[w.heap.size + 1]? = some (.cells #[.int .i64 2, .int .i64 0] 47 (0, 0)) := by
          have := heap_alloc_new ((w.alloc (.cells #[.int .i64 0, .int .i64 0] 47)).drewN nd) (.cells #[.int .i64 2, .int .i64 0] 47)
          rw [hwx, show ((w.alloc (.cells #[.int .i64 0, .int .i64 0] 47)).drewN nd).heap.size = w.heap.size + 1 by simp [World.drewN]] at this
          exact this
        have hbx : Below w.heap.size w wx := by rw [← hwx]; exact (belowN ((Below.refl _ _).alloc (Nat.le_refl _) _) nd).alloc (by simp [World.drewN]) _
        rw [hwx]
        refine (TT.out _ (powAt_below HP.out hbx)).mono ?_
        rintro e w3 ⟨rfl, hb3⟩
        have k0 := (hb3.block _ (lt_of_block h0)).trans h0
        have k1 := (hb3.block _ (lt_of_block h1)).trans h1
        have c00 : w3.cell? ⟨w.heap.size, 0, none⟩ = some (.int .i64 0) := by rw [cell_of_row w3 w.heap.size 0 _ _ _ k0]; rfl
        have c01 : w3.cell? ⟨w.heap.size, 1, none⟩ = some (.int .i64 0) := by rw [cell_of_row w3 w.heap.size 1 _ _ _ k0]; rfl
        have f00 := frozen_of_row w3 w.heap.size 0 _ _ k0
        have f01 := frozen_of_row w3 w.heap.size 1 _ _ k0
        have c10 : w3.cell? ⟨w.heap.size + 1, 0, none⟩ = some (.int .i64 2) := by rw [cell_of_row w3 (w.heap.size + 1) 0 _ _ _ k1]; rfl
        have c11 : w3.cell? ⟨w.heap.size + 1, 1, none⟩ = some (.int .i64 0) := by rw [cell_of_row w3 (w.heap.size + 1) 1 _ _ _ k1]; rfl
        have HB3 : Hid (Below w.heap.size w w3) := Lib.hid (hbx.trans (hb3.mono hbx.size))
        clear hb3 k0 k1 h0 h1 hbx hwx TT
        go_wp2_with fail
        refine bodyPost_ret (v := .tuple #[.agg #[.int .i64 0, .int .i64 0], .int .i64 2]) (by simp [results, Tryd.results37, go_sem, c00, c01]) rfl ?_
        exact POSTN.out _ HYY.out ((HB3.out.setCell (Nat.le_refl _) _).setCell (Nat.le_refl _) _)
    | false =>
      have e1 : (q.toList == [101, 110, 100]) = false := he
      have HCC : Hid (evCand s.data.toList = (1, V)) := Lib.hid (by rw [HC.out, hu, he]; rfl)
      have HU := Lib.hid hu; have HE := Lib.hid he; clear hu he
      obtain ⟨T, F, hT, hF, hsc⟩ := ev_scen s 1 V HCC.out
      have TT := Lib.hid (fun w c => TX.out 1 V w (by omega) (by omega) c)
      unfold EvTextPost at TT
      rw [hT, hF] at TT
      clear hT hF TX
      rcases hsc with ⟨hy, rfl, rfl⟩ | ⟨hy, rfl⟩ | ⟨hy, rfl, hne⟩
      · have HYY := Lib.hid hy; clear hy
        have n1 := eq_selfX T
        have n2 := neq_selfX T
        go_enter Tryd.func37, Tryd.ntmps37
        go_wp2_with fail
        refine (C.out _ HAM.out).mono ?_
        rintro e w2 ⟨rfl, nd, rfl⟩
        go_wp2_with fail
        obtain ⟨wx, hwx⟩ : ∃ wx, ((w.alloc (.cells #[.int .i64 0, .int .i64 0] 47)).drewN nd).alloc (.cells #[.int .i64 1, .int .i64 0] 47) = wx := ⟨_, rfl⟩
        have h0 : wx.heap[w.heap.size]? = some (.cells #[.int .i64 0, .int .i64 0] 47 (0, 0)) := by
          rw [← hwx, Below.heap_alloc _ _ _ (by simp [World.drewN])]
          exact heap_alloc_new w _
        have h1 : wx.heap[w.heap.size + 1]? = some (.cells #[.int .i64 1, .int .i64 0] 47 (0, 0)) := by
          have := heap_alloc_new ((w.alloc (.cells #[.int .i64 0, .int .i64 0] 47)).drewN nd) (.cells #[.int .i64 1, .int .i64 0] 47)
          rw [hwx, show ((w.alloc (.cells #[.int .i64 0, .int .i64 0] 47)).drewN nd).heap.size = w.heap.size + 1 by simp [World.drewN]] at this
          exact this
        have hbx : Below w.heap.size w wx := by rw [← hwx]; exact (belowN ((Below.refl _ _).alloc (Nat.le_refl _) _) nd).alloc (by simp [World.drewN]) _
        rw [hwx]
        refine (DC.out _).mono ?_
        rintro e wy ⟨rfl, hby⟩
        have h0' := (hby.block _ (lt_of_block h0)).trans h0
        have h1' := (hby.block _ (lt_of_block h1)).trans h1
        have d10 : wy.cell? ⟨w.heap.size + 1, 0, none⟩ = some (.int .i64 1) := by rw [cell_of_row wy (w.heap.size + 1) 0 _ _ _ h1']; rfl
        have d11 : wy.cell? ⟨w.heap.size + 1, 1, none⟩ = some (.int .i64 0) := by rw [cell_of_row wy (w.heap.size + 1) 1 _ _ _ h1']; rfl
        have df := frozen_of_row wy (w.heap.size + 1) 1 _ _ h1'
        have hbyy : Below w.heap.size w wy := hbx.trans (hby.mono hbx.size)
        obtain ⟨wz, hwz⟩ : ∃ wz, wy.setCell ⟨w.heap.size + 1, 1, none⟩ (.int .i64 V) = wz := ⟨_, rfl⟩
        have h0'' : wz.heap[w.heap.size]? = some (.cells #[.int .i64 0, .int .i64 0] 47 (0, 0)) := by rw [← hwz, Below.heap_setCell _ _ _ _ (by simp)]; exact h0'
        have h1'' : wz.heap[w.heap.size + 1]? = some (.cells #[.int .i64 1, .int .i64 V] 47 (0, 0)) := by rw [← hwz]; exact heap_setCell_at h1' 1 _
        have z10 : wz.cell? ⟨w.heap.size + 1, 0, none⟩ = some (.int .i64 1) := by rw [cell_of_row wz (w.heap.size + 1) 0 _ _ _ h1'']; rfl
        have z11 : wz.cell? ⟨w.heap.size + 1, 1, none⟩ = some (.int .i64 V) := by rw [cell_of_row wz (w.heap.size + 1) 1 _ _ _ h1'']; rfl
        have hbzz : Below w.heap.size w wz := by rw [← hwz]; exact hbyy.setCell (by simp) _
        have H0 := Lib.hid h0''; have H1 := Lib.hid h1''; have HBZ := Lib.hid hbzz
        clear h0 h1 hbx h0' h1' hby hbyy h0'' h1'' hbzz hwx
        go_wp2_with fail
        clear d10 d11 df z10 z11
        have h0 := H0.out
        have h1 := H1.out
        have hbx := HBZ.out
        clear H0 H1 HBZ
        have hwx := hwz
        refine (TT.out _ (powAt_below HP.out hbx)).mono ?_
        rintro e w3 ⟨rfl, hb3⟩
        have k0 := (hb3.block _ (lt_of_block h0)).trans h0
        have k1 := (hb3.block _ (lt_of_block h1)).trans h1
        have c00 : w3.cell? ⟨w.heap.size, 0, none⟩ = some (.int .i64 0) := by rw [cell_of_row w3 w.heap.size 0 _ _ _ k0]; rfl
        have c01 : w3.cell? ⟨w.heap.size, 1, none⟩ = some (.int .i64 0) := by rw [cell_of_row w3 w.heap.size 1 _ _ _ k0]; rfl
        have f00 := frozen_of_row w3 w.heap.size 0 _ _ k0
        have f01 := frozen_of_row w3 w.heap.size 1 _ _ k0
        have c10 : w3.cell? ⟨w.heap.size + 1, 0, none⟩ = some (.int .i64 1) := by rw [cell_of_row w3 (w.heap.size + 1) 0 _ _ _ k1]; rfl
        have c11 : w3.cell? ⟨w.heap.size + 1, 1, none⟩ = some (.int .i64 V) := by rw [cell_of_row w3 (w.heap.size + 1) 1 _ _ _ k1]; rfl
        have HB3 : Hid (Below w.heap.size w w3) := Lib.hid (hbx.trans (hb3.mono hbx.size))
        clear hb3 k0 k1 h0 h1 hbx hwx TT
        go_wp2_with fail
        refine bodyPost_ret (v := .tuple #[.agg #[.int .i64 1, .int .i64 V], .int .i64 0]) (by simp [results, Tryd.results37, go_sem, c00, c01]) rfl ?_
        exact POSTY.out _ _ _ HYY.out HCC.out ((HB3.out.setCell (Nat.le_refl _) _).setCell (Nat.le_refl _) _)
      · have HYY := Lib.hid hy; clear hy
        go_enter Tryd.func37, Tryd.ntmps37
        go_wp2_with fail
        refine (C.out _ HAM.out).mono ?_
        rintro e w2 ⟨rfl, nd, rfl⟩
        go_wp2_with fail
        obtain ⟨wx, hwx⟩ : ∃ wx, ((w.alloc (.cells #[.int .i64 0, .int .i64 0] 47)).drewN nd).alloc (.cells #[.int .i64 1, .int .i64 0] 47) = wx := ⟨_, rfl⟩
        have h0 : wx.heap[w.heap.size]? = some (.cells #[.int .i64 0, .int .i64 0] 47 (0, 0)) := by
          rw [← hwx, Below.heap_alloc _ _ _ (by simp [World.drewN])]
          exact heap_alloc_new w _
        have h1 : wx.heap[w.heap.size + 1]? = some (.cells #[.int .i64 1, .int .i64 0] 47 (0, 0)) := by
          have := heap_alloc_new ((w.alloc (.cells #[.int .i64 0, .int .i64 0] 47)).drewN nd) (.cells #[.int .i64 1, .int .i64 0] 47)
          rw [hwx, show ((w.alloc (.cells #[.int .i64 0, .int .i64 0] 47)).drewN nd).heap.size = w.heap.size + 1 by simp [World.drewN]] at this
          exact this
        have hbx : Below w.heap.size w wx := by rw [← hwx]; exact (belowN ((Below.refl _ _).alloc (Nat.le_refl _) _) nd).alloc (by simp [World.drewN]) _
        rw [hwx]
        refine (DC.out _).mono ?_
        rintro e wy ⟨rfl, hby⟩
        have h0' := (hby.block _ (lt_of_block h0)).trans h0
        have h1' := (hby.block _ (lt_of_block h1)).trans h1
        have d10 : wy.cell? ⟨w.heap.size + 1, 0, none⟩ = some (.int .i64 1) := by rw [cell_of_row wy (w.heap.size + 1) 0 _ _ _ h1']; rfl
        have d11 : wy.cell? ⟨w.heap.size + 1, 1, none⟩ = some (.int .i64 0) := by rw [cell_of_row wy (w.heap.size + 1) 1 _ _ _ h1']; rfl
        have df := frozen_of_row wy (w.heap.size + 1) 1 _ _ h1'
        have hbyy : Below w.heap.size w wy := hbx.trans (hby.mono hbx.size)
        obtain ⟨wz, hwz⟩ : ∃ wz, wy.setCell ⟨w.heap.size + 1, 1, none⟩ (.int .i64 V) = wz := ⟨_, rfl⟩
        have h0'' : wz.heap[w.heap.size]? = some (.cells #[.int .i64 0, .int .i64 0] 47 (0, 0)) := by rw [← hwz, Below.heap_setCell _ _ _ _ (by simp)]; exact h0'
        have h1'' : wz.heap[w.heap.size + 1]? = some (.cells #[.int .i64 1, .int .i64 V] 47 (0, 0)) := by rw [← hwz]; exact heap_setCell_at h1' 1 _
        have z10 : wz.cell? ⟨w.heap.size + 1, 0, none⟩ = some (.int .i64 1) := by rw [cell_of_row wz (w.heap.size + 1) 0 _ _ _ h1'']; rfl
        have z11 : wz.cell? ⟨w.heap.size + 1, 1, none⟩ = some (.int .i64 V) := by rw [cell_of_row wz (w.heap.size + 1) 1 _ _ _ h1'']; rfl
        have hbzz : Below w.heap.size w wz := by rw [← hwz]; exact hbyy.setCell (by simp) _
        have H0 := Lib.hid h0''; have H1 := Lib.hid h1''; have HBZ := Lib.hid hbzz
        clear h0 h1 hbx h0' h1' hby hbyy h0'' h1'' hbzz hwx
        go_wp2_with fail
        clear d10 d11 df z10 z11
        have h0 := H0.out
        have h1 := H1.out
        have hbx := HBZ.out
        clear H0 H1 HBZ
        have hwx := hwz
        refine (TT.out _ (powAt_below HP.out hbx)).mono ?_
        rintro e w3 ⟨rfl, hb3⟩
        have k0 := (hb3.block _ (lt_of_block h0)).trans h0
        have k1 := (hb3.block _ (lt_of_block h1)).trans h1
        have c00 : w3.cell? ⟨w.heap.size, 0, none⟩ = some (.int .i64 0) := by rw [cell_of_row w3 w.heap.size 0 _ _ _ k0]; rfl
        have c01 : w3.cell? ⟨w.heap.size, 1, none⟩ = some (.int .i64 0) := by rw [cell_of_row w3 w.heap.size 1 _ _ _ k0]; rfl
        have f00 := frozen_of_row w3 w.heap.size 0 _ _ k0
        have f01 := frozen_of_row w3 w.heap.size 1 _ _ k0
        have c10 : w3.cell? ⟨w.heap.size + 1, 0, none⟩ = some (.int .i64 1) := by rw [cell_of_row w3 (w.heap.size + 1) 0 _ _ _ k1]; rfl
        have c11 : w3.cell? ⟨w.heap.size + 1, 1, none⟩ = some (.int .i64 V) := by rw [cell_of_row w3 (w.heap.size + 1) 1 _ _ _ k1]; rfl
        have HB3 : Hid (Below w.heap.size w w3) := Lib.hid (hbx.trans (hb3.mono hbx.size))
        clear hb3 k0 k1 h0 h1 hbx hwx TT
        go_wp2_with fail
        refine bodyPost_ret (v := .tuple #[.agg #[.int .i64 0, .int .i64 0], .int .i64 2]) (by simp [results, Tryd.results37, go_sem, c00, c01]) rfl ?_
        exact POSTN.out _ HYY.out ((HB3.out.setCell (Nat.le_refl _) _).setCell (Nat.le_refl _) _)
      · have HYY := Lib.hid hy; clear hy
        have n2 : (T.toList != s.toList) = true := by rw [bne, hne]; rfl
        go_enter Tryd.func37, Tryd.ntmps37
        go_wp2_with fail
        refine (C.out _ HAM.out).mono ?_
        rintro e w2 ⟨rfl, nd, rfl⟩
        go_wp2_with fail
        obtain ⟨wx, hwx⟩ : ∃ wx, ((w.alloc (.cells #[.int .i64 0, .int .i64 0] 47)).drewN nd).alloc (.cells #[.int .i64 1, .int .i64 0] 47) = wx := ⟨_, rfl⟩
        have h0 : wx.heap[w.heap.size]? = some (.cells #[.int .i64 0, .int .i64 0] 47 (0, 0)) := by
          rw [← hwx, Below.heap_alloc _ _ _ (by simp [World.drewN])]
          exact heap_alloc_new w _
        have h1 : wx.heap[w.heap.size + 1]? = some (.cells #[.int .i64 1, .int .i64 0] 47 (0, 0)) := by
          have := heap_alloc_new ((w.alloc (.cells #[.int .i64 0, .int .i64 0] 47)).drewN nd) (.cells #[.int .i64 1, .int .i64 0] 47)
          rw [hwx, show ((w.alloc (.cells #[.int .i64 0, .int .i64 0] 47)).drewN nd).heap.size = w.heap.size + 1 by simp [World.drewN]] at this
          exact this
        have hbx : Below w.heap.size w wx := by rw [← hwx]; exact (belowN ((Below.refl _ _).alloc (Nat.le_refl _) _) nd).alloc (by simp [World.drewN]) _
        rw [hwx]
        refine (DC.out _).mono ?_
        rintro e wy ⟨rfl, hby⟩
        have h0' := (hby.block _ (lt_of_block h0)).trans h0
        have h1' := (hby.block _ (lt_of_block h1)).trans h1
        have d10 : wy.cell? ⟨w.heap.size + 1, 0, none⟩ = some (.int .i64 1) := by rw [cell_of_row wy (w.heap.size + 1) 0 _ _ _ h1']; rfl
        have d11 : wy.cell? ⟨w.heap.size + 1, 1, none⟩ = some (.int .i64 0) := by rw [cell_of_row wy (w.heap.size + 1) 1 _ _ _ h1']; rfl
        have df := frozen_of_row wy (w.heap.size + 1) 1 _ _ h1'
        have hbyy : Below w.heap.size w wy := hbx.trans (hby.mono hbx.size)
        obtain ⟨wz, hwz⟩ : ∃ wz, wy.setCell ⟨w.heap.size + 1, 1, none⟩ (.int .i64 V) = wz := ⟨_, rfl⟩
        have h0'' : wz.heap[w.heap.size]? = some (.cells #[.int .i64 0, .int .i64 0] 47 (0, 0)) := by rw [← hwz, Below.heap_setCell _ _ _ _ (by simp)]; exact h0'
        have h1'' : wz.heap[w.heap.size + 1]? = some (.cells #[.int .i64 1, .int .i64 V] 47 (0, 0)) := by rw [← hwz]; exact heap_setCell_at h1' 1 _
        have z10 : wz.cell? ⟨w.heap.size + 1, 0, none⟩ = some (.int .i64 1) := by rw [cell_of_row wz (w.heap.size + 1) 0 _ _ _ h1'']; rfl
        have z11 : wz.cell? ⟨w.heap.size + 1, 1, none⟩ = some (.int .i64 V) := by rw [cell_of_row wz (w.heap.size + 1) 1 _ _ _ h1'']; rfl
        have hbzz : Below w.heap.size w wz := by rw [← hwz]; exact hbyy.setCell (by simp) _
        have H0 := Lib.hid h0''; have H1 := Lib.hid h1''; have HBZ := Lib.hid hbzz
        clear h0 h1 hbx h0' h1' hby hbyy h0'' h1'' hbzz hwx
        go_wp2_with fail
        clear d10 d11 df z10 z11
        have h0 := H0.out
        have h1 := H1.out
        have hbx := HBZ.out
        clear H0 H1 HBZ
        have hwx := hwz
        refine (TT.out _ (powAt_below HP.out hbx)).mono ?_
        rintro e w3 ⟨rfl, hb3⟩
        have k0 := (hb3.block _ (lt_of_block h0)).trans h0
        have k1 := (hb3.block _ (lt_of_block h1)).trans h1
        have c00 : w3.cell? ⟨w.heap.size, 0, none⟩ = some (.int .i64 0) := by rw [cell_of_row w3 w.heap.size 0 _ _ _ k0]; rfl
        have c01 : w3.cell? ⟨w.heap.size, 1, none⟩ = some (.int .i64 0) := by rw [cell_of_row w3 w.heap.size 1 _ _ _ k0]; rfl
        have f00 := frozen_of_row w3 w.heap.size 0 _ _ k0
        have f01 := frozen_of_row w3 w.heap.size 1 _ _ k0
        have c10 : w3.cell? ⟨w.heap.size + 1, 0, none⟩ = some (.int .i64 1) := by rw [cell_of_row w3 (w.heap.size + 1) 0 _ _ _ k1]; rfl
        have c11 : w3.cell? ⟨w.heap.size + 1, 1, none⟩ = some (.int .i64 V) := by rw [cell_of_row w3 (w.heap.size + 1) 1 _ _ _ k1]; rfl
        have HB3 : Hid (Below w.heap.size w w3) := Lib.hid (hbx.trans (hb3.mono hbx.size))
        clear hb3 k0 k1 h0 h1 hbx hwx TT
        go_wp2_with fail
        refine bodyPost_ret (v := .tuple #[.agg #[.int .i64 0, .int .i64 0], .int .i64 2]) (by simp [results, Tryd.results37, go_sem, c00, c01]) rfl ?_
        exact POSTN.out _ HYY.out ((HB3.out.setCell (Nat.le_refl _) _).setCell (Nat.le_refl _) _)

end Go.Proofs.YthhpijmkhhdhhaaDoor
