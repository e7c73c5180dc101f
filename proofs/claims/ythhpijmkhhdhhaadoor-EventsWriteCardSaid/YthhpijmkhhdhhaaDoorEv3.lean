/- The reference's Parse of layer 45. -/
import Derived.Test.YthhpijmkhhdhhaaDoorEv2
import Derived.Test.YthhpijmkhhdhhaaDoorDotsW
import Derived.Test.YthhpijmkhhdhhaaDoorLaw3
import Derived.Deep.RegionHeld3
namespace Go.Proofs.YthhpijmkhhdhhaaDoor
open Go.RowKit
set_option linter.unusedVariables false
set_option linter.unusedSimpArgs false

theorem refPost_yes {w w' : World} {l : List UInt8} {k n : Int} (h : evRef l = some (k, n)) (hb : Below w.heap.size w w') : EvParsePost w l (.returned (.tuple #[.agg #[.int .i64 k, .int .i64 n], .int .i64 0])) w' := by
  rcases evYes_ref l with ⟨h1, h2⟩ | ⟨_, h2⟩
  · rw [h] at h2
    exact evPost_yes h1 (Option.some.inj h2).symm hb
  · rw [h] at h2; cases h2
theorem refPost_no {w w' : World} {l : List UInt8} (h : evRef l = none) (hb : Below w.heap.size w w') : EvParsePost w l (.returned (.tuple #[.agg #[.int .i64 0, .int .i64 0], .int .i64 2])) w' := by
  rcases evYes_ref l with ⟨_, h2⟩ | ⟨h1, _⟩
  · rw [h] at h2; cases h2
  · exact evPost_no h1 hb

theorem evRef_len {l : List UInt8} (h : (partsL 32 l).length ≠ 2) : evRef l = none := by
  unfold evRef
  split
  · rename_i a b hp; rw [hp] at h; simp at h
  · rfl
theorem evRef_two {l a b : List UInt8} (h : partsL 32 l = [a, b]) : evRef l = if a == clientS || a == upS then
      (if b == endS then some ((if a == upS then 3 else 1) + 1, 0)
       else if readE bDigit 10 1048576 b == 0 && digL 10 (readV bDigit 10 1048576 b).toNat == b then some (if a == upS then 3 else 1, readV bDigit 10 1048576 b) else none) else none := by
  unfold evRef; rw [h]

set_option maxRecDepth 100000 in
set_option maxHeartbeats 4000000 in
theorem rEvParse_any (s : ByteArray) (w : World) (hs : s.size ≤ 100000) :
    Calls Tryd.prog 38 #[.string s] w (EvParsePost w s.data.toList) := by
  have PA := Lib.hid (fun w => rParts_any s 32 32 w hs rfl)
  have PY := Lib.hid (fun w' k n h hb => refPost_yes (w := w) (w' := w') (l := s.data.toList) (k := k) (n := n) h hb)
  have PN := Lib.hid (fun w' h hb => refPost_no (w := w) (w' := w') (l := s.data.toList) h hb)
  obtain ⟨ps, hps⟩ : ∃ ps, partsL 32 s.data.toList = ps := ⟨_, rfl⟩
  have hlen := partsL_len (c := 32) s.data.toList
  have hsize := partsL_size (c := 32) s.data.toList
  rw [hps] at PA hlen hsize
  rw [← Lib.size_eq] at hlen hsize
  have HSZ := Lib.hid hsize; clear hsize
  go_enter Tryd.func38, Tryd.ntmps38
  go_wp2_with fail
  obtain ⟨w0, hw0⟩ : ∃ w0, w.alloc (.cells #[.int .i64 0, .int .i64 0] 47) = w0 := ⟨_, rfl⟩
  have h0 : w0.heap[w.heap.size]? = some (.cells #[.int .i64 0, .int .i64 0] 47 (0, 0)) := by rw [← hw0]; exact heap_alloc_new w _
  have hb0 : Below w.heap.size w w0 := by rw [← hw0]; exact (Below.refl _ _).alloc (Nat.le_refl _) _
  rw [hw0]
  refine (PA.out _).mono ?_
  rintro e w1 ⟨v, rfl, hb1, ho1⟩
  have k0 := (hb1.block _ (lt_of_block h0)).trans h0
  have HB1 : Hid (Below w.heap.size w w1) := Lib.hid (hb0.trans (hb1.mono hb0.size))
  have HO1 := Lib.hid ho1; clear ho1 hb1 h0 hb0 hw0
  obtain ⟨a1, c1, rfl, hac, hap⟩ := ownS_form HO1.out
  have z00 : w1.cell? ⟨w.heap.size, 0, none⟩ = some (.int .i64 0) := by rw [cell_of_row w1 w.heap.size 0 _ _ _ k0]; rfl
  have z01 : w1.cell? ⟨w.heap.size, 1, none⟩ = some (.int .i64 0) := by rw [cell_of_row w1 w.heap.size 1 _ _ _ k0]; rfl
  have f00 := frozen_of_row w1 w.heap.size 0 _ _ k0
  have f01 := frozen_of_row w1 w.heap.size 1 _ _ k0
  have HK0 := Lib.hid k0; clear k0
  have hlt0 : w.heap.size < w1.heap.size := lt_of_block HK0.out
  by_cases hl2 : ps.length = 2
  · obtain ⟨pa, pb, rfl⟩ : ∃ pa pb, ps = [pa, pb] := by
      match ps, hl2 with
      | [pa, pb], _ => exact ⟨pa, pb, rfl⟩
    have HREF := Lib.hid (evRef_two hps)
    obtain ⟨g, rfl, hgl, _⟩ := hap (by simp)
    have q0 := ownS_at HO1.out 0 (by simp)
    have q1 := ownS_at HO1.out 1 (by simp)
    obtain ⟨A, hA⟩ : ∃ A : ByteArray, ⟨pa.toArray⟩ = A := ⟨_, rfl⟩
    obtain ⟨B, hB⟩ : ∃ B : ByteArray, ⟨pb.toArray⟩ = B := ⟨_, rfl⟩
    have r0 : w1.cell? ⟨g, 0, none⟩ = some (.string A) := by rw [q0, ← hA]; rfl
    have r1 : w1.cell? ⟨g, 1, none⟩ = some (.string B) := by rw [q1, ← hB]; rfl
    have hal : A.toList = pa := by rw [← hA, Lib.toList_data]
    have hbl : B.toList = pb := by rw [← hB, Lib.toList_data]
    have hBs : B.size ≤ 100000 := by
      have := HSZ.out pb (by simp)
      rw [Lib.size_eq, ← Lib.toList_data, hbl]; omega
    clear q0 q1 hA hB hps hlen hap hl2
    cases hcl : (pa == clientS) with
    | true =>
      have hpa : pa = clientS := by simpa using hcl
      have g0 : (A.toList == [99, 108, 105, 101, 110, 116]) = true := by rw [hal]; exact hcl
      have g1 : (A.toList == [117, 112, 115, 116, 114, 101, 97, 109]) = false := by rw [hal, hpa]; rfl
      clear hcl
      cases he : (pb == endS) with
      | true =>
        have g2 : (B.toList == [101, 110, 100]) = true := by rw [hbl]; exact he
        have HR : Hid (evRef s.data.toList = some (2, 0)) := Lib.hid (by rw [HREF.out, he, hpa]; rfl)
        have HX := Lib.hid (And.intro hal (And.intro hbl (And.intro hpa he))); clear hal hbl hpa he
        go_wp2_with fail
        refine bodyPost_ret (v := .tuple #[.agg #[.int .i64 2, .int .i64 0], .int .i64 0]) (by simp [results, Tryd.results38, go_sem, z00, z01]) rfl ?_
        exact PY.out _ _ _ HR.out ((HB1.out.setCell (Nat.le_refl _) _).setCell (Nat.le_refl _) _)
      | false =>
        have g2 : (B.toList == [101, 110, 100]) = false := by rw [hbl]; exact he
        have RD := Lib.hid (fun w => rRead10 B 1048576 w (by omega) (by decide) (by decide))
        have hrv := readV_range bDigit 10 1048576 B.data.toList (by omega) digit_hex (by omega)
        obtain ⟨V, hV⟩ : ∃ V, readV bDigit 10 1048576 B.data.toList = V := ⟨_, rfl⟩
        obtain ⟨E, hE⟩ : ∃ E, readE bDigit 10 1048576 B.data.toList = E := ⟨_, rfl⟩
        rw [hV, hE] at RD
        rw [hV] at hrv
        have HRE : Hid (evRef s.data.toList = if E == 0 && digL 10 V.toNat == B.data.toList then some (1, V) else none) := Lib.hid (by
          have h2 : B.data.toList = pb := by rw [← Lib.toList_data]; exact hbl
          rw [HREF.out, ← h2, show (B.data.toList == endS) = false by rw [h2]; exact he, hpa, hV, hE]; rfl)
        have HX := Lib.hid (And.intro hal (And.intro hbl (And.intro hpa (And.intro he (And.intro hV hE))))); clear hal hbl hpa he hV hE
        have TX := Lib.hid (fun w => rText10 V w (by omega))
        have hTl := textB_len10 V (by omega)
        have hTV : textB 10 V = digL 10 V.toNat := by unfold textB; rw [if_neg (by omega)]
        obtain ⟨T, hT⟩ : ∃ T : ByteArray, ⟨(textB 10 V).toArray⟩ = T := ⟨_, rfl⟩
        have hTL : T.toList = digL 10 V.toNat := by rw [← hT, Lib.toList_data, ← hTV]
        rw [hT] at TX
        have HTL := Lib.hid hTL; clear hTL hTV hT hTl
        by_cases hE0 : E = 0
        · subst hE0
          go_wp2_with fail
          refine (RD.out _).mono ?_
          rintro e w2 ⟨rfl, hb2⟩
          have k0 := (hb2.block _ hlt0).trans HK0.out
          have y1 : w2.cell? ⟨g, 1, none⟩ = some (.string B) := (hb2.cell (p := ⟨g, 1, none⟩) hgl).trans r1
          have HB2 : Hid (Below w.heap.size w w2) := Lib.hid (bseq HB1.out hb2)
          have hg2 : g < w2.heap.size := Nat.lt_of_lt_of_le hgl hb2.size
          have hlt2 : w.heap.size < w2.heap.size := lt_of_block k0
          have HK2 := Lib.hid k0; clear k0 hb2
          clear z00 z01 f00 f01 r0 r1
          cases htb : (T.toList == B.toList) with
          | true =>
            have n1 : (T.toList != B.toList) = false := by rw [bne, htb]; rfl
            have HR : Hid (evRef s.data.toList = some (1, V)) := Lib.hid (by
              rw [HRE.out, ← HTL.out, ← Lib.toList_data B, htb]; rfl)
            go_wp2_with fail
            go_region_held3 (fun w' => w'.cell? ⟨g, 1, none⟩ = some (.string B)) (first | go_keep | exact (hb3.cell (p := ⟨g, 1, none⟩) (by exact hg2)).trans (by go_keep)) ((go_at_call 22; refine (TX.out _).mono ?_; rintro e w3 ⟨rfl, hb3⟩))
            have hb3' := below_of_drewX hb3
            have k0 := (hb3'.block _ hlt2).trans HK2.out
            have y00 : w3.cell? ⟨w.heap.size, 0, none⟩ = some (.int .i64 0) := by rw [cell_of_row w3 w.heap.size 0 _ _ _ k0]; rfl
            have y01 : w3.cell? ⟨w.heap.size, 1, none⟩ = some (.int .i64 0) := by rw [cell_of_row w3 w.heap.size 1 _ _ _ k0]; rfl
            have yf0 := frozen_of_row w3 w.heap.size 0 _ _ k0
            have yf1 := frozen_of_row w3 w.heap.size 1 _ _ k0
            have HB3 : Hid (Below w.heap.size w w3) := Lib.hid (bseq HB2.out hb3')
            clear k0 hb3 hb3'
            go_wp2_with fail
            refine bodyPost_ret (v := .tuple #[.agg #[.int .i64 1, .int .i64 V], .int .i64 0]) (by simp [results, Tryd.results38, go_sem, y00, y01]) rfl ?_
            exact PY.out _ _ _ HR.out ((HB3.out.setCell (Nat.le_refl _) _).setCell (Nat.le_refl _) _)
          | false =>
            have n1 : (T.toList != B.toList) = true := by rw [bne, htb]; rfl
            have HR : Hid (evRef s.data.toList = none) := Lib.hid (by
              rw [HRE.out, ← HTL.out, ← Lib.toList_data B, htb]; rfl)
            go_wp2_with fail
            go_region_held3 (fun w' => w'.cell? ⟨g, 1, none⟩ = some (.string B)) (first | go_keep | exact (hb3.cell (p := ⟨g, 1, none⟩) (by exact hg2)).trans (by go_keep)) ((go_at_call 22; refine (TX.out _).mono ?_; rintro e w3 ⟨rfl, hb3⟩))
            have hb3' := below_of_drewX hb3
            have k0 := (hb3'.block _ hlt2).trans HK2.out
            have y00 : w3.cell? ⟨w.heap.size, 0, none⟩ = some (.int .i64 0) := by rw [cell_of_row w3 w.heap.size 0 _ _ _ k0]; rfl
            have y01 : w3.cell? ⟨w.heap.size, 1, none⟩ = some (.int .i64 0) := by rw [cell_of_row w3 w.heap.size 1 _ _ _ k0]; rfl
            have yf0 := frozen_of_row w3 w.heap.size 0 _ _ k0
            have yf1 := frozen_of_row w3 w.heap.size 1 _ _ k0
            have HB3 : Hid (Below w.heap.size w w3) := Lib.hid (bseq HB2.out hb3')
            clear k0 hb3 hb3'
            go_wp2_with fail
            refine bodyPost_ret (v := .tuple #[.agg #[.int .i64 0, .int .i64 0], .int .i64 2]) (by simp [results, Tryd.results38, go_sem, y00, y01]) rfl ?_
            exact PN.out _ HR.out ((HB3.out.setCell (Nat.le_refl _) _).setCell (Nat.le_refl _) _)
        · have e1 : (E == 0) = false := by rw [beq_eq_false_iff_ne]; exact hE0
          have e2 : (E != 0) = true := by rw [bne, e1]; rfl
          have HR : Hid (evRef s.data.toList = none) := Lib.hid (by rw [HRE.out, e1]; rfl)
          clear hE0
          go_wp2_with fail
          refine (RD.out _).mono ?_
          rintro e w2 ⟨rfl, hb2⟩
          have k0 := (hb2.block _ hlt0).trans HK0.out
          have y00 : w2.cell? ⟨w.heap.size, 0, none⟩ = some (.int .i64 0) := by rw [cell_of_row w2 w.heap.size 0 _ _ _ k0]; rfl
          have y01 : w2.cell? ⟨w.heap.size, 1, none⟩ = some (.int .i64 0) := by rw [cell_of_row w2 w.heap.size 1 _ _ _ k0]; rfl
          have yf0 := frozen_of_row w2 w.heap.size 0 _ _ k0
          have yf1 := frozen_of_row w2 w.heap.size 1 _ _ k0
          have HB2 : Hid (Below w.heap.size w w2) := Lib.hid (bseq HB1.out hb2)
          clear k0 hb2
          clear z00 z01 f00 f01 r0 r1
          go_wp2_with fail
          go_quiet (fail)
          go_wp2
          refine bodyPost_ret (v := .tuple #[.agg #[.int .i64 0, .int .i64 0], .int .i64 2]) (by simp [results, Tryd.results38, go_sem, y00, y01]) rfl ?_
          exact PN.out _ HR.out (((belowN HB2.out _).setCell (Nat.le_refl _) _).setCell (Nat.le_refl _) _)
    | false =>
      have g0 : (A.toList == [99, 108, 105, 101, 110, 116]) = false := by rw [hal]; exact hcl
      cases hul : (pa == upS) with
      | true =>
        have hpa : pa = upS := by simpa using hul
        have g1 : (A.toList == [117, 112, 115, 116, 114, 101, 97, 109]) = true := by rw [hal]; exact hul
        clear hcl hul
        cases he : (pb == endS) with
        | true =>
          have g2 : (B.toList == [101, 110, 100]) = true := by rw [hbl]; exact he
          have HR : Hid (evRef s.data.toList = some (4, 0)) := Lib.hid (by rw [HREF.out, he, hpa]; rfl)
          have HX := Lib.hid (And.intro hal (And.intro hbl (And.intro hpa he))); clear hal hbl hpa he
          go_wp2_with fail
          refine bodyPost_ret (v := .tuple #[.agg #[.int .i64 4, .int .i64 0], .int .i64 0]) (by simp [results, Tryd.results38, go_sem, z00, z01]) rfl ?_
          exact PY.out _ _ _ HR.out ((HB1.out.setCell (Nat.le_refl _) _).setCell (Nat.le_refl _) _)
        | false =>
          have g2 : (B.toList == [101, 110, 100]) = false := by rw [hbl]; exact he
          have RD := Lib.hid (fun w => rRead10 B 1048576 w (by omega) (by decide) (by decide))
          have hrv := readV_range bDigit 10 1048576 B.data.toList (by omega) digit_hex (by omega)
          obtain ⟨V, hV⟩ : ∃ V, readV bDigit 10 1048576 B.data.toList = V := ⟨_, rfl⟩
          obtain ⟨E, hE⟩ : ∃ E, readE bDigit 10 1048576 B.data.toList = E := ⟨_, rfl⟩
          rw [hV, hE] at RD
          rw [hV] at hrv
          have HRE : Hid (evRef s.data.toList = if E == 0 && digL 10 V.toNat == B.data.toList then some (3, V) else none) := Lib.hid (by
            have h2 : B.data.toList = pb := by rw [← Lib.toList_data]; exact hbl
            rw [HREF.out, ← h2, show (B.data.toList == endS) = false by rw [h2]; exact he, hpa, hV, hE]; rfl)
          have HX := Lib.hid (And.intro hal (And.intro hbl (And.intro hpa (And.intro he (And.intro hV hE))))); clear hal hbl hpa he hV hE
          have TX := Lib.hid (fun w => rText10 V w (by omega))
          have hTl := textB_len10 V (by omega)
          have hTV : textB 10 V = digL 10 V.toNat := by unfold textB; rw [if_neg (by omega)]
          obtain ⟨T, hT⟩ : ∃ T : ByteArray, ⟨(textB 10 V).toArray⟩ = T := ⟨_, rfl⟩
          have hTL : T.toList = digL 10 V.toNat := by rw [← hT, Lib.toList_data, ← hTV]
          rw [hT] at TX
          have HTL := Lib.hid hTL; clear hTL hTV hT hTl
          by_cases hE0 : E = 0
          · subst hE0
            go_wp2_with fail
            refine (RD.out _).mono ?_
            rintro e w2 ⟨rfl, hb2⟩
            have k0 := (hb2.block _ hlt0).trans HK0.out
            have y1 : w2.cell? ⟨g, 1, none⟩ = some (.string B) := (hb2.cell (p := ⟨g, 1, none⟩) hgl).trans r1
            have HB2 : Hid (Below w.heap.size w w2) := Lib.hid (bseq HB1.out hb2)
            have hg2 : g < w2.heap.size := Nat.lt_of_lt_of_le hgl hb2.size
            have hlt2 : w.heap.size < w2.heap.size := lt_of_block k0
            have HK2 := Lib.hid k0; clear k0 hb2
            clear z00 z01 f00 f01 r0 r1
            cases htb : (T.toList == B.toList) with
            | true =>
              have n1 : (T.toList != B.toList) = false := by rw [bne, htb]; rfl
              have HR : Hid (evRef s.data.toList = some (3, V)) := Lib.hid (by
                rw [HRE.out, ← HTL.out, ← Lib.toList_data B, htb]; rfl)
              go_wp2_with fail
              go_region_held3 (fun w' => w'.cell? ⟨g, 1, none⟩ = some (.string B)) (first | go_keep | exact (hb3.cell (p := ⟨g, 1, none⟩) (by exact hg2)).trans (by go_keep)) ((go_at_call 22; refine (TX.out _).mono ?_; rintro e w3 ⟨rfl, hb3⟩))
              have hb3' := below_of_drewX hb3
              have k0 := (hb3'.block _ hlt2).trans HK2.out
              have y00 : w3.cell? ⟨w.heap.size, 0, none⟩ = some (.int .i64 0) := by rw [cell_of_row w3 w.heap.size 0 _ _ _ k0]; rfl
              have y01 : w3.cell? ⟨w.heap.size, 1, none⟩ = some (.int .i64 0) := by rw [cell_of_row w3 w.heap.size 1 _ _ _ k0]; rfl
              have yf0 := frozen_of_row w3 w.heap.size 0 _ _ k0
              have yf1 := frozen_of_row w3 w.heap.size 1 _ _ k0
              have HB3 : Hid (Below w.heap.size w w3) := Lib.hid (bseq HB2.out hb3')
              clear k0 hb3 hb3'
              go_wp2_with fail
              refine bodyPost_ret (v := .tuple #[.agg #[.int .i64 3, .int .i64 V], .int .i64 0]) (by simp [results, Tryd.results38, go_sem, y00, y01]) rfl ?_
              exact PY.out _ _ _ HR.out ((HB3.out.setCell (Nat.le_refl _) _).setCell (Nat.le_refl _) _)
            | false =>
              have n1 : (T.toList != B.toList) = true := by rw [bne, htb]; rfl
              have HR : Hid (evRef s.data.toList = none) := Lib.hid (by
                rw [HRE.out, ← HTL.out, ← Lib.toList_data B, htb]; rfl)
              go_wp2_with fail
              go_region_held3 (fun w' => w'.cell? ⟨g, 1, none⟩ = some (.string B)) (first | go_keep | exact (hb3.cell (p := ⟨g, 1, none⟩) (by exact hg2)).trans (by go_keep)) ((go_at_call 22; refine (TX.out _).mono ?_; rintro e w3 ⟨rfl, hb3⟩))
              have hb3' := below_of_drewX hb3
              have k0 := (hb3'.block _ hlt2).trans HK2.out
              have y00 : w3.cell? ⟨w.heap.size, 0, none⟩ = some (.int .i64 0) := by rw [cell_of_row w3 w.heap.size 0 _ _ _ k0]; rfl
              have y01 : w3.cell? ⟨w.heap.size, 1, none⟩ = some (.int .i64 0) := by rw [cell_of_row w3 w.heap.size 1 _ _ _ k0]; rfl
              have yf0 := frozen_of_row w3 w.heap.size 0 _ _ k0
              have yf1 := frozen_of_row w3 w.heap.size 1 _ _ k0
              have HB3 : Hid (Below w.heap.size w w3) := Lib.hid (bseq HB2.out hb3')
              clear k0 hb3 hb3'
              go_wp2_with fail
              refine bodyPost_ret (v := .tuple #[.agg #[.int .i64 0, .int .i64 0], .int .i64 2]) (by simp [results, Tryd.results38, go_sem, y00, y01]) rfl ?_
              exact PN.out _ HR.out ((HB3.out.setCell (Nat.le_refl _) _).setCell (Nat.le_refl _) _)
          · have e1 : (E == 0) = false := by rw [beq_eq_false_iff_ne]; exact hE0
            have e2 : (E != 0) = true := by rw [bne, e1]; rfl
            have HR : Hid (evRef s.data.toList = none) := Lib.hid (by rw [HRE.out, e1]; rfl)
            clear hE0
            go_wp2_with fail
            refine (RD.out _).mono ?_
            rintro e w2 ⟨rfl, hb2⟩
            have k0 := (hb2.block _ hlt0).trans HK0.out
            have y00 : w2.cell? ⟨w.heap.size, 0, none⟩ = some (.int .i64 0) := by rw [cell_of_row w2 w.heap.size 0 _ _ _ k0]; rfl
            have y01 : w2.cell? ⟨w.heap.size, 1, none⟩ = some (.int .i64 0) := by rw [cell_of_row w2 w.heap.size 1 _ _ _ k0]; rfl
            have yf0 := frozen_of_row w2 w.heap.size 0 _ _ k0
            have yf1 := frozen_of_row w2 w.heap.size 1 _ _ k0
            have HB2 : Hid (Below w.heap.size w w2) := Lib.hid (bseq HB1.out hb2)
            clear k0 hb2
            clear z00 z01 f00 f01 r0 r1
            go_wp2_with fail
            go_quiet (fail)
            go_wp2
            refine bodyPost_ret (v := .tuple #[.agg #[.int .i64 0, .int .i64 0], .int .i64 2]) (by simp [results, Tryd.results38, go_sem, y00, y01]) rfl ?_
            exact PN.out _ HR.out (((belowN HB2.out _).setCell (Nat.le_refl _) _).setCell (Nat.le_refl _) _)
      | false =>
        have g1 : (A.toList == [117, 112, 115, 116, 114, 101, 97, 109]) = false := by rw [hal]; exact hul
        have HR : Hid (evRef s.data.toList = none) := Lib.hid (by rw [HREF.out, hcl, hul]; rfl)
        have HX := Lib.hid (And.intro hal (And.intro hbl (And.intro hcl hul))); clear hal hbl hcl hul
        go_wp2_with fail
        refine bodyPost_ret (v := .tuple #[.agg #[.int .i64 0, .int .i64 0], .int .i64 2]) (by simp [results, Tryd.results38, go_sem, z00, z01]) rfl ?_
        exact PN.out _ HR.out ((HB1.out.setCell (Nat.le_refl _) _).setCell (Nat.le_refl _) _)
  · have g0 : ((ps.length : Int) == 2) = false := by rw [beq_eq_false_iff_ne]; omega
    have g1 : ((ps.length : Int) != 2) = true := by rw [bne, g0]; rfl
    have HR : Hid (evRef s.data.toList = none) := Lib.hid (evRef_len (by rw [hps]; exact hl2))
    have HX := Lib.hid (And.intro hl2 hps); clear hl2 hps
    go_wp2_with fail
    refine bodyPost_ret (v := .tuple #[.agg #[.int .i64 0, .int .i64 0], .int .i64 2]) (by simp [results, Tryd.results38, go_sem, z00, z01]) rfl ?_
    exact PN.out _ HR.out ((HB1.out.setCell (Nat.le_refl _) _).setCell (Nat.le_refl _) _)

end Go.Proofs.YthhpijmkhhdhhaaDoor
