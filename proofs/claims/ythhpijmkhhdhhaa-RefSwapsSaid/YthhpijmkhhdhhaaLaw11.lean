/- RefSwaps. -/
import Derived.Test.YthhpijmkhhdhhaaRefE
import Derived.Test.YthhpijmkhhdhhaaAppend
namespace Go.Proofs.Ythhpijmkhhdhhaa
open Go.RowKit
set_option linter.unusedVariables false
set_option linter.unusedSimpArgs false

def few11 (ps : PL) : PL := (ps.take 8).map fun p => (p.1.take 150, p.2.take 150)
theorem few11_ok (s : ByteArray) (hs : s.size ≤ 1000) (ps : PL) : SwapOk s (few11 ps) := by
  unfold few11
  refine ⟨hs, by simp; omega, fun p hp => ?_⟩
  obtain ⟨q, _, rfl⟩ := List.mem_map.1 hp
  simp; omega

set_option maxRecDepth 100000 in
set_option maxHeartbeats 4000000 in
theorem refSwaps_walk (s : ByteArray) (a : Option Addr) (len cap : Nat) (ps : PL) (W : World) (hs : s.size ≤ maxLen) (h : PsArg W a len ps) :
    Calls Try.prog 18 #[.string s, .slice a len cap] W fun e w' => e = .returned (.bool true) ∧ Below W.heap.size W w' := by
  obtain ⟨hlen, hmax, hsz, harg⟩ := h
  unfold maxLen at hmax hs hsz
  have HL := Lib.hid hlen; clear hlen
  have HS := Lib.hid hsz; clear hsz
  have HA := Lib.hid harg; clear harg
  have hln : (few11 ps).length = min 8 len := by rw [← HL.out]; simp [few11]
  have HLN := Lib.hid hln; clear hln
  have AW := Lib.hid (awake11_any W)
  have FST := Lib.hid (fun w => few11_any s w (by omega))
  obtain ⟨S, hS⟩ : ∃ S, bs (s.data.toList.take 150) = S := ⟨_, rfl⟩
  rw [hS] at FST
  have hS1 : S.size ≤ 1000 := by rw [← hS, bs_size, List.length_take]; omega
  clear hS
  go_enter Try.func18, Try.ntmps18
  go_wp2_with fail
  refine AW.out.mono ?_
  rintro e w ⟨rfl, hb0⟩
  have HB0 := Lib.hid hb0; clear AW
  have HA0 := Lib.hid (psAt_below HA.out hb0); clear HA hb0
  go_wp2_with fail
  (refine (FST.out _).mono ?_; rintro e w' ⟨rfl, rfl⟩; go_wp2_with fail)
  go_loopw [5, 6] (fun m i wr => ∃ k : Nat, k ≤ min 8 len ∧ i = .int .i64 k ∧ Hid (wr.ownsRow w.heap.size 90 2 m k (pCells ((few11 ps).take k))) ∧ Hid (Below w.heap.size w wr)) (fun _ i _ => 8 - (intOf i).toNat)
  case atStart => exact ⟨0, Nat.zero_le _, rfl, World.ownsRow_nil _ _ _ _, Below.refl _ _⟩
  case round =>
    obtain ⟨k, hk, rfl, hown, hbl⟩ := hrel
    by_cases hlt : k < len ∧ k < 8
    · obtain ⟨hlt1, hlt2⟩ := hlt
      have hks : k < ps.length := by have := HL.out; omega
      have hkl : k < (few11 ps).length := by have := HLN.out; omega
      have hfk : (few11 ps)[k] = (ps[k].1.take 150, ps[k].2.take 150) := by simp [few11]
      have hsnoc : pCells ((few11 ps).take (k + 1)) = pCells ((few11 ps).take k) ++ [.string (bs (ps[k].1.take 150)), .string (bs (ps[k].2.take 150))] := by
        rw [List.take_succ_eq_append_getElem hkl, hfk, pCells_snoc]; rfl
      have HSN := Lib.hid hsnoc; clear hsnoc hfk
      obtain ⟨b, o, ha, hbw, _, _⟩ := psAt_at HA0.out k hks
      obtain ⟨b', o', ha', hbs, x0, x1⟩ := psAt_at (psAt_below HA0.out hbl.out) k hks
      rw [ha] at ha'
      obtain ⟨rfl, rfl⟩ : b = b' ∧ o = o' := by
        have := Option.some.inj ha'
        exact ⟨congrArg (·.block) this, congrArg (·.off) this⟩
      subst ha
      clear ha'
      obtain ⟨hs1, hs2⟩ := HS.out _ (List.getElem_mem hks)
      generalize ps[k] = p at *
      have F1 := Lib.hid (fun w => few11_any (bs p.1) w (by rw [bs_size]; omega))
      have F2 := Lib.hid (fun w => few11_any (bs p.2) w (by rw [bs_size]; omega))
      rw [bs_data] at F1 F2
      have HP := Lib.hid hkl; clear hkl hks hs1 hs2
      obtain ⟨u1, hu1⟩ : ∃ u1, bs p.1 = u1 := ⟨_, rfl⟩
      obtain ⟨u2, hu2⟩ : ∃ u2, bs p.2 = u2 := ⟨_, rfl⟩
      rw [hu1] at x0 F1
      rw [hu2] at x1 F2
      obtain ⟨v1, hv1⟩ : ∃ v1, bs (p.1.take 150) = v1 := ⟨_, rfl⟩
      obtain ⟨v2, hv2⟩ : ∃ v2, bs (p.2.take 150) = v2 := ⟨_, rfl⟩
      rw [hv1] at F1 HSN
      rw [hv2] at F2 HSN
      clear hu1 hu2 hv1 hv2
      have hb0 : decide ((k : Int) < len) = true := by simp; omega
      have hb1 : decide ((k : Int) < 8) = true := by simp; omega
      go_wp2_with fail
      clear hb0 hb1
      have hown2 : (wr.alloc (.cells #[.string v1, .string v2] 90)).drew.ownsRow w.heap.size 90 2 u5 k (pCells ((few11 ps).take k)) := World.ownsRow.alloc (w := wr) hown.out _
      have hbl2 : (wr.alloc (.cells #[.string v1, .string v2] 90)).drew.heap[wr.heap.size]? = some (.cells #[.string v1, .string v2] 90 (0, 0)) := heap_alloc_new wr _
      have HO2 := Lib.hid hown2; clear hown2
      have HB2 := Lib.hid hbl2; clear hbl2
      have hws : w.heap.size ≤ wr.heap.size := hbl.out.size
      have hbo : u5.ownBlock ≠ some b := by
        intro e
        have h1 := (hown.out.lt b e).1
        omega
      go_region_held3 (fun w' => w'.cell? ⟨b, o + k * 2, none⟩ = some (.string u1) ∧ w'.cell? ⟨b, o + k * 2 + 1, none⟩ = some (.string u2)) (first | go_keep | (refine ⟨?_, ?_⟩ <;> first | go_keep | exact (hgrow.cell_far _ (by simp; omega) (fun e => hbo e.symm)).trans (by go_keep)))
        (first | (go_at_call 96; refine (F1.out _).mono ?_; rintro e w' ⟨rfl, rfl⟩) | (go_at_call 96; refine (F2.out _).mono ?_; rintro e w' ⟨rfl, rfl⟩) | (change if Region.wanted { dst := some 42, op := _, type := _, pos := _, after := _, guard := _ } _ = true then _ else _; refine step_app_one 88 90 (.agg #[.string ByteArray.empty, .string ByteArray.empty]) 2 32 Try.underlying88 info_par (by decide) (by decide) (by rfl) (.tmp 27) (.tmp 41) (by rfl) _ w.heap.size u5 k (pCells ((few11 ps).take k)) [.string v1, .string v2] rfl (by rfl) HO2.out wr.heap.size (by rfl) HB2.out (by simp [Value.oneCell']) (by omega) (by unfold maxLen; omega) (by simp; omega) ?_; intro g cp w2 hown3 hgrow hat hgl))
      all_goals
        have HO3 := Lib.hid hown3; clear hown3
        have HG3 := Lib.hid hgrow; clear hgrow hat
        go_wp2
        go_roundw
        case rel =>
          refine ⟨k + 1, by omega, by go_num, ?_, ?_⟩
          · have h1 := HO3.out
            rw [HSN.out]; exact h1
          · exact app_below (((hbl.out.alloc (by omega) _).drew)) HO2.out HG3.out (Nat.le_refl _) (by simp; omega)
        case measure => simp [intOf]; omega
    · have hkk : k = (few11 ps).length := by have := HLN.out; omega
      have hg : (k < len ∧ 8 ≤ k) ∨ len ≤ k := by omega
      have hown2 := hown.out
      rw [hkk, List.take_length] at hown2
      obtain ⟨sa, sc, hsa, hps, hnc, hlc⟩ := psAt_own hown2
      have SW := Lib.hid (fun w h => swap_any w S sa k sc (few11 ps) h hkk (few11_ok S hS1 ps))
      have RS := Lib.hid (fun w h => rSwap_any w S sa k sc (few11 ps) h hkk (few11_ok S hS1 ps))
      have S0 := Lib.hid (fun w => swap_any w S none 0 0 [] (.inl rfl) rfl ⟨hS1, by decide, by simp⟩)
      unfold SwapPost at SW RS S0
      rw [show bs ((swapL S.data.toList []).getD S.data.toList) = S from bs_self S, show (swapL S.data.toList []).isSome = false from rfl] at S0
      obtain ⟨X, O, hXO, hsame⟩ : ∃ X O, (bs ((swapL S.data.toList (few11 ps)).getD S.data.toList) = X ∧ (swapL S.data.toList (few11 ps)).isSome = O) ∧ (O = true ∨ (O = false ∧ X = S)) := by
        cases hsw : swapL S.data.toList (few11 ps) with
        | none => exact ⟨_, _, ⟨rfl, rfl⟩, .inr ⟨rfl, bs_self S⟩⟩
        | some x => exact ⟨_, _, ⟨rfl, rfl⟩, .inl rfl⟩
      rw [hXO.1, hXO.2] at SW RS
      have HPS := Lib.hid hps; clear hps hown2 hnc hlc hXO
      have hsa2 : u5 = .slice sa k sc := by rw [hsa, hkk]
      have HKK := Lib.hid hkk
      clear hsa hkk
      subst hsa2
      have HS1 := Lib.hid hS1; clear hS1 hlt hk
      have xx := eq_selfX X
      have ss := eq_selfX S
      have tail : True := trivial
      rcases hsame with rfl | ⟨rfl, rfl⟩
      all_goals
        rcases hg with ⟨hl1, hl2⟩ | hl1
      all_goals
        first | (have hb0 : decide ((k : Int) < len) = true := by simp; omega) | (have hb0 : decide ((k : Int) < len) = false := by simp; omega)
        try (have hb1 : decide ((k : Int) < 8) = false := by simp; omega)
        go_wp2_with fail
        refine (SW.out _ HPS.out).mono ?_
        rintro e w3 ⟨rfl, hb3⟩
        have HPS3 := Lib.hid (psAt_below HPS.out hb3)
        have HB3 := Lib.hid (bseq HB0.out (hbl.out.trans (hb3.mono hbl.out.size))); clear hb3 hb0
        go_wp2_with fail
        refine (RS.out _ HPS3.out).mono ?_
        rintro e w4 ⟨rfl, hb4⟩
        have HB4 := Lib.hid (bseq HB3.out hb4); clear hb4
        go_wp2_with fail
        refine (S0.out _).mono ?_
        rintro e w5 ⟨rfl, hb5⟩
        have HB5 := Lib.hid (bseq HB4.out hb5); clear hb5
        go_wp2_with fail
        go_ret
        exact ⟨rfl, HB5.out⟩

end Go.Proofs.Ythhpijmkhhdhhaa
