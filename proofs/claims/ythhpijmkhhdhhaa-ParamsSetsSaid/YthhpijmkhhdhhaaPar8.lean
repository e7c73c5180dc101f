/- The law's few of layer 7. -/
import Derived.Test.YthhpijmkhhdhhaaPar7
import Derived.Deep.RegionHeld3
namespace Go.Proofs.Ythhpijmkhhdhhaa
open Go.RowKit
set_option linter.unusedVariables false
set_option linter.unusedSimpArgs false

/-- An argument of type []Param. -/
def PsArg (w : World) (a : Option Addr) (len : Nat) (ps : PL) : Prop :=
  ps.length = len ∧ len ≤ maxLen ∧ (∀ p ∈ ps, p.1.length ≤ maxLen ∧ p.2.length ≤ maxLen) ∧ PsAt w a ps

def few7 (ps : PL) : PL := (ps.take 8).map fun p => (p.1.take 30, p.2.take 30)

theorem few7_ok (ps : PL) : PsOk (few7 ps) ∧ (few7 ps).length ≤ 8 := by
  unfold few7
  refine ⟨⟨by simp; omega, fun p hp => ?_⟩, by simp; omega⟩
  obtain ⟨q, _, rfl⟩ := List.mem_map.1 hp
  simp; omega

theorem cut_bs (l : List UInt8) (n : Nat) (k : Nat) (h : k = min (bs l).size n) : (bs l).extract 0 k = bs (l.take n) := by
  rw [extract_cutS n (bs l) k h]; rfl

set_option maxRecDepth 100000 in
set_option maxHeartbeats 2000000 in
theorem few7_any (w : World) (a : Option Addr) (len cap : Nat) (ps : PL) (h : PsArg w a len ps) :
    Calls Try.prog 89 #[.slice a len cap] w fun e w' => ∃ a' c, e = .returned (.slice a' (few7 ps).length c) ∧ Below w.heap.size w w' ∧ PsAt w' a' (few7 ps) ∧ (a' = none → c = 0) ∧ (few7 ps).length ≤ c := by
  obtain ⟨hlen, hmax, hsz, harg⟩ := h
  unfold maxLen at hmax
  have HL := Lib.hid hlen; clear hlen
  have HS := Lib.hid hsz; clear hsz
  have HA := Lib.hid harg; clear harg
  have hln : (few7 ps).length = min 8 len := by rw [← HL.out]; simp [few7]
  have HLN := Lib.hid hln; clear hln
  go_enter Try.func89, Try.ntmps89
  go_wp2_with fail
  go_loopw [3, 4] (fun m i wr => ∃ k : Nat, k ≤ min 8 len ∧ i = .int .i64 k ∧ Hid (wr.ownsRow w.heap.size 85 2 m k (pCells ((few7 ps).take k))) ∧ Hid (Below w.heap.size w wr)) (fun _ i _ => 8 - (intOf i).toNat)
  case atStart => exact ⟨0, Nat.zero_le _, rfl, World.ownsRow_nil _ _ _ _, Below.refl _ _⟩
  case round =>
    obtain ⟨k, hk, rfl, hown, hbl⟩ := hrel
    by_cases hlt : k < len ∧ k < 8
    · obtain ⟨hlt1, hlt2⟩ := hlt
      have hks : k < ps.length := by have := HL.out; omega
      have hkl : k < (few7 ps).length := by have := HLN.out; omega
      have hfk : (few7 ps)[k] = (ps[k].1.take 30, ps[k].2.take 30) := by simp [few7]
      have hsnoc : pCells ((few7 ps).take (k + 1)) = pCells ((few7 ps).take k) ++ [.string (bs (ps[k].1.take 30)), .string (bs (ps[k].2.take 30))] := by
        rw [List.take_succ_eq_append_getElem hkl, hfk, pCells_snoc]; rfl
      have HSN := Lib.hid hsnoc; clear hsnoc hfk
      obtain ⟨b, o, ha, hbw, _, _⟩ := psAt_at HA.out k hks
      obtain ⟨b', o', ha', hbs, x0, x1⟩ := psAt_at (psAt_below HA.out hbl.out) k hks
      rw [ha] at ha'
      obtain ⟨rfl, rfl⟩ : b = b' ∧ o = o' := by
        have := Option.some.inj ha'
        exact ⟨congrArg (·.block) this, congrArg (·.off) this⟩
      subst ha
      clear ha'
      obtain ⟨hs1, hs2⟩ := HS.out _ (List.getElem_mem hks)
      generalize ps[k] = p at *
      have hp1 : (bs p.1).size ≤ 9223372036854775807 := by rw [bs_size]; exact hs1
      have hp2 : (bs p.2).size ≤ 9223372036854775807 := by rw [bs_size]; exact hs2
      have hc1 := fun k h => cut_bs p.1 30 k h
      have hc2 := fun k h => cut_bs p.2 30 k h
      have HC1 := Lib.hid hc1; clear hc1
      have HC2 := Lib.hid hc2; clear hc2
      have HP := Lib.hid hkl; clear hkl hks hs1 hs2
      obtain ⟨u1, hu1⟩ : ∃ u1, bs p.1 = u1 := ⟨_, rfl⟩
      obtain ⟨u2, hu2⟩ : ∃ u2, bs p.2 = u2 := ⟨_, rfl⟩
      rw [hu1] at x0 hp1 HC1
      rw [hu2] at x1 hp2 HC2
      clear hu1 hu2
      have hb0 : decide ((k : Int) < len) = true := by simp; omega
      have hb1 : decide ((k : Int) < 8) = true := by simp; omega
      go_wp2_with fail
      clear hb0 hb1
      have hown2 : (wr.alloc (.cells #[.string (u1.extract 0 (min (u1.size : Int) 30).toNat), .string (u2.extract 0 (min (u2.size : Int) 30).toNat)] 85)).drew.ownsRow w.heap.size 85 2 u3 k (pCells ((few7 ps).take k)) := World.ownsRow.alloc (w := wr) hown.out _
      have hbl2 : (wr.alloc (.cells #[.string (u1.extract 0 (min (u1.size : Int) 30).toNat), .string (u2.extract 0 (min (u2.size : Int) 30).toNat)] 85)).drew.heap[wr.heap.size]? = some (.cells #[.string (u1.extract 0 (min (u1.size : Int) 30).toNat), .string (u2.extract 0 (min (u2.size : Int) 30).toNat)] 85 (0, 0)) := heap_alloc_new wr _
      have HO2 := Lib.hid hown2; clear hown2
      have HB2 := Lib.hid hbl2; clear hbl2
      have hm1 : (0 : Int) ≤ min (u1.size : Int) 30 := by omega
      have hm2 : min (u1.size : Int) 30 ≤ u1.size := by omega
      have hm3 : (0 : Int) ≤ min (u2.size : Int) 30 := by omega
      have hm4 : min (u2.size : Int) 30 ≤ u2.size := by omega
      have hws : w.heap.size ≤ wr.heap.size := hbl.out.size
      have hbo : u3.ownBlock ≠ some b := by
        intro e
        have h1 := (hown.out.lt b e).1
        omega
      go_region_held3 (fun w' => w'.cell? ⟨b, o + k * 2, none⟩ = some (.string u1) ∧ w'.cell? ⟨b, o + k * 2 + 1, none⟩ = some (.string u2)) (first | go_keep | (refine ⟨?_, ?_⟩ <;> first | go_keep | exact (hgrow.cell_far _ (by simp; omega) (fun e => hbo e.symm)).trans (by go_keep)))
        ((change if Region.wanted { dst := some 44, op := _, type := _, pos := _, after := _, guard := _ } _ = true then _ else _; refine step_app_one 72 85 (.agg #[.string ByteArray.empty, .string ByteArray.empty]) 2 32 Try.underlying72 info_par (by decide) (by decide) (by rfl) (.tmp 15) (.tmp 43) (by rfl) _ w.heap.size u3 k (pCells ((few7 ps).take k)) [.string (u1.extract 0 (min (u1.size : Int) 30).toNat), .string (u2.extract 0 (min (u2.size : Int) 30).toNat)] rfl (by rfl) HO2.out wr.heap.size (by rfl) HB2.out (by simp [Value.oneCell']) (by omega) (by unfold maxLen; omega) (by simp; omega) ?_; intro g cp w2 hown3 hgrow hat hgl))
      all_goals
        have HO3 := Lib.hid hown3; clear hown3
        have HG3 := Lib.hid hgrow; clear hgrow hat
        go_wp2
        go_roundw
        case rel =>
          refine ⟨k + 1, by omega, by go_num, ?_, ?_⟩
          · have h1 := HO3.out
            rw [HC1.out _ (by omega), HC2.out _ (by omega)] at h1
            rw [HSN.out]; exact h1
          · exact app_below (((hbl.out.alloc (by omega) _).drew)) HO2.out HG3.out (Nat.le_refl _) (by simp; omega)
        case measure => simp [intOf]; omega
    · have hkk : k = (few7 ps).length := by have := HLN.out; omega
      have hg : (k < len ∧ 8 ≤ k) ∨ len ≤ k := by omega
      have hown2 := hown.out
      rw [hkk, List.take_length] at hown2
      obtain ⟨sa, sc, hsa, hps, hnc, hlc⟩ := psAt_own hown2
      have HNC := Lib.hid hnc; clear hnc
      have HLC := Lib.hid hlc; clear hlc
      have HPS := Lib.hid hps; clear hps hown2
      have HKK := Lib.hid hkk; clear hkk
      clear hlt hk
      subst hsa
      rcases hg with ⟨hl1, hl2⟩ | hl1
      all_goals
        first | (have hb0 : decide ((k : Int) < len) = true := by simp; omega) | (have hb0 : decide ((k : Int) < len) = false := by simp; omega)
        try (have hb1 : decide ((k : Int) < 8) = false := by simp; omega)
        go_wp2
        go_ret
        exact ⟨_, _, rfl, hbl.out, HPS.out, HNC.out, HLC.out⟩

end Go.Proofs.Ythhpijmkhhdhhaa
