/- The reference's Swap. -/
import Derived.Test.YthhpijmkhhdhhaaSw2
namespace Go.Proofs.Ythhpijmkhhdhhaa
open Go.RowKit
set_option linter.unusedVariables false
set_option linter.unusedSimpArgs false

theorem hasPrefix_take (l p : List UInt8) : Lib.hasPrefix l p = (l.take p.length == p) := by
  unfold Lib.hasPrefix
  rw [Bool.eq_iff_iff, List.isPrefixOf_iff_prefix, beq_iff_eq]
  constructor
  · intro h; exact (List.prefix_iff_eq_take.1 h).symm
  · intro h; rw [← h]; exact List.take_prefix _ _
theorem hasSuffix_last (p : List UInt8) (c : UInt8) : Lib.hasSuffix p [c] = (p.getLast? == some c) := by
  unfold Lib.hasSuffix
  rw [Bool.eq_iff_iff, List.isSuffixOf_iff_suffix, beq_iff_eq]
  constructor
  · rintro ⟨r, rfl⟩; simp
  · intro h
    obtain ⟨r, rfl⟩ := List.getLast?_eq_some_iff.1 h
    exact ⟨r, rfl⟩

theorem swapF_empty {l : List UInt8} {p : List UInt8 × List UInt8} (h : p.1.length = 0) : swapF l p = none := by
  unfold swapF
  rw [List.eq_nil_of_length_eq_zero h]
  simp
theorem swapF_not {l : List UInt8} {p : List UInt8 × List UInt8} (h : ¬ l.take p.1.length = p.1) : swapF l p = none := by
  unfold swapF
  rw [hasPrefix_take, show (l.take p.1.length == p.1) = false by simpa using h]
  simp
theorem swapF_long {l : List UInt8} {p : List UInt8 × List UInt8} (h : l.length < p.1.length) : swapF l p = none := by
  apply swapF_not
  intro e
  have := congrArg List.length e
  rw [List.length_take] at this
  omega
theorem swapF_is {l : List UInt8} {p : List UInt8 × List UInt8} (h : l.take p.1.length = p.1) (h0 : 0 < p.1.length) (b : Bool) (hb : (Lib.hasSuffix p.1 [47] || tailOk (l.drop p.1.length)) = b) : swapF l p = if b then some (p.2 ++ l.drop p.1.length) else none := by
  unfold swapF
  rw [hasPrefix_take, show (l.take p.1.length == p.1) = true by simpa using h, hb]
  have : p.1.isEmpty = false := by cases hp : p.1 with
    | nil => rw [hp] at h0; simp at h0
    | cons => rfl
  rw [this]
  cases b <;> rfl
theorem suffix_at (s : ByteArray) (p : List UInt8) (m : Nat) (hm : m < s.size) (hp : p.length = m + 1) (h : s.data.toList.take p.length = p) (c : UInt8) : Lib.hasSuffix p [c] = (s[m] == c) := by
  rw [hasSuffix_last, ← h, hp, take_snoc s m hm, List.getLast?_concat]
  rfl
theorem u8_beq (a b : UInt8) : ((a.toNat : Int) == (b.toNat : Int)) = (a == b) := by
  rw [Bool.eq_iff_iff, beq_iff_eq, beq_iff_eq]
  constructor
  · intro h; exact UInt8.toNat_inj.1 (by omega)
  · intro h; rw [h]

set_option maxRecDepth 100000 in
set_option maxHeartbeats 4000000 in
theorem rSwap_any (w : World) (s : ByteArray) (a : Option Addr) (n cap : Nat) (ps : PL) (h : PsAt w a ps) (hn : n = ps.length) (hok : SwapOk s ps) :
    Calls Try.prog 98 #[.string s, .slice a n cap] w (SwapPost w s ps) := by
  subst hn
  obtain ⟨hs, hn, hsz⟩ := hok
  have HA := Lib.hid h; clear h
  have HSZ := Lib.hid hsz; clear hsz
  have YES := Lib.hid (fun w' x y h1 h2 h3 => swap_yes_post (w := w) (w' := w') (s := s) (ps := ps) (x := x) (y := y) h1 h2 h3)
  have NO := Lib.hid (fun w' h1 h3 => swap_no_post (w := w) (w' := w') (s := s) (ps := ps) h1 h3)
  go_enter Try.func98, Try.ntmps98
  go_wp2_with fail
  go_loopw [6, 7] (fun i _ wr => ∃ k : Nat, k ≤ ps.length ∧ i = .int .i64 k ∧ Hid (swapL s.data.toList ps = swapL s.data.toList (ps.drop k)) ∧ Hid (Below w.heap.size w wr)) (fun i _ _ => ps.length - (intOf i).toNat)
  case atStart => exact ⟨0, Nat.zero_le _, rfl, rfl, Below.refl _ _⟩
  case round =>
    obtain ⟨k, hk, rfl, hg, hbl⟩ := hrel
    by_cases hlt : k < ps.length
    · obtain ⟨b, o, rfl, hbs, x0, x1⟩ := psAt_at (psAt_below HA.out hbl.out) k hlt
      obtain ⟨z1, z2⟩ := HSZ.out _ (List.getElem_mem hlt)
      have hd := hg.out
      rw [ps_drop ps k hlt] at hd
      generalize ps[k] = p at *
      have HNO : Hid (swapF s.data.toList p = none → swapL s.data.toList ps = swapL s.data.toList (ps.drop (k + 1))) := Lib.hid (fun h => by rw [hd, swapL_no h])
      have HYS : Hid (∀ x, swapF s.data.toList p = some x → swapL s.data.toList ps = some x) := Lib.hid (fun x h => by rw [hd, swapL_yes h])
      clear hd
      obtain ⟨u2, hu2⟩ : ∃ u2, bs p.2 = u2 := ⟨_, rfl⟩
      obtain ⟨u1, hu1⟩ : ∃ u1, bs p.1 = u1 := ⟨_, rfl⟩
      have hp1 : u1.data.toList = p.1 := by rw [← hu1]; rfl
      have hp2 : u2.data.toList = p.2 := by rw [← hu2]; rfl
      rw [hu1] at x0
      rw [hu2] at x1
      have hs1 : u1.size = p.1.length := by rw [Lib.size_eq, hp1]
      have hs2 : u2.size ≤ 1000 := by rw [Lib.size_eq, hp2]; exact z2
      have hs1' : u1.size ≤ 1000 := by omega
      have HP1 := Lib.hid hp1; have HP2 := Lib.hid hp2; have HS1 := Lib.hid hs1
      clear hp1 hp2 hs1 hu1 hu2 z1 z2
      have HSL := Lib.hid (Lib.size_eq s)
      obtain ⟨n1, hn1⟩ : ∃ n1, u1.size = n1 := ⟨_, rfl⟩
      rw [hn1] at HS1 hs1'
      by_cases h0 : n1 = 0
      · subst h0
        have HV := Lib.hid (HNO.out (swapF_empty HS1.out.symm))
        go_wp2_with fail
        go_quiet (fail)
        go_wp2_with fail
        go_roundw
        case rel => exact ⟨k + 1, by omega, by go_num, HV.out, below_drewN hbl.out _⟩
        case measure => simp [intOf]; omega
      · have e0 : ((n1 : Int) == 0) = false := beq_eq_false_iff_ne.2 (by omega)
        by_cases hlen : s.size < n1
        · have HV := Lib.hid (HNO.out (swapF_long (by rw [← HSL.out, ← HS1.out]; exact hlen)))
          have e1 : decide ((s.size : Int) < (n1 : Int)) = true := decide_eq_true (by omega)
          have e2 : (s.size : Int) < (n1 : Int) := by omega
          go_wp2_with fail
          go_quiet (fail)
          go_wp2_with fail
          go_roundw
          case rel => exact ⟨k + 1, by omega, by go_num, HV.out, below_drewN hbl.out _⟩
          case measure => simp [intOf]; omega
        · have e1 : decide ((s.size : Int) < (n1 : Int)) = false := decide_eq_false (by omega)
          have e2 : (n1 : Int) ≤ (s.size : Int) := by omega
          have e3 : n1 ≤ s.size := by omega
          obtain ⟨ex, hex⟩ : ∃ ex, s.extract 0 n1 = ex := ⟨_, rfl⟩
          have HEX : Hid (ex.data.toList = s.data.toList.take n1) := Lib.hid (by rw [← hex, extract_mkB0, mkB_data])
          cases heq0 : (ex.toList == u1.toList) with
          | false =>
            have heq : (ex.toList != u1.toList) = true := by rw [bne, heq0]; rfl
            have HV := Lib.hid (HNO.out (swapF_not (by
              rw [← HS1.out, ← HEX.out, ← HP1.out, ← Lib.toList_data, ← Lib.toList_data]
              simpa using heq0)))
            go_wp2_with fail
            go_quiet (fail)
            go_wp2_with fail
            go_roundw
            case rel => exact ⟨k + 1, by omega, by go_num, HV.out, below_drewN hbl.out _⟩
            case measure => simp [intOf]; omega
          | true =>
            have heq : (ex.toList != u1.toList) = false := by rw [bne, heq0]; rfl
            have hpre : s.data.toList.take p.1.length = p.1 := by
              rw [← HS1.out, ← HEX.out, ← HP1.out, ← Lib.toList_data, ← Lib.toList_data]
              simpa using heq0
            have HPRE := Lib.hid hpre; clear hpre
            have HT : Hid (s.extract n1 s.size = mkB (s.data.toList.drop n1)) := Lib.hid (extract_mkB s n1)
            have hty : (s.extract n1 s.size).size ≤ 1000 := by rw [extract_tail_size]; omega
            obtain ⟨ur, hur⟩ : ∃ ur, s.extract n1 s.size = ur := ⟨_, rfl⟩
            rw [hur] at HT hty
            have HY : Hid (∀ b, (Lib.hasSuffix p.1 [47] || tailOk (s.data.toList.drop p.1.length)) = b → b = true → ∀ y : ByteArray, y = u2 ++ ur → swapL s.data.toList ps = some (p.2 ++ s.data.toList.drop n1) ∧ y.data.toList = p.2 ++ s.data.toList.drop n1) := Lib.hid (by
              intro b hb hb2 y hy
              refine ⟨HYS.out _ ?_, ?_⟩
              · rw [swapF_is HPRE.out (by rw [← HS1.out]; omega) b hb, hb2, ← HS1.out]; rfl
              · rw [hy, HT.out, ByteArray.data_append, Array.toList_append, HP2.out, mkB_data])
            have HN : Hid ((Lib.hasSuffix p.1 [47] || tailOk (s.data.toList.drop p.1.length)) = false → swapL s.data.toList ps = swapL s.data.toList (ps.drop (k + 1))) := Lib.hid (by
              intro hb
              exact HNO.out (by rw [swapF_is HPRE.out (by rw [← HS1.out]; omega) false hb]; rfl))
            by_cases hfull : s.size = n1
            · obtain ⟨g1, g2⟩ := HY.out true (by rw [← HS1.out, List.drop_of_length_le (by rw [← HSL.out]; omega)]; simp [tailOk]) rfl _ rfl
              have G1 := Lib.hid g1; have G2 := Lib.hid g2; clear g1 g2
              have e4 : ((n1 : Int) == (s.size : Int)) = true := by rw [beq_iff_eq]; omega
              have HF := Lib.hid hfull; clear hfull
              go_wp2_with fail
              go_quiet (fail)
              go_wp2_with fail
              go_quiet (fail)
              go_wp2_with fail
              refine bodyPost_ret (results_tmp2 rfl _ _ _) rfl ?_
              exact YES.out _ _ _ G1.out G2.out (below_drewN (below_drewN hbl.out _) _)
            · have e4 : ((n1 : Int) == (s.size : Int)) = false := beq_eq_false_iff_ne.2 (by omega)
              have hlt2 : n1 < s.size := by omega
              obtain ⟨m, hm⟩ : ∃ m, n1 = m + 1 := ⟨n1 - 1, by omega⟩
              have hms : m < s.size := by omega
              have hmz : (n1 : Int) - 1 = (m : Int) := by omega
              have hmz2 : (m : Int) < (s.size : Int) := by omega
              have hnz2 : (n1 : Int) < (s.size : Int) := by omega
              have hsx : Lib.hasSuffix p.1 [47] = ((s[m].toNat : Int) == 47) := by
                rw [suffix_at s p.1 m hms (by rw [← HS1.out]; exact hm) HPRE.out 47, ← u8_beq]
                rfl
              have htk : tailOk (s.data.toList.drop p.1.length) = ([47, 63, 35] : List UInt8).contains s[n1] := by
                rw [← HS1.out, drop_cons s n1 hlt2]; rfl
              have IN := Lib.hid (fun w => in_any (s[n1].toNat : Int) ⟨#[47, 63, 35]⟩ w (by decide))
              rw [bOne_contains, show (⟨#[47, 63, 35]⟩ : ByteArray).data.toList = [47, 63, 35] from rfl] at IN
              obtain ⟨tk, htk2⟩ : ∃ tk, ([47, 63, 35] : List UInt8).contains s[n1] = tk := ⟨_, rfl⟩
              rw [htk2] at IN htk
              rw [hsx, htk] at HY HN
              clear hm hsx htk htk2 hfull
              cases h47 : ((s[m].toNat : Int) == 47) with
              | true =>
                obtain ⟨g1, g2⟩ := HY.out true (by rw [h47]; rfl) rfl _ rfl
                have G1 := Lib.hid g1; have G2 := Lib.hid g2; clear g1 g2
                go_wp2_with fail
                go_quiet (fail)
                go_wp2_with fail
                go_quiet (fail)
                go_wp2_with fail
                refine bodyPost_ret (results_tmp2 rfl _ _ _) rfl ?_
                exact YES.out _ _ _ G1.out G2.out (below_drewN (below_drewN hbl.out _) _)
              | false =>
                cases tk with
                | true =>
                  obtain ⟨g1, g2⟩ := HY.out true (by rw [h47]; rfl) rfl _ rfl
                  have G1 := Lib.hid g1; have G2 := Lib.hid g2; clear g1 g2
                  go_wp2_with fail
                  go_quiet (fail)
                  go_wp2_with fail
                  (refine (IN.out _).mono ?_; rintro e w' ⟨rfl, rfl⟩; go_wp2_with fail)
                  go_quiet (fail)
                  go_wp2_with fail
                  refine bodyPost_ret (results_tmp2 rfl _ _ _) rfl ?_
                  exact YES.out _ _ _ G1.out G2.out (below_drewN (below_drewN hbl.out _) _)
                | false =>
                  have HV := Lib.hid (HN.out (by rw [h47]; rfl))
                  go_wp2_with fail
                  go_quiet (fail)
                  go_wp2_with fail
                  (refine (IN.out _).mono ?_; rintro e w' ⟨rfl, rfl⟩; go_wp2_with fail)
                  go_roundw
                  case rel => exact ⟨k + 1, by omega, by go_num, HV.out, below_drewN hbl.out _⟩
                  case measure => simp [intOf]; omega
    · obtain rfl : k = ps.length := by omega
      have hv := hg.out
      rw [List.drop_length] at hv
      have HV := Lib.hid hv; clear hv
      go_wp2_with fail
      refine bodyPost_ret (results_tmp2 rfl _ _ _) rfl ?_
      exact NO.out _ HV.out hbl.out

end Go.Proofs.Ythhpijmkhhdhhaa
