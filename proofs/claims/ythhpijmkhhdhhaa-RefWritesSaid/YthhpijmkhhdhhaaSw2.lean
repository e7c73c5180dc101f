/- uriref.Swap and the reference's. -/
import Derived.Test.YthhpijmkhhdhhaaSw
namespace Go.Proofs.Ythhpijmkhhdhhaa
open Go.RowKit
set_option linter.unusedVariables false
set_option linter.unusedSimpArgs false

/-- One swap of a text's beginning. -/
def tailOk (r : List UInt8) : Bool := match r with
  | [] => true
  | c :: _ => ([47, 63, 35] : List UInt8).contains c
def swapF (l : List UInt8) (p : List UInt8 × List UInt8) : Option (List UInt8) :=
  if Lib.hasPrefix l p.1 && !p.1.isEmpty && (Lib.hasSuffix p.1 [47] || tailOk (l.drop p.1.length)) then some (p.2 ++ l.drop p.1.length) else none
def swapL (l : List UInt8) : PL → Option (List UInt8)
  | [] => none
  | p :: r => match swapF l p with
    | some x => some x
    | none => swapL l r
theorem swapL_yes {l x : List UInt8} {p : List UInt8 × List UInt8} {r : PL} (h : swapF l p = some x) : swapL l (p :: r) = some x := by simp only [swapL, h]
theorem swapL_no {l : List UInt8} {p : List UInt8 × List UInt8} {r : PL} (h : swapF l p = none) : swapL l (p :: r) = swapL l r := by simp only [swapL, h]

def SwapOk (s : ByteArray) (ps : PL) : Prop := s.size ≤ 1000 ∧ ps.length ≤ 1000 ∧ ∀ p ∈ ps, p.1.length ≤ 1000 ∧ p.2.length ≤ 1000
def SwapPost (w : World) (s : ByteArray) (ps : PL) (e : Ending) (w' : World) : Prop :=
  e = .returned (.tuple #[.string (bs ((swapL s.data.toList ps).getD s.data.toList)), .bool (swapL s.data.toList ps).isSome]) ∧ Below w.heap.size w w'

theorem cutPrefixW (s p : ByteArray) (w : World) : Calls Try.prog 120 #[.string s, .string p] w fun e w' => e = .returned (.tuple #[.string (bs (Lib.trimPrefix s.data.toList p.data.toList)), .bool (Lib.hasPrefix s.data.toList p.data.toList)]) ∧ w = w' :=
  (Try.strings_CutPrefix s p w).mono fun _ _ ⟨h, g⟩ => ⟨h, g.symm⟩
theorem hasSuffixW (s p : ByteArray) (w : World) (hs : s.size ≤ 1000000) : Calls Try.prog 121 #[.string s, .string p] w fun e w' => e = .returned (.bool (Lib.hasSuffix s.data.toList p.data.toList)) ∧ w = w' :=
  (Try.strings_HasSuffix s p w (by omega)).mono fun _ _ ⟨h, g⟩ => ⟨h, g.symm⟩

theorem swap_yes_post {w w' : World} {s : ByteArray} {ps : PL} {x : List UInt8} {y : ByteArray} (h : swapL s.data.toList ps = some x) (hy : y.data.toList = x) (hb : Below w.heap.size w w') : SwapPost w s ps (.returned (.tuple #[.string y, .bool true])) w' := by
  unfold SwapPost
  rw [h]
  exact ⟨by rw [show bs ((some x).getD s.data.toList) = y from bytes_extX (by rw [bs_data, hy]; rfl)]; rfl, hb⟩
theorem swap_no_post {w w' : World} {s : ByteArray} {ps : PL} (h : swapL s.data.toList ps = none) (hb : Below w.heap.size w w') : SwapPost w s ps (.returned (.tuple #[.string s, .bool false])) w' := by
  unfold SwapPost
  rw [h]
  exact ⟨by rw [show bs (none.getD s.data.toList) = s from bs_self s]; rfl, hb⟩

set_option maxRecDepth 100000 in
set_option maxHeartbeats 2000000 in
theorem swap_any (w : World) (s : ByteArray) (a : Option Addr) (n cap : Nat) (ps : PL) (h : PsAt w a ps) (hn : n = ps.length) (hok : SwapOk s ps) :
    Calls Try.prog 97 #[.string s, .slice a n cap] w (SwapPost w s ps) := by
  subst hn
  obtain ⟨hs, hn, hsz⟩ := hok
  have HA := Lib.hid h; clear h
  have HSZ := Lib.hid hsz; clear hsz
  have YES := Lib.hid (fun w' x y h1 h2 h3 => swap_yes_post (w := w) (w' := w') (s := s) (ps := ps) (x := x) (y := y) h1 h2 h3)
  have NO := Lib.hid (fun w' h1 h3 => swap_no_post (w := w) (w' := w') (s := s) (ps := ps) h1 h3)
  go_enter Try.func97, Try.ntmps97
  go_wp2_with fail
  go_loopw [7, 8, 9, 12] (fun _ _ _ i wr => ∃ k : Nat, k ≤ ps.length ∧ i = .int .i64 k ∧ Hid (swapL s.data.toList ps = swapL s.data.toList (ps.drop k)) ∧ Hid (Below w.heap.size w wr)) (fun _ _ _ i _ => ps.length - (intOf i).toNat)
  case atStart => exact ⟨0, Nat.zero_le _, rfl, rfl, Below.refl _ _⟩
  case round =>
    obtain ⟨k, hk, rfl, hg, hbl⟩ := hrel
    by_cases hlt : k < ps.length
    · obtain ⟨b, o, rfl, hbs, x0, x1⟩ := psAt_at (psAt_below HA.out hbl.out) k hlt
      obtain ⟨z1, z2⟩ := HSZ.out _ (List.getElem_mem hlt)
      have hd := hg.out
      rw [ps_drop ps k hlt] at hd
      generalize ps[k] = p at *
      have HD := Lib.hid hd; clear hd
      have hp1 : (bs p.1).size ≤ 1000 := by rw [bs_size]; exact z1
      have CP := Lib.hid (fun w => cutPrefixW s (bs p.1) w)
      have HX := Lib.hid (fun w => hasSuffixW (bs p.1) ⟨#[47]⟩ w (by omega))
      rw [show (⟨#[47]⟩ : ByteArray).data.toList = [47] from rfl] at HX
      simp only [bs_data] at CP HX
      have hsf : swapF s.data.toList p = if Lib.hasPrefix s.data.toList p.1 && !p.1.isEmpty && (Lib.hasSuffix p.1 [47] || tailOk (s.data.toList.drop p.1.length)) then some (p.2 ++ s.data.toList.drop p.1.length) else none := rfl
      have htp : Lib.trimPrefix s.data.toList p.1 = if Lib.hasPrefix s.data.toList p.1 then s.data.toList.drop p.1.length else s.data.toList := rfl
      have hpe : (bs p.1).toList.isEmpty = p.1.isEmpty := by rw [Lib.toList_data, bs_data]
      obtain ⟨rest, hrest⟩ : ∃ rest, s.data.toList.drop p.1.length = rest := ⟨_, rfl⟩
      rw [hrest] at hsf htp
      obtain ⟨hp, hhp⟩ : ∃ hp, Lib.hasPrefix s.data.toList p.1 = hp := ⟨_, rfl⟩
      rw [hhp] at hsf htp CP
      obtain ⟨pe, hpe2⟩ : ∃ pe, p.1.isEmpty = pe := ⟨_, rfl⟩
      rw [hpe2] at hsf hpe
      obtain ⟨sf, hhs⟩ : ∃ sf, Lib.hasSuffix p.1 [47] = sf := ⟨_, rfl⟩
      rw [hhs] at hsf HX
      have hrest' := hrest
      have HSF := Lib.hid hsf; clear hsf hrest hhp hpe2 hhs
      have hal := (Below.refl wr.heap.size wr).alloc (Nat.le_refl _) (.cells #[.string (bs p.1), .string (bs p.2)] 90)
      have hb1 := hbl.out.trans (hal.mono hbl.out.size)
      have c0 : (wr.alloc (.cells #[.string (bs p.1), .string (bs p.2)] 90)).cell? ⟨wr.heap.size, 0, none⟩ = some (.string (bs p.1)) := by simp
      have c1 : (wr.alloc (.cells #[.string (bs p.1), .string (bs p.2)] 90)).cell? ⟨wr.heap.size, 1, none⟩ = some (.string (bs p.2)) := by simp
      have HB1 := Lib.hid hb1; clear hb1 hal
      have HP2 := Lib.hid (bs_data p.2)
      have HR := Lib.hid (bs_data rest)
      cases hp with
      | false =>
        have hv : swapL s.data.toList ps = swapL s.data.toList (ps.drop (k + 1)) := by rw [HD.out, swapL_no (by rw [HSF.out]; rfl)]
        have HV := Lib.hid hv; clear hv htp
        go_wp2_with fail
        (refine (CP.out _).mono ?_; rintro e w' ⟨rfl, rfl⟩; go_wp2_with fail)
        go_roundw
        case rel => exact ⟨k + 1, by omega, by go_num, HV.out, HB1.out⟩
        case measure => simp [intOf]; omega
      | true =>
        rw [htp] at CP
        simp only [if_true] at CP
        obtain ⟨u2, hu2⟩ : ∃ u2, bs p.2 = u2 := ⟨_, rfl⟩
        obtain ⟨u1, hu1⟩ : ∃ u1, bs p.1 = u1 := ⟨_, rfl⟩
        obtain ⟨ur, hur⟩ : ∃ ur, bs rest = ur := ⟨_, rfl⟩
        rw [hur] at CP HR
        rw [hu1] at CP HX hpe c0 c1 x0 hp1 HB1
        rw [hu2] at c0 c1 HP2 x1 HB1
        have hu2s : u2.size ≤ 1000 := by rw [← hu2, bs_size]; exact z2
        have hurs : ur.size ≤ 1000 := by rw [Lib.size_eq, HR.out, ← hrest', List.length_drop, ← Lib.size_eq]; omega
        have hsum : u2.size + ur.size ≤ 9223372036854775807 := by omega
        clear htp hu1 hu2 hur hrest'
        cases pe with
        | true =>
          have hv : swapL s.data.toList ps = swapL s.data.toList (ps.drop (k + 1)) := by rw [HD.out, swapL_no (by rw [HSF.out]; rfl)]
          have HV := Lib.hid hv; clear hv
          go_wp2_with fail
          (refine (CP.out _).mono ?_; rintro e w' ⟨rfl, rfl⟩; go_wp2_with fail)
          go_roundw
          case rel => exact ⟨k + 1, by omega, by go_num, HV.out, HB1.out⟩
          case measure => simp [intOf]; omega
        | false =>
          have HY : Hid ((sf || tailOk rest) = true → ∀ y : ByteArray, y = u2 ++ ur → swapL s.data.toList ps = some (p.2 ++ rest) ∧ y.data.toList = p.2 ++ rest) := Lib.hid (by
            intro h y hy
            refine ⟨?_, ?_⟩
            · rw [HD.out]
              exact swapL_yes (by rw [HSF.out, h]; rfl)
            · rw [hy, ByteArray.data_append, Array.toList_append, HP2.out, HR.out])
          have HNO : Hid ((sf || tailOk rest) = false → swapL s.data.toList ps = swapL s.data.toList (ps.drop (k + 1))) := Lib.hid (by
            intro h
            rw [HD.out, swapL_no (by rw [HSF.out, h]; rfl)])
          by_cases h0 : ur.size = 0
          · have he : ur.toList.isEmpty = true := by rw [empty_of_size ur h0]; rfl
            have hre : rest = [] := by rw [← HR.out]; exact size0 ur h0
            obtain ⟨g1, g2⟩ := HY.out (by rw [hre]; simp [tailOk]) _ rfl
            have G1 := Lib.hid g1; have G2 := Lib.hid g2; clear g1 g2 h0 hre
            go_wp2_with fail
            (refine (CP.out _).mono ?_; rintro e w' ⟨rfl, rfl⟩; go_wp2_with fail)
            refine bodyPost_ret (results_tmp2 rfl _ _ _) rfl ?_
            exact YES.out _ _ _ G1.out G2.out HB1.out
          · have hpos : 0 < ur.size := by omega
            have he := nonempty_of_size ur hpos
            have hl : ur.data.toList = ur[0] :: ur.data.toList.drop 1 := by
              have := drop_cons ur 0 hpos
              simpa using this
            have g0 : (0 : Int) < (ur.size : Int) := by omega
            have htk : tailOk rest = ([47, 63, 35] : List UInt8).contains ur[0] := by rw [← HR.out, hl]; rfl
            have IB := Lib.hid (fun w => stringsIndexByte_any ⟨#[47, 63, 35]⟩ (ur[0].toNat : Int) w)
            have hxo := Lib.contains_iff_indexByte [47, 63, 35] ur[0]
            rw [show (⟨#[47, 63, 35]⟩ : ByteArray).data.toList = [47, 63, 35] from rfl, show ((ur[0].toNat : Int)).toNat.toUInt8 = ur[0] by simp] at IB
            obtain ⟨x, hx⟩ : ∃ x, Lib.indexByte [47, 63, 35] ur[0] = x := ⟨_, rfl⟩
            rw [hx] at hxo IB
            rw [hxo] at htk
            rw [htk] at HY HNO
            clear hl hx hxo htk h0
            cases sf with
            | true =>
              obtain ⟨g1, g2⟩ := HY.out rfl _ rfl
              have G1 := Lib.hid g1; have G2 := Lib.hid g2; clear g1 g2
              go_wp2_with fail
              (refine (CP.out _).mono ?_; rintro e w' ⟨rfl, rfl⟩; go_wp2_with fail)
              (refine (HX.out _).mono ?_; rintro e w' ⟨rfl, rfl⟩; go_wp2_with fail)
              refine bodyPost_ret (results_tmp2 rfl _ _ _) rfl ?_
              exact YES.out _ _ _ G1.out G2.out HB1.out
            | false =>
              by_cases hx0 : 0 ≤ x
              · obtain ⟨g1, g2⟩ := HY.out (by rw [decide_eq_true hx0]; rfl) _ rfl
                have G1 := Lib.hid g1; have G2 := Lib.hid g2; clear g1 g2
                go_wp2_with fail
                (refine (CP.out _).mono ?_; rintro e w' ⟨rfl, rfl⟩; go_wp2_with fail)
                (refine (HX.out _).mono ?_; rintro e w' ⟨rfl, rfl⟩; go_wp2_with fail)
                (refine (IB.out _).mono ?_; rintro e w' ⟨rfl, rfl⟩; go_wp2_with fail)
                refine bodyPost_ret (results_tmp2 rfl _ _ _) rfl ?_
                exact YES.out _ _ _ G1.out G2.out HB1.out
              · have HV := Lib.hid (HNO.out (by rw [decide_eq_false hx0]; rfl))
                have hx1 : x < 0 := by omega
                clear hx0
                go_wp2_with fail
                (refine (CP.out _).mono ?_; rintro e w' ⟨rfl, rfl⟩; go_wp2_with fail)
                (refine (HX.out _).mono ?_; rintro e w' ⟨rfl, rfl⟩; go_wp2_with fail)
                (refine (IB.out _).mono ?_; rintro e w' ⟨rfl, rfl⟩; go_wp2_with fail)
                go_roundw
                case rel => exact ⟨k + 1, by omega, by go_num, HV.out, HB1.out⟩
                case measure => simp [intOf]; omega
    · obtain rfl : k = ps.length := by omega
      have hv := hg.out
      rw [List.drop_length] at hv
      have HV := Lib.hid hv; clear hv
      go_wp2_with fail
      refine bodyPost_ret (results_tmp2 rfl _ _ _) rfl ?_
      exact NO.out _ HV.out hbl.out

end Go.Proofs.Ythhpijmkhhdhhaa
