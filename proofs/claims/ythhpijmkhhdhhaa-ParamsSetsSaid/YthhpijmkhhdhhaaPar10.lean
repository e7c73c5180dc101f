/- params.Get, Set; the reference's Place. -/
import Derived.Test.YthhpijmkhhdhhaaPar9
namespace Go.Proofs.Ythhpijmkhhdhhaa
open Go.RowKit
set_option linter.unusedVariables false
set_option linter.unusedSimpArgs false

def hit (name : List UInt8) (p : List UInt8 × List UInt8) : Bool := sameL p.1 name

def getL (name : List UInt8) : PL → Option (List UInt8)
  | [] => none
  | p :: r => if hit name p = true then some p.2 else getL name r

def plL (name : List UInt8) : PL → Option Nat
  | [] => none
  | p :: r => if hit name p = true then some 0 else (plL name r).map (· + 1)

def setGo (name value : List UInt8) : Bool → PL → PL
  | d, [] => if d = true then [] else [(name, value)]
  | d, p :: r => if hit name p = true then (if d = true then setGo name value true r else (p.1, value) :: setGo name value true r) else p :: setGo name value d r

theorem hit_self (name value : List UInt8) : hit name (name, value) = true := by unfold hit sameL; simp

theorem set_get (name value : List UInt8) : ∀ ps : PL, getL name (setGo name value false ps) = some value := by
  intro ps
  induction ps with
  | nil => simp only [setGo, getL, Bool.false_eq_true, if_false]; rw [if_pos (hit_self name value)]
  | cons p r ih =>
    by_cases h : hit name p = true
    · have h2 : hit name (p.1, value) = true := h
      simp only [setGo, if_pos h, Bool.false_eq_true, if_false, getL, if_pos h2]
    · simp only [setGo, if_neg h, getL, ih]

theorem get_pl (name : List UInt8) : ∀ ps : PL, (∀ k, plL name ps = some k → ∃ h : k < ps.length, hit name ps[k] = true ∧ getL name ps = some ps[k].2 ∧ ∀ j (hj : j < k), hit name (ps[j]'(Nat.lt_trans hj h)) = false) ∧ (plL name ps = none → getL name ps = none ∧ ∀ j (hj : j < ps.length), hit name ps[j] = false) := by
  intro ps
  induction ps with
  | nil => exact ⟨fun k h => (by cases h), fun _ => ⟨rfl, fun j hj => (by simp at hj)⟩⟩
  | cons p r ih =>
    by_cases h : hit name p = true
    · refine ⟨fun k hk => ?_, fun hn => ?_⟩
      · simp only [plL, if_pos h, Option.some.injEq] at hk
        subst hk
        exact ⟨by simp, h, by simp only [getL, if_pos h]; rfl, fun j hj => by omega⟩
      · simp only [plL, if_pos h] at hn; cases hn
    · refine ⟨fun k hk => ?_, fun hn => ?_⟩
      · simp only [plL, if_neg h, Option.map_eq_some_iff] at hk
        obtain ⟨m, hm, rfl⟩ := hk
        obtain ⟨h1, h2, h3, h4⟩ := ih.1 m hm
        refine ⟨by simp; omega, h2, by simp only [getL, if_neg h, h3]; rfl, fun j hj => ?_⟩
        cases j with
        | zero => simpa using h
        | succ j => exact h4 j (by omega)
      · simp only [plL, if_neg h, Option.map_eq_none_iff] at hn
        obtain ⟨h1, h2⟩ := ih.2 hn
        refine ⟨by simp only [getL, if_neg h, h1], fun j hj => ?_⟩
        cases j with
        | zero => simpa using h
        | succ j => exact h2 j (by simpa using hj)

theorem set_none (name value : List UInt8) : ∀ ps : PL, (∀ j (hj : j < ps.length), hit name ps[j] = false) → setGo name value false ps = ps ++ [(name, value)] := by
  intro ps
  induction ps with
  | nil => intro _; rfl
  | cons p r ih =>
    intro h
    have h0 : hit name p = false := h 0 (by simp)
    simp only [setGo, h0, Bool.false_eq_true, if_false]
    rw [ih (fun j hj => h (j + 1) (by simpa using hj))]
    rfl

theorem getL_yes {nm : List UInt8} {p : List UInt8 × List UInt8} {r : PL} (h : sameL p.1 nm = true) : getL nm (p :: r) = some p.2 := by have h2 : hit nm p = true := h; simp only [getL, if_pos h2]
theorem getL_no {nm : List UInt8} {p : List UInt8 × List UInt8} {r : PL} (h : ¬ sameL p.1 nm = true) : getL nm (p :: r) = getL nm r := by have h2 : ¬ hit nm p = true := h; simp only [getL, if_neg h2]
theorem plL_yes {nm : List UInt8} {p : List UInt8 × List UInt8} {r : PL} (h : sameL p.1 nm = true) : plL nm (p :: r) = some 0 := by have h2 : hit nm p = true := h; simp only [plL, if_pos h2]
theorem plL_no {nm : List UInt8} {p : List UInt8 × List UInt8} {r : PL} (h : ¬ sameL p.1 nm = true) : plL nm (p :: r) = (plL nm r).map (· + 1) := by have h2 : ¬ hit nm p = true := h; simp only [plL, if_neg h2]
theorem setGo_yes0 {nm v : List UInt8} {p : List UInt8 × List UInt8} {r : PL} (h : sameL p.1 nm = true) : setGo nm v false (p :: r) = (p.1, v) :: setGo nm v true r := by have h2 : hit nm p = true := h; simp only [setGo, if_pos h2, Bool.false_eq_true, if_false]
theorem setGo_yes1 {nm v : List UInt8} {p : List UInt8 × List UInt8} {r : PL} (h : sameL p.1 nm = true) : setGo nm v true (p :: r) = setGo nm v true r := by have h2 : hit nm p = true := h; simp only [setGo, if_pos h2, if_true]
theorem setGo_no {nm v : List UInt8} {d : Bool} {p : List UInt8 × List UInt8} {r : PL} (h : ¬ sameL p.1 nm = true) : setGo nm v d (p :: r) = p :: setGo nm v d r := by have h2 : ¬ hit nm p = true := h; simp only [setGo, if_neg h2]

theorem ps_drop (ps : PL) (k : Nat) (h : k < ps.length) : ps.drop k = ps[k] :: ps.drop (k + 1) := List.drop_eq_getElem_cons h

def gT : Option (List UInt8) → ByteArray | some v => bs v | none => ⟨#[]⟩
def gOk : Option (List UInt8) → Bool | some v => true | none => false

set_option maxRecDepth 100000 in
set_option maxHeartbeats 1000000 in
theorem get_any (w : World) (nm : ByteArray) (a : Option Addr) (n cap : Nat) (ps : PL) (h : PsAt w a ps) (hn : n = ps.length) (hok : PsOk ps) (hnm : nm.size ≤ 1000) :
    Calls Try.prog 91 #[.string nm, .slice a n cap] w fun e w' => e = .returned (.tuple #[.string (gT (getL nm.data.toList ps)), .bool (gOk (getL nm.data.toList ps))]) ∧ Below w.heap.size w w' := by
  subst hn
  obtain ⟨hn, hsz⟩ := hok
  have HA := Lib.hid h; clear h
  have HSZ := Lib.hid hsz; clear hsz
  go_enter Try.func91, Try.ntmps91
  go_wp2_with fail
  go_loopw [7, 10] (fun _ i wr => ∃ k : Nat, k ≤ ps.length ∧ i = .int .i64 k ∧ Hid (getL nm.data.toList ps = getL nm.data.toList (ps.drop k)) ∧ Hid (Below w.heap.size w wr)) (fun _ i _ => ps.length - (intOf i).toNat)
  case atStart => exact ⟨0, Nat.zero_le _, rfl, rfl, Below.refl _ _⟩
  case round =>
    obtain ⟨k, hk, rfl, hg, hbl⟩ := hrel
    by_cases hlt : k < ps.length
    · obtain ⟨b, o, rfl, hbs, x0, x1⟩ := psAt_at (psAt_below HA.out hbl.out) k hlt
      obtain ⟨z1, z2⟩ := HSZ.out _ (List.getElem_mem hlt)
      have hd := hg.out
      rw [ps_drop ps k hlt] at hd
      generalize ps[k] = p at *
      have HD := Lib.hid hd; clear hd
      have hp1 : (bs p.1).size ≤ 1000 := by rw [bs_size]; exact z1
      have SM := Lib.hid (fun w => same_any (bs p.1) nm w (by unfold maxLen; omega) (by unfold maxLen; omega))
      simp only [bs_data] at SM
      have hal := (Below.refl wr.heap.size wr).alloc (Nat.le_refl _) (.cells #[.string (bs p.1), .string (bs p.2)] 85)
      have hb1 := hbl.out.trans (hal.mono hbl.out.size)
      have c1 : (wr.alloc (.cells #[.string (bs p.1), .string (bs p.2)] 85)).cell? ⟨wr.heap.size, 1, none⟩ = some (.string (bs p.2)) := by simp
      have hz : wr.heap.size < (wr.alloc (.cells #[.string (bs p.1), .string (bs p.2)] 85)).heap.size := by simp
      have HB1 := Lib.hid hb1; clear hb1 hal
      have C1 := Lib.hid c1; clear c1
      have HZ := Lib.hid hz; clear hz
      go_wp2_with fail
      refine (SM.out _).mono ?_
      rintro e w2 ⟨rfl, hb2⟩
      have c1 : w2.cell? ⟨wr.heap.size, 1, none⟩ = some (.string (bs p.2)) := by rw [hb2.cell (by exact HZ.out)]; exact C1.out
      have HB2 := Lib.hid (HB1.out.trans (hb2.mono HB1.out.size))
      clear hb2 HB1 C1 HZ SM
      by_cases hh : sameL p.1 nm.data.toList = true
      · have hv : getL nm.data.toList ps = some p.2 := by rw [HD.out, getL_yes hh]
        rw [hh]
        have HV := Lib.hid hv; clear hv hh
        go_wp2_with fail
        go_ret2
        rw [HV.out]
        exact ⟨ret_sb rfl rfl, HB2.out⟩
      · have hv : getL nm.data.toList ps = getL nm.data.toList (ps.drop (k + 1)) := by rw [HD.out, getL_no hh]
        rw [Bool.not_eq_true] at hh
        rw [hh]
        have HV := Lib.hid hv; clear hv hh
        go_wp2_with fail
        go_roundw
        case rel => exact ⟨k + 1, by omega, by go_num, HV.out, HB2.out⟩
        case measure => simp [intOf]; omega
    · obtain rfl : k = ps.length := by omega
      have hv := hg.out
      rw [List.drop_length] at hv
      have HV := Lib.hid hv; clear hv
      go_wp2_with fail
      go_ret2
      rw [HV.out]
      exact ⟨ret_sb rfl rfl, hbl.out⟩

def plI : Option Nat → Int | some k => k | none => -1

theorem fold_eq (a b : List UInt8) : ((⟨(foldL a).toArray⟩ : ByteArray).toList == (⟨(foldL b).toArray⟩ : ByteArray).toList) = sameL a b := beq_lists _ _

set_option maxRecDepth 100000 in
set_option maxHeartbeats 1000000 in
theorem place_any (w : World) (nm : ByteArray) (a : Option Addr) (n cap : Nat) (ps : PL) (h : PsAt w a ps) (hn : n = ps.length) (hok : PsOk ps) (hnm : nm.size ≤ 1000) :
    Calls Try.prog 92 #[.slice a n cap, .string nm, .int .i64 0] w fun e w' => e = .returned (.int .i64 (plI (plL nm.data.toList ps))) ∧ Below w.heap.size w w' := by
  subst hn
  obtain ⟨hn, hsz⟩ := hok
  have HA := Lib.hid h; clear h
  have HSZ := Lib.hid hsz; clear hsz
  have FN := Lib.hid (fun w => rFold_any nm w (by unfold maxLen; omega))
  go_enter Try.func92, Try.ntmps92
  go_wp2_with fail
  go_loopw [7] (fun i wr => ∃ k : Nat, k ≤ ps.length ∧ i = .int .i64 k ∧ Hid (plL nm.data.toList ps = (plL nm.data.toList (ps.drop k)).map (· + k)) ∧ Hid (Below w.heap.size w wr)) (fun i _ => ps.length - (intOf i).toNat)
  case atStart => exact ⟨0, Nat.zero_le _, rfl, by show _ = _; simp, Below.refl _ _⟩
  case round =>
    obtain ⟨k, hk, rfl, hg, hbl⟩ := hrel
    by_cases hlt : k < ps.length
    · obtain ⟨b, o, rfl, hbs, x0, x1⟩ := psAt_at (psAt_below HA.out hbl.out) k hlt
      obtain ⟨z1, z2⟩ := HSZ.out _ (List.getElem_mem hlt)
      have hd := hg.out
      rw [ps_drop ps k hlt] at hd
      generalize ps[k] = p at *
      have HD := Lib.hid hd; clear hd
      have hp1 : (bs p.1).size ≤ 1000 := by rw [bs_size]; exact z1
      have F1 := Lib.hid (fun w => rFold_any (bs p.1) w (by unfold maxLen; omega))
      simp only [bs_data] at F1
      go_wp2_with fail
      refine (F1.out _).mono ?_
      rintro e w2 ⟨rfl, hb2⟩
      have HB2 := Lib.hid (hbl.out.trans (hb2.mono hbl.out.size)); clear hb2
      go_wp2_with fail
      refine (FN.out _).mono ?_
      rintro e w3 ⟨rfl, hb3⟩
      have HB3 := Lib.hid (HB2.out.trans (hb3.mono HB2.out.size)); clear hb3
      by_cases hh : sameL p.1 nm.data.toList = true
      · have hv : plL nm.data.toList ps = some k := by rw [HD.out, plL_yes hh]; simp
        have hfe : (foldL p.1 == foldL nm.data.toList) = true := hh
        have HV := Lib.hid hv; clear hv hh
        go_wp2_with fail
        go_ret
        rw [HV.out]
        exact ⟨rfl, HB3.out⟩
      · have hv : plL nm.data.toList ps = (plL nm.data.toList (ps.drop (k + 1))).map (· + (k + 1)) := by
          rw [HD.out, plL_no hh, Option.map_map]
          congr 1
          funext m
          simp only [Function.comp]; omega
        rw [Bool.not_eq_true] at hh
        have hfe : (foldL p.1 == foldL nm.data.toList) = false := hh
        have HV := Lib.hid hv; clear hv hh
        go_wp2_with fail
        go_roundw
        case rel => exact ⟨k + 1, by omega, by go_num, HV.out, HB3.out⟩
        case measure => simp [intOf]; omega
    · obtain rfl : k = ps.length := by omega
      have hv := hg.out
      rw [List.drop_length] at hv
      have HV := Lib.hid hv; clear hv
      go_wp2_with fail
      go_ret
      rw [HV.out]
      exact ⟨rfl, hbl.out⟩

theorem own_par_below {w w' : World} {B : Nat} {v : Value} {n : Nat} {xs : List Value} (h : w.ownsRow B 85 2 v n xs) (hb : Below w.heap.size w w') : w'.ownsRow B 85 2 v n xs := own_below h hb

/-- What Set's loop keeps. -/
def SL (w : World) (B : Nat) (nm v : List UInt8) (ps : PL) (k : Nat) (d : Bool) (os : PL) (out : Value) (wr : World) : Prop :=
  Below w.heap.size w wr ∧ wr.ownsRow B 85 2 out os.length (pCells os) ∧ setGo nm v false ps = os ++ setGo nm v d (ps.drop k) ∧ os.length ≤ k ∧ B ≤ wr.heap.size

set_option maxRecDepth 100000 in
set_option maxHeartbeats 2000000 in
theorem set_any (w : World) (nm vl : ByteArray) (a : Option Addr) (n cap : Nat) (ps : PL) (h : PsAt w a ps) (hn : n = ps.length) (hok : PsOk ps) (hnm : nm.size ≤ 1000) :
    Calls Try.prog 93 #[.slice a n cap, .string nm, .string vl] w fun e w' => ∃ a' c, e = .returned (.slice a' (setGo nm.data.toList vl.data.toList false ps).length c) ∧ Below w.heap.size w w' ∧ PsAt w' a' (setGo nm.data.toList vl.data.toList false ps) := by
  subst hn
  obtain ⟨hn, hsz⟩ := hok
  have HA := Lib.hid h; clear h
  have HSZ := Lib.hid hsz; clear hsz
  obtain ⟨B, hB⟩ : ∃ B, B = w.heap.size := ⟨_, rfl⟩
  have HBB := Lib.hid hB
  have hinv : SL w B nm.data.toList vl.data.toList ps 0 false [] (.slice none 0 0) w := ⟨Below.refl _ _, World.ownsRow_nil _ _ _ _, rfl, by simp, by omega⟩
  have HI := Lib.hid hinv; clear hinv hB
  go_enter Try.func93, Try.ntmps93
  go_wp2_with fail
  go_loopw [7, 8, 10, 13] (fun out d _ i wr => ∃ (k : Nat) (db : Bool) (os : PL), k ≤ ps.length ∧ i = .int .i64 k ∧ d = .bool db ∧ Hid (SL w B nm.data.toList vl.data.toList ps k db os out wr)) (fun _ _ _ i _ => ps.length - (intOf i).toNat)
  case atStart => exact ⟨0, false, [], Nat.zero_le _, rfl, rfl, HI.out⟩
  case round =>
    obtain ⟨k, db, os, hk, rfl, rfl, hinv⟩ := hrel
    clear HI
    obtain ⟨hbl, hown, hset, hol, hBl⟩ := hinv.out
    clear hinv
    by_cases hlt : k < ps.length
    · obtain ⟨b, o, rfl, hbs, x0, x1⟩ := psAt_at (psAt_below HA.out hbl) k hlt
      obtain ⟨z1, z2⟩ := HSZ.out _ (List.getElem_mem hlt)
      rw [ps_drop ps k hlt] at hset
      generalize ps[k] = p at *
      have HST := Lib.hid hset; clear hset
      have hp1 : (bs p.1).size ≤ 1000 := by rw [bs_size]; exact z1
      have SM := Lib.hid (fun w => same_any (bs p.1) nm w (by unfold maxLen; omega) (by unfold maxLen; omega))
      simp only [bs_data] at SM
      obtain ⟨w1, hw1⟩ : ∃ w1, wr.alloc (.cells #[.string (bs p.1), .string (bs p.2)] 85) = w1 := ⟨_, rfl⟩
      have hal : Below wr.heap.size wr w1 := by rw [← hw1]; exact (Below.refl wr.heap.size wr).alloc (Nat.le_refl _) _
      have hb1 := hbl.trans (hal.mono hbl.size)
      have ho1 := own_below hown hal
      have hblk : w1.heap[wr.heap.size]? = some (.cells #[.string (bs p.1), .string (bs p.2)] 85 (0, 0)) := by rw [← hw1]; exact heap_alloc_new wr _
      have e0 : w1.cell? ⟨wr.heap.size, 0, none⟩ = some (.string (bs p.1)) := by rw [cell_of_row w1 wr.heap.size 0 _ _ _ hblk]; rfl
      have HBK := Lib.hid hblk; clear hblk
      have HB1 := Lib.hid hb1; clear hb1
      have HO1 := Lib.hid ho1; clear ho1 hal
      have hB1 : B ≤ w1.heap.size := by have := HB1.out.size; have := HBB.out; omega
      go_wp2_with fail
      refine (SM.out _).mono ?_
      rintro e w2 ⟨rfl, hb2⟩
      have hblk2 := (hb2.block _ (lt_of_block HBK.out)).trans HBK.out
      have hb2w := HB1.out.trans (hb2.mono HB1.out.size)
      have ho2 := own_below HO1.out hb2
      have hB2 : B ≤ w2.heap.size := Nat.le_trans hB1 hb2.size
      have hob : ∀ x, u7.ownBlock = some x → x < wr.heap.size := fun x hx => (hown.lt x hx).2
      have c0 : w2.cell? ⟨wr.heap.size, 0, none⟩ = some (.string (bs p.1)) := by rw [cell_of_row w2 wr.heap.size 0 _ _ _ hblk2]; rfl
      have c1 : w2.cell? ⟨wr.heap.size, 1, none⟩ = some (.string (bs p.2)) := by rw [cell_of_row w2 wr.heap.size 1 _ _ _ hblk2]; rfl
      have f1 := frozen_of_row w2 wr.heap.size 1 _ _ hblk2
      have HK2 := Lib.hid hblk2; clear hblk2
      have HB2 := Lib.hid hb2w; clear hb2w hb2
      have HO2 := Lib.hid ho2; clear ho2
      clear hw1 HBK HB1 HO1 SM hown e0
      by_cases hh : sameL p.1 nm.data.toList = true
      · rw [hh]
        cases db with
        | true =>
          have SE : Hid (setGo nm.data.toList vl.data.toList false ps = os ++ setGo nm.data.toList vl.data.toList true (ps.drop (k + 1))) := Lib.hid (by rw [HST.out, setGo_yes1 hh])
          clear hh
          go_wp2_with fail
          go_roundw
          case rel => exact ⟨k + 1, true, os, by omega, by go_num, rfl, HB2.out, HO2.out, SE.out, by omega, hB2⟩
          case measure => simp [intOf]; omega
        | false =>
          have SE : Hid (setGo nm.data.toList vl.data.toList false ps = (os ++ [(p.1, vl.data.toList)]) ++ setGo nm.data.toList vl.data.toList true (ps.drop (k + 1))) := Lib.hid (by rw [HST.out, setGo_yes0 hh, List.append_assoc]; rfl)
          clear hh
          obtain ⟨w3, hw3⟩ : ∃ w3, w2.setCell ⟨wr.heap.size, 1, none⟩ (.string vl) = w3 := ⟨_, rfl⟩
          have hk3 : w3.heap[wr.heap.size]? = some (.cells #[.string (bs p.1), .string vl] 85 (0, 0)) := by rw [← hw3]; exact heap_setCell_at HK2.out 1 _
          have ho3 : w3.ownsRow B 85 2 u7 os.length (pCells os) := by rw [← hw3]; exact ownsRow_setCell_other HO2.out (fun e => by have := hob _ e; simp at this) _
          have hb3 : Below w.heap.size w w3 := by rw [← hw3]; exact HB2.out.setCell (by exact hbl.size) _
          have hB3 : B ≤ w3.heap.size := by rw [← hw3]; simpa using hB2
          have d0 : w3.cell? ⟨wr.heap.size, 0, none⟩ = some (.string (bs p.1)) := by rw [cell_of_row w3 wr.heap.size 0 _ _ _ hk3]; rfl
          have d1 : w3.cell? ⟨wr.heap.size, 1, none⟩ = some (.string vl) := by rw [cell_of_row w3 wr.heap.size 1 _ _ _ hk3]; rfl
          have HO3 := Lib.hid ho3; clear ho3 hk3
          have HB3 := Lib.hid hb3; clear hb3
          go_wp2_with (at_builtin; refine app_par (by rfl) (.tmp 24) (.tmp 26) (by rfl) w3 B _ os.length (pCells os) (bs p.1) vl (by rfl) HO3.out (by rfl) ?_ ?_ ?_)
          · omega
          · exact hB3
          intro g5 cp5 w5 hown5 hg5 hbg5 hgl5
          have hb5 : Below w.heap.size w w5 := app_below HB3.out HO3.out hg5 (by rw [HBB.out]; exact Nat.le_refl _) (by have := HB3.out.size; omega)
          have ho5 : w5.ownsRow B 85 2 (.slice (some ⟨g5, 0, none⟩) (os.length + 1) cp5) (os ++ [(p.1, vl.data.toList)]).length (pCells (os ++ [(p.1, vl.data.toList)])) := by
            rw [pCells_snoc, List.length_append]; exact hown5
          have hB5 : B ≤ w5.heap.size := own_le HO3.out hg5 hB3
          have HB5 := Lib.hid hb5; clear hb5
          have HO5 := Lib.hid ho5; clear ho5 hown5 hg5
          go_wp2_with fail
          go_roundw
          case rel => exact ⟨k + 1, true, os ++ [(p.1, vl.data.toList)], by omega, by go_num, rfl, HB5.out, HO5.out, SE.out, by rw [List.length_append, List.length_singleton]; omega, hB5⟩
          case measure => simp [intOf]; omega
      · have SE : Hid (setGo nm.data.toList vl.data.toList false ps = (os ++ [p]) ++ setGo nm.data.toList vl.data.toList db (ps.drop (k + 1))) := Lib.hid (by rw [HST.out, setGo_no hh, List.append_assoc]; rfl)
        rw [Bool.not_eq_true] at hh
        rw [hh]
        clear hh
        go_wp2_with (at_builtin; refine app_par (by rfl) (.tmp 24) (.tmp 26) (by rfl) w2 B _ os.length (pCells os) (bs p.1) (bs p.2) (by rfl) HO2.out (by rfl) ?_ ?_ ?_)
        · omega
        · exact hB2
        intro g5 cp5 w5 hown5 hg5 hbg5 hgl5
        have hb5 : Below w.heap.size w w5 := app_below HB2.out HO2.out hg5 (by rw [HBB.out]; exact Nat.le_refl _) (by have := HB2.out.size; omega)
        have ho5 : w5.ownsRow B 85 2 (.slice (some ⟨g5, 0, none⟩) (os.length + 1) cp5) (os ++ [p]).length (pCells (os ++ [p])) := by
          rw [pCells_snoc, List.length_append]; exact hown5
        have hB5 : B ≤ w5.heap.size := own_le HO2.out hg5 hB2
        have HB5 := Lib.hid hb5; clear hb5
        have HO5 := Lib.hid ho5; clear ho5 hown5 hg5
        go_wp2_with fail
        go_roundw
        case rel => exact ⟨k + 1, db, os ++ [p], by omega, by go_num, rfl, HB5.out, HO5.out, SE.out, by rw [List.length_append, List.length_singleton]; omega, hB5⟩
        case measure => simp [intOf]; omega
    · obtain rfl : k = ps.length := by omega
      rw [List.drop_length] at hset
      have HO := Lib.hid hown; clear hown
      have HB := Lib.hid hbl; clear hbl
      cases db with
      | true =>
        have SE : Hid (setGo nm.data.toList vl.data.toList false ps = os) := Lib.hid (by rw [hset]; simp [setGo])
        obtain ⟨sa, sc, hsa, hps, _⟩ := psAt_own HO.out
        have HPS := Lib.hid hps; clear hps hset
        subst hsa
        go_wp2_with fail
        go_ret
        rw [SE.out]
        exact ⟨_, _, rfl, HB.out, HPS.out⟩
      | false =>
        have SE : Hid (setGo nm.data.toList vl.data.toList false ps = os ++ [(nm.data.toList, vl.data.toList)]) := Lib.hid (by rw [hset]; simp [setGo])
        clear hset
        go_wp2_with (at_builtin; refine app_par (by rfl) (.tmp 31) (.tmp 35) (by rfl) wr B _ os.length (pCells os) nm vl (by rfl) HO.out (by rfl) ?_ ?_ ?_)
        · omega
        · exact hBl
        intro g5 cp5 w5 hown5 hg5 hbg5 hgl5
        have hb5 : Below w.heap.size w w5 := app_below HB.out HO.out hg5 (by rw [HBB.out]; exact Nat.le_refl _) (by have := HB.out.size; omega)
        have ho5 : w5.ownsRow B 85 2 (.slice (some ⟨g5, 0, none⟩) (os.length + 1) cp5) (os ++ [(nm.data.toList, vl.data.toList)]).length (pCells (os ++ [(nm.data.toList, vl.data.toList)])) := by
          rw [pCells_snoc, List.length_append]; exact hown5
        have hB5 : B ≤ w5.heap.size := own_le HO.out hg5 hBl
        have HB5 := Lib.hid hb5; clear hb5
        have HO5 := Lib.hid ho5; clear ho5 hown5 hg5
        obtain ⟨sa, sc, hsa, hps, _⟩ := psAt_own HO5.out
        obtain ⟨hsa1, hsa2, hsa3⟩ := Value.slice.inj hsa
        subst hsa1 hsa3
        have HPS := Lib.hid hps; clear hps hsa
        go_wp2_with fail
        go_ret
        rw [SE.out]
        exact ⟨some ⟨g5, 0, none⟩, cp5, congrArg (fun n => Ending.returned (.slice (some ⟨g5, 0, none⟩) n cp5)) hsa2, HB5.out, HPS.out⟩

end Go.Proofs.Ythhpijmkhhdhhaa
