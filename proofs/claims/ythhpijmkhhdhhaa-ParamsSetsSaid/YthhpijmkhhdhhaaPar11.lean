/- The reference's Set of layer 7; ParamsSets. -/
import Derived.Test.YthhpijmkhhdhhaaPar10
import Derived.Laws.AppendOwnNone
namespace Go.Proofs.Ythhpijmkhhdhhaa
open Go.RowKit
set_option linter.unusedVariables false
set_option linter.unusedSimpArgs false

theorem pCells_app (a b : PL) : pCells (a ++ b) = pCells a ++ pCells b := by unfold pCells; rw [List.flatMap_append]

theorem pCells_cell (ps : PL) (j : Nat) (u : Value) (h : (pCells ps)[j]? = some u) : ∃ (k : Nat) (hk : k < ps.length), (j = k * 2 ∧ u = .string (bs ps[k].1)) ∨ (j = k * 2 + 1 ∧ u = .string (bs ps[k].2)) := by
  have hlt : j < ps.length * 2 := by
    have := (List.getElem?_eq_some_iff.1 h).1
    rwa [pCells_len] at this
  refine ⟨j / 2, by omega, ?_⟩
  have h2 := pCells_at ps (j / 2) (by omega)
  rcases Nat.mod_two_eq_zero_or_one j with hm | hm
  · left
    have e : j = j / 2 * 2 := by omega
    refine ⟨e, ?_⟩
    rw [← e] at h2
    exact Option.some.inj (h.symm.trans h2.1)
  · right
    have e : j = j / 2 * 2 + 1 := by omega
    refine ⟨e, ?_⟩
    rw [← e] at h2
    exact Option.some.inj (h.symm.trans h2.2)

/-- append(v, l...) of params onto a row of the call's own. -/
theorem app_pars {ops : Array Oper} {rest : List Oper} {o : Oper} {act : Act} {Q : Exit → Act → World → Prop} (hgd : o.guard = none) (s x : Operand)
    (ho : o.op = .call { callee := .builtin .append, args := #[s, x], argTypes := #[72, 72] })
    (w : World) (base : Nat) (v : Value) (n : Nat) (xs : PL) (hs : act.eval s = v) (hown : w.ownsRow base 85 2 v n (pCells xs))
    (a : Option Addr) (cap : Nat) (ss : PL) (hx : act.eval x = .slice a ss.length cap) (hss : PsAt w a ss) (hcap : a = none → cap = 0)
    (hn : n + ss.length ≤ 1000000) (hbase : base ≤ w.heap.size)
    (h : ∀ v' w', w'.ownsRow base 85 2 v' (n + ss.length) (pCells (xs ++ ss)) → w.grownBy w' v.ownBlock → wpList Try.prog ops Q rest (act.put o.dst v') w') : wpList Try.prog ops Q (o :: rest) act w := by
  obtain ⟨i, hi, hz0, hz1, hz2⟩ := info_parts info_par
  have hlen : (pCells ss).length = ss.length * 2 := pCells_len ss
  have hone : ∀ u ∈ pCells ss, u.oneCell' = true := by
    intro u hu
    obtain ⟨j, hj, rfl⟩ := List.mem_iff_getElem.1 hu
    obtain ⟨k, hk, hc⟩ := pCells_cell ss j _ (List.getElem?_eq_getElem hj)
    rcases hc with ⟨_, h⟩ | ⟨_, h⟩ <;> rw [h] <;> rfl
  rcases ha : a with _ | ad
  · have hnil : ss = [] := by
      rcases hss with h | ⟨g, o', h, _⟩
      · exact h
      · rw [ha] at h; cases h
    subst hnil
    have hc0 := hcap ha
    subst hc0 ha
    exact wpList_append_own_none hgd s x 72 ho base 85 i 2 Try.underlying72 hi v n (pCells xs) hs hown hx
      (h v w (by simpa using hown) ⟨rfl, rfl, rfl, Nat.le_refl _, fun _ _ _ => rfl⟩)
  · subst ha
    refine wpList_append_own w hgd s x 72 ho base 85 i _ 2 32 Try.underlying72 hi hz0 hz1 hz2 (by decide) (by decide) v n (pCells xs) hs hown ad ss.length cap (pCells ss) hx hlen ?_ hone
      (by unfold maxLen; omega) (by omega) hbase fun v' w' h1 h2 _ => h v' w' (by rw [pCells_app]; exact h1) h2
    intro j u hj
    obtain ⟨k, hk, hc⟩ := pCells_cell ss j u hj
    obtain ⟨b, o', had, _, x0, x1⟩ := psAt_at hss k hk
    obtain rfl := Option.some.inj had
    rcases hc with ⟨rfl, rfl⟩ | ⟨rfl, rfl⟩
    · rw [addr_add0]; exact x0
    · rw [addr_add0, ← Nat.add_assoc]; exact x1

theorem setGo_len (nm v : List UInt8) : ∀ (ps : PL) (d : Bool), (setGo nm v d ps).length ≤ ps.length + 1 := by
  intro ps
  induction ps with
  | nil => intro d; cases d <;> simp [setGo]
  | cons p r ih =>
    intro d
    by_cases h : hit nm p = true
    · cases d with
      | true => have := ih true; simp only [setGo, if_pos h, if_true, List.length_cons]; omega
      | false => have := ih true; simp only [setGo, if_pos h, Bool.false_eq_true, if_false, List.length_cons]; omega
    · have := ih d; simp only [setGo, if_neg h, List.length_cons]; omega

theorem setGo_ok (nm v : List UInt8) (h1 : nm.length ≤ 1000) (h2 : v.length ≤ 1000) : ∀ (ps : PL) (d : Bool), (∀ p ∈ ps, p.1.length ≤ 1000 ∧ p.2.length ≤ 1000) → ∀ p ∈ setGo nm v d ps, p.1.length ≤ 1000 ∧ p.2.length ≤ 1000 := by
  intro ps
  induction ps with
  | nil =>
    intro d _ p hp
    cases d with
    | true => simp [setGo] at hp
    | false => simp [setGo] at hp; subst hp; exact ⟨h1, h2⟩
  | cons q r ih =>
    intro d hall p hp
    have hr : ∀ p ∈ r, p.1.length ≤ 1000 ∧ p.2.length ≤ 1000 := fun p hp => hall p (List.mem_cons_of_mem _ hp)
    have hq := hall q (List.mem_cons_self ..)
    by_cases h : hit nm q = true
    · cases d with
      | true => simp only [setGo, if_pos h, if_true] at hp; exact ih true hr p hp
      | false =>
        simp only [setGo, if_pos h, Bool.false_eq_true, if_false] at hp
        rcases List.mem_cons.1 hp with rfl | hp
        · exact ⟨hq.1, h2⟩
        · exact ih true hr p hp
    · simp only [setGo, if_neg h] at hp
      rcases List.mem_cons.1 hp with rfl | hp
      · exact hq
      · exact ih d hr p hp

theorem psAt_one {w : World} {b o : Nat} {ps : PL} (h : PsAt w (some ⟨b, o, none⟩) ps) (k : Nat) (hk : k < ps.length) : PsAt w (some ⟨b, o + k * 2, none⟩) [ps[k]] := by
  obtain ⟨b', o', ha, hb, x0, x1⟩ := psAt_at h k hk
  obtain ⟨rfl, rfl⟩ : b = b' ∧ o = o' := by
    have := Option.some.inj ha
    exact ⟨congrArg (·.block) this, congrArg (·.off) this⟩
  refine .inr ⟨b, o + k * 2, rfl, hb, fun j hj => ?_⟩
  obtain rfl : j = 0 := by simpa using hj
  simpa using ⟨x0, x1⟩

theorem plL_one (nm : List UInt8) (p : List UInt8 × List UInt8) : plL nm [p] = if hit nm p = true then some 0 else none := by
  unfold plL
  split
  · rfl
  · rfl

/-- What the reference's loop keeps. -/
def RSL (w : World) (B : Nat) (nm v : List UInt8) (ps : PL) (K k : Nat) (os : PL) (out : Value) (wr : World) : Prop :=
  Below w.heap.size w wr ∧ wr.ownsRow B 85 2 out os.length (pCells os) ∧ setGo nm v false ps = os ++ setGo nm v (decide (K < k)) (ps.drop k) ∧ os.length ≤ k ∧ B ≤ wr.heap.size

set_option maxRecDepth 100000 in
set_option maxHeartbeats 2000000 in
theorem rSet_any (w : World) (nm vl : ByteArray) (a : Option Addr) (n cap : Nat) (ps : PL) (h : PsAt w a ps) (hcap : a = none → cap = 0) (hnc : ps.length ≤ cap) (hn : n = ps.length) (hok : PsOk ps) (hnm : nm.size ≤ 1000) :
    Calls Try.prog 94 #[.slice a n cap, .string nm, .string vl] w fun e w' => ∃ a' c, e = .returned (.slice a' (setGo nm.data.toList vl.data.toList false ps).length c) ∧ Below w.heap.size w w' ∧ PsAt w' a' (setGo nm.data.toList vl.data.toList false ps) := by
  subst hn
  have PL1 := Lib.hid (place_any w nm a ps.length cap ps h rfl hok hnm)
  have hn3 := hok.1
  have HOK := Lib.hid hok; clear hok
  have HA := Lib.hid h; clear h
  have HCAP := Lib.hid hcap; clear hcap
  have GP := Lib.hid (get_pl nm.data.toList ps)
  obtain ⟨B, hB⟩ : ∃ B, B = w.heap.size := ⟨_, rfl⟩
  have HBB := Lib.hid hB; clear hB
  cases hpl : plL nm.data.toList ps with
  | none =>
    rw [hpl] at PL1
    have SE : Hid (setGo nm.data.toList vl.data.toList false ps = ps ++ [(nm.data.toList, vl.data.toList)]) := Lib.hid (set_none _ _ ps (GP.out.2 hpl).2)
    clear hpl
    go_enter Try.func94, Try.ntmps94
    go_wp2_with fail
    refine PL1.out.mono ?_
    rintro e w1 ⟨rfl, hb1⟩
    have hp1 := psAt_below HA.out hb1
    have hal := (Below.refl w1.heap.size w1).alloc (Nat.le_refl _) (.cells #[] 85)
    have hown : (w1.alloc (.cells #[] 85)).ownsRow w1.heap.size 85 2 (.slice (some ⟨w1.heap.size, 0, none⟩) 0 0) 0 (pCells []) := World.ownsRow_made w1 #[] 0 (Nat.le_refl _) (by decide) rfl
    have hp2 := psAt_below hp1 hal
    have HO := Lib.hid hown; clear hown
    have HP2 := Lib.hid hp2; clear hp2 hp1
    have HB1 := Lib.hid (hb1.trans (hal.mono hb1.size))
    have hz := hb1.size
    clear hb1 hal PL1
    simp only [plI]
    go_wp2_with (at_builtin; refine app_pars (by rfl) (.tmp 15) (.tmp 16) (by rfl) _ w1.heap.size _ 0 [] (by rfl) HO.out a cap ps (by rfl) HP2.out HCAP.out (by omega) (by simp) ?_)
    intro v2 w2 hown2 hg2
    have hb2 : Below w.heap.size w w2 := app_below HB1.out HO.out hg2 hz (by simp; omega)
    have hl2 : w1.heap.size ≤ w2.heap.size := by have := hg2.size; simp at this; omega
    have HO2 := Lib.hid hown2; clear hown2 hg2
    have HB2 := Lib.hid hb2; clear hb2
    go_wp2_with (at_builtin; refine app_par (by rfl) (.tmp 17) (.tmp 21) (by rfl) w2 w1.heap.size _ ps.length (pCells ps) nm vl (by rfl) HO2.out (by rfl) ?_ ?_ ?_)
    · omega
    · exact hl2
    intro g5 cp5 w5 hown5 hg5 hbg5 hgl5
    have hb5 : Below w.heap.size w w5 := app_below HB2.out HO2.out hg5 hz (by have := HB2.out.size; omega)
    have ho5 : w5.ownsRow w1.heap.size 85 2 (.slice (some ⟨g5, 0, none⟩) (ps.length + 1) cp5) (ps ++ [(nm.data.toList, vl.data.toList)]).length (pCells (ps ++ [(nm.data.toList, vl.data.toList)])) := by
      rw [pCells_snoc, List.length_append]; exact hown5
    obtain ⟨sa, sc, hsa, hps, _⟩ := psAt_own ho5
    obtain ⟨hsa1, hsa2, hsa3⟩ := Value.slice.inj hsa
    subst hsa1 hsa3
    have HPS := Lib.hid hps; clear hps hsa ho5 hown5 hg5
    have HB5 := Lib.hid hb5; clear hb5
    go_wp2_with fail
    go_ret
    rw [SE.out]
    exact ⟨some ⟨g5, 0, none⟩, cp5, congrArg (fun n => Ending.returned (.slice (some ⟨g5, 0, none⟩) n cp5)) hsa2, HB5.out, HPS.out⟩
  | some K =>
    rw [hpl] at PL1
    obtain ⟨hKl, hKh, _, hKn⟩ := GP.out.1 K hpl
    have HKN := Lib.hid hKn; clear hKn
    have HKH := Lib.hid hKh; clear hKh
    clear hpl
    go_enter Try.func94, Try.ntmps94
    go_wp2_with fail
    refine PL1.out.mono ?_
    rintro e w1 ⟨rfl, hb1⟩
    have hinv : RSL w B nm.data.toList vl.data.toList ps K 0 [] (.slice none 0 0) w1 := ⟨hb1, World.ownsRow_nil _ _ _ _, by simp, by simp, by have := hb1.size; have := HBB.out; omega⟩
    have HI := Lib.hid hinv; clear hinv hb1 PL1
    have hKd : decide ((K : Int) < 0) = false := decide_eq_false (by omega)
    simp only [plI]
    go_wp2_with fail
    go_loopw [8, 9] (fun out i wr => ∃ (k : Nat) (os : PL), k ≤ ps.length ∧ i = .int .i64 k ∧ Hid (RSL w B nm.data.toList vl.data.toList ps K k os out wr)) (fun _ i _ => ps.length - (intOf i).toNat)
    case atStart => exact ⟨0, [], Nat.zero_le _, rfl, HI.out⟩
    case round =>
      obtain ⟨k, os, hk, rfl, hinv⟩ := hrel
      clear HI
      obtain ⟨hbl, hown, hset, hol, hBl⟩ := hinv.out
      clear hinv
      by_cases hlt : k < ps.length
      · obtain ⟨b, o, rfl, hbs, x0, x1⟩ := psAt_at (psAt_below HA.out hbl) k hlt
        have hone := psAt_one (psAt_below HA.out hbl) k hlt
        have hokp := HOK.out.2 _ (List.getElem_mem hlt)
        have hfirst : k = K → hit nm.data.toList ps[k] = true := fun e => by subst e; exact HKH.out
        have hbef : k < K → hit nm.data.toList ps[k] = false := fun e => HKN.out k e
        rw [ps_drop ps k hlt] at hset
        generalize ps[k] = p at *
        have HST := Lib.hid hset; clear hset
        have HO := Lib.hid hown; clear hown
        have HB := Lib.hid hbl; clear hbl
        have PO := Lib.hid (fun c => place_any wr nm (some ⟨b, o + k * 2, none⟩) 1 c [p] hone rfl ⟨by simp, by intro q hq; simp at hq; subst hq; exact hokp⟩ hnm)
        have hpo := plL_one nm.data.toList p
        clear hone
        by_cases hkK : k = K
        · have hh : sameL p.1 nm.data.toList = true := hfirst hkK
          have hq : ((k : Int) == (K : Int)) = true := by rw [beq_iff_eq]; omega
          have SE : Hid (setGo nm.data.toList vl.data.toList false ps = (os ++ [(p.1, vl.data.toList)]) ++ setGo nm.data.toList vl.data.toList (decide (K < k + 1)) (ps.drop (k + 1))) := Lib.hid (by
            rw [HST.out, show decide (K < k) = false from decide_eq_false (by omega), show decide (K < k + 1) = true from decide_eq_true (by omega), setGo_yes0 hh, List.append_assoc]; rfl)
          clear hh hfirst hbef hkK hpo PO
          go_wp2_with (at_builtin; refine app_par (by rfl) (.tmp 32) (.tmp 40) (by rfl) wr B _ os.length (pCells os) (bs p.1) vl (by rfl) HO.out (by rfl) ?_ ?_ ?_)
          · omega
          · exact hBl
          intro g5 cp5 w5 hown5 hg5 hbg5 hgl5
          have hb5 : Below w.heap.size w w5 := app_below HB.out HO.out hg5 (by rw [HBB.out]; exact Nat.le_refl _) (by have := HB.out.size; omega)
          have ho5 : w5.ownsRow B 85 2 (.slice (some ⟨g5, 0, none⟩) (os.length + 1) cp5) (os ++ [(p.1, vl.data.toList)]).length (pCells (os ++ [(p.1, vl.data.toList)])) := by
            rw [pCells_snoc, List.length_append]; exact hown5
          have hB5 : B ≤ w5.heap.size := own_le HO.out hg5 hBl
          have HB5 := Lib.hid hb5; clear hb5
          have HO5 := Lib.hid ho5; clear ho5 hown5 hg5
          go_wp2_with fail
          go_roundw
          case rel => exact ⟨k + 1, os ++ [(p.1, vl.data.toList)], by omega, by go_num, HB5.out, HO5.out, SE.out, by rw [List.length_append, List.length_singleton]; omega, hB5⟩
          case measure => simp [intOf]; omega
        · have hq : ((k : Int) == (K : Int)) = false := by rw [beq_eq_false_iff_ne]; omega
          have hcp1 : (k : Int) + 1 ≤ (cap : Int) := by omega
          by_cases hh : sameL p.1 nm.data.toList = true
          · have hgt : K < k := by
              rcases Nat.lt_or_ge K k with h | h
              · exact h
              · have := hbef (by omega)
                rw [show hit nm.data.toList p = true from hh] at this; cases this
            rw [if_pos (show hit nm.data.toList p = true from hh)] at hpo
            rw [hpo] at PO
            have SE : Hid (setGo nm.data.toList vl.data.toList false ps = os ++ setGo nm.data.toList vl.data.toList (decide (K < k + 1)) (ps.drop (k + 1))) := Lib.hid (by
              rw [HST.out, show decide (K < k) = true from decide_eq_true hgt, show decide (K < k + 1) = true from decide_eq_true (by omega), setGo_yes1 hh])
            clear hh hfirst hbef hkK hpo hgt
            go_wp2_with fail
            refine (PO.out _).mono ?_
            rintro e w2 ⟨rfl, hb2⟩
            have HO2 := Lib.hid (own_below HO.out hb2)
            have HB2 := Lib.hid (HB.out.trans (hb2.mono HB.out.size))
            have hB2 : B ≤ w2.heap.size := Nat.le_trans hBl hb2.size
            clear hb2
            simp only [plI]
            go_wp2_with fail
            go_roundw
            case rel => exact ⟨k + 1, os, by omega, by go_num, HB2.out, HO2.out, SE.out, by omega, hB2⟩
            case measure => simp [intOf]; omega
          · rw [if_neg (show ¬ hit nm.data.toList p = true from hh)] at hpo
            rw [hpo] at PO
            have SE : Hid (setGo nm.data.toList vl.data.toList false ps = (os ++ [p]) ++ setGo nm.data.toList vl.data.toList (decide (K < k + 1)) (ps.drop (k + 1))) := Lib.hid (by
              rw [HST.out, show decide (K < k + 1) = decide (K < k) from by rw [Bool.eq_iff_iff]; simp; omega, setGo_no hh, List.append_assoc]; rfl)
            clear hh hfirst hbef hkK hpo
            go_wp2_with fail
            refine (PO.out _).mono ?_
            rintro e w2 ⟨rfl, hb2⟩
            have c0 : w2.cell? ⟨b, o + k * 2, none⟩ = some (.string (bs p.1)) := by rw [hb2.cell (by exact hbs)]; exact x0
            have c1 : w2.cell? ⟨b, o + k * 2 + 1, none⟩ = some (.string (bs p.2)) := by rw [hb2.cell (by exact hbs)]; exact x1
            have HO2 := Lib.hid (own_below HO.out hb2)
            have HB2 := Lib.hid (HB.out.trans (hb2.mono HB.out.size))
            have hB2 : B ≤ w2.heap.size := Nat.le_trans hBl hb2.size
            clear hb2 x0 x1
            simp only [plI]
            go_wp2_with (at_builtin; refine app_par (by rfl) (.tmp 50) (.tmp 55) (by rfl) w2 B _ os.length (pCells os) (bs p.1) (bs p.2) (by rfl) HO2.out (by rfl) ?_ ?_ ?_)
            · omega
            · exact hB2
            intro g5 cp5 w5 hown5 hg5 hbg5 hgl5
            have hb5 : Below w.heap.size w w5 := app_below HB2.out HO2.out hg5 (by rw [HBB.out]; exact Nat.le_refl _) (by have := HB2.out.size; omega)
            have ho5 : w5.ownsRow B 85 2 (.slice (some ⟨g5, 0, none⟩) (os.length + 1) cp5) (os ++ [p]).length (pCells (os ++ [p])) := by
              rw [pCells_snoc, List.length_append]; exact hown5
            have hB5 : B ≤ w5.heap.size := own_le HO2.out hg5 hB2
            have HB5 := Lib.hid hb5; clear hb5
            have HO5 := Lib.hid ho5; clear ho5 hown5 hg5
            go_wp2_with fail
            go_roundw
            case rel => exact ⟨k + 1, os ++ [p], by omega, by go_num, HB5.out, HO5.out, SE.out, by rw [List.length_append, List.length_singleton]; omega, hB5⟩
            case measure => simp [intOf]; omega
      · obtain rfl : k = ps.length := by omega
        rw [List.drop_length, show decide (K < ps.length) = true from decide_eq_true hKl] at hset
        have SE : Hid (setGo nm.data.toList vl.data.toList false ps = os) := Lib.hid (by rw [hset]; simp [setGo])
        obtain ⟨sa, sc, hsa, hps, _⟩ := psAt_own hown
        have HPS := Lib.hid hps; clear hps hset hown
        have HB := Lib.hid hbl; clear hbl
        subst hsa
        go_wp2_with fail
        go_ret
        rw [SE.out]
        exact ⟨_, _, rfl, HB.out, HPS.out⟩

end Go.Proofs.Ythhpijmkhhdhhaa
