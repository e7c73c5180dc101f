/- The reference's right. -/
import Derived.Test.YthhpijmkhhdhhaaRefF
namespace Go.Proofs.Ythhpijmkhhdhhaa
open Go.RowKit
set_option linter.unusedVariables false
set_option linter.unusedSimpArgs false

theorem quietN {f : FuncId} {args : Array Value} {v : Value} (h : ∀ W, Calls Try.prog f args W fun e w' => e = .returned v ∧ W = w') (W : World) (n : Nat) : Calls Try.prog f args (W.drewN n) fun e w'' => e = .returned v ∧ ∃ m, w'' = W.drewN m :=
  (h (W.drewN n)).mono fun _ _ ⟨he, hm⟩ => ⟨he, n, hm.symm⟩
theorem first_contains (c : UInt8) (l : List UInt8) : decide (firstN [c] l < l.length) = l.contains c := by
  induction l with
  | nil => rfl
  | cons x r ih =>
    rw [firstN_cons, List.length_cons]
    by_cases h : x = c
    · subst h; simp
    · rw [if_neg (by simpa using h), List.contains_cons, show (c == x) = false by rw [beq_eq_false_iff_ne]; exact fun e => h e.symm, Bool.false_or, ← ih, decide_eq_decide]
      omega

set_option maxHeartbeats 4000000 in
set_option maxRecDepth 1000000 in
theorem right_any (r : RefB) (w : World) (hA : r.A.size ≤ 100000) (hP : r.Pa.size ≤ 100000) (hQ : r.Q.size ≤ 100000) (hF : r.F.size ≤ 100000) :
    Calls Try.prog 128 #[r.val] w fun e w' => e = .returned (.bool (wellL r.toV)) ∧ Below w.heap.size w w' := by
  obtain ⟨S, A, Pa, Q, F, ha, hq, hf⟩ := r
  simp only at hA hP hQ hF
  have B1 := Lib.hid (fun W n => quietN (fun W => rOf_all A ⟨#[91, 93]⟩ W (by decide) (by omega)) W n)
  have B2 := Lib.hid (fun W n => quietN (fun W => rOf_all Pa ⟨#[47]⟩ W (by decide) (by omega)) W n)
  have B3 := Lib.hid (fun W n => quietN (fun W => rOf_all Q ⟨#[47, 63]⟩ W (by decide) (by omega)) W n)
  have B4 := Lib.hid (fun W n => quietN (fun W => rOf_all F ⟨#[47, 63]⟩ W (by decide) (by omega)) W n)
  have C1 := Lib.hid (fun W n => quietN (fun W => first_any A ⟨#[64]⟩ W (by omega) (by decide)) W n)
  have CF := Lib.hid (fun W => first_any Pa ⟨#[58, 47]⟩ W (by omega) (by decide))
  rw [show (⟨#[91, 93]⟩ : ByteArray).data.toList = [91, 93] from rfl] at B1
  rw [show (⟨#[47]⟩ : ByteArray).data.toList = [47] from rfl] at B2
  rw [show (⟨#[47, 63]⟩ : ByteArray).data.toList = [47, 63] from rfl] at B3 B4
  rw [show (⟨#[64]⟩ : ByteArray).data.toList = [64] from rfl] at C1
  rw [show (⟨#[58, 47]⟩ : ByteArray).data.toList = [58, 47] from rfl] at CF
  obtain ⟨fi, hfi⟩ : ∃ fi, firstN [64] A.data.toList = fi := ⟨_, rfl⟩
  have hk1 : A.data.toList.contains 64 = decide (fi < A.size) := by rw [← first_contains, hfi, ← Lib.size_eq]
  rw [hfi] at C1
  obtain ⟨p1, hp1⟩ : ∃ p1, pctL (pathQ [91, 93]) A.data.toList = p1 := ⟨_, rfl⟩
  obtain ⟨p2, hp2⟩ : ∃ p2, pctL (pathQ [47]) Pa.data.toList = p2 := ⟨_, rfl⟩
  obtain ⟨p3, hp3⟩ : ∃ p3, pctL (pathQ [47, 63]) Q.data.toList = p3 := ⟨_, rfl⟩
  obtain ⟨p4, hp4⟩ : ∃ p4, pctL (pathQ [47, 63]) F.data.toList = p4 := ⟨_, rfl⟩
  obtain ⟨k1, hk1'⟩ : ∃ k1, decide ((fi : Int) < (A.size : Int)) = k1 := ⟨_, rfl⟩
  have hk1'' : decide (fi < A.size) = k1 := by rw [← hk1', decide_eq_decide]; omega
  rw [hk1''] at hk1
  obtain ⟨k2, hk2⟩ : ∃ k2, (Pa.data.toList.take (firstN [47] Pa.data.toList)).contains 58 = k2 := ⟨_, rfl⟩
  obtain ⟨k3, hk3⟩ : ∃ k3, Lib.hasPrefix Pa.data.toList [47, 47] = k3 := ⟨_, rfl⟩
  have hv : wellL (⟨S, A, Pa, Q, F, ha, hq, hf⟩ : RefB).toV = (if (!p1 || k1 || !p2 || !p3 || !p4) then false else if ha then Pa.data.toList.isEmpty || Pa.data.toList.head? == some 47 else if k3 then false else !S.data.toList.isEmpty || !k2) := by
    unfold wellL RefB.toV
    simp only []
    rw [hp1, hp2, hp3, hp4, hk1, hk3, hk2]
  rw [hp1] at B1
  rw [hp2] at B2
  rw [hp3] at B3
  rw [hp4] at B4
  have hfc := first_colon Pa.data.toList
  rw [hk2] at hfc
  obtain ⟨c, hc⟩ : ∃ c, firstN [58, 47] Pa.data.toList = c := ⟨_, rfl⟩
  rw [hc, ← Lib.size_eq] at hfc
  rw [hc] at CF
  have hcl : c ≤ Pa.size := by rw [← hc, Lib.size_eq]; exact firstN_le _ _
  have HV := Lib.hid hv; have HK3 := Lib.hid hk3; have HFC := Lib.hid hfc; clear hv hp1 hp2 hp3 hp4 hk1 hk1'' hk2 hk3 hfi hc hfc
  have HE := Lib.hid (Lib.toList_data S); have HEP := Lib.hid (Lib.toList_data Pa)
  have r1 : RefAt (w.alloc (.cells (⟨S, A, Pa, Q, F, ha, hq, hf⟩ : RefB).cells 95)) w.heap.size ⟨S, A, Pa, Q, F, ha, hq, hf⟩ := refAt_new w _
  have hb1 : Below w.heap.size w (w.alloc (.cells (⟨S, A, Pa, Q, F, ha, hq, hf⟩ : RefB).cells 95)) := (Below.refl _ _).alloc (Nat.le_refl _) _
  have R1 := Lib.hid r1; have HB1 := Lib.hid hb1
  obtain ⟨c0, c1, c2, c3, c4, c5, c6, c7⟩ := ref_cells r1
  clear r1 hb1
  show Calls Try.prog 128 #[.agg #[.string S, .string A, .string Pa, .string Q, .string F, .bool ha, .bool hq, .bool hf]] w _
  go_enter Try.func128, Try.ntmps128
  go_upto_region 1 with fail
  obtain ⟨w1, hw1⟩ : ∃ w1, w.alloc (.cells (⟨S, A, Pa, Q, F, ha, hq, hf⟩ : RefB).cells 95) = w1 := ⟨_, rfl⟩
  rw [hw1] at R1 HB1
  unfold RefB.cells at hw1 c0 c1 c2 c3 c4 c5 c6 c7
  simp only at hw1 c0 c1 c2 c3 c4 c5 c6 c7
  rw [hw1] at c0 c1 c2 c3 c4 c5 c6 c7 ⊢
  clear hw1
  go_cut [34] (fun c wx => c = .bool (!p1 || k1 || !p2 || !p3 || !p4) ∧ Below w.heap.size w wx ∧ RefAt wx w.heap.size ⟨S, A, Pa, Q, F, ha, hq, hf⟩)
  case first =>
    cases p1 with
    | false =>
      go_wp2_with fail
      go_quiet (first | (go_at_call 142; first | with_reducible exact B1.out _ _ | with_reducible exact B2.out _ _ | with_reducible exact B3.out _ _ | with_reducible exact B4.out _ _) | (go_at_call 126; exact C1.out _ _))
      go_wp2_with fail
      go_meet
      exact ⟨rfl, below_drewN HB1.out _, refAt_drewN R1.out _⟩
    | true =>
      cases k1 with
      | true =>
        have g1 : (fi : Int) < (A.size : Int) := of_decide_eq_true hk1'
        have g2 : fi < A.size := by omega
        go_wp2_with fail
        go_quiet (first | (go_at_call 142; first | with_reducible exact B1.out _ _ | with_reducible exact B2.out _ _ | with_reducible exact B3.out _ _ | with_reducible exact B4.out _ _) | (go_at_call 126; exact C1.out _ _))
        go_wp2_with fail
        go_meet
        exact ⟨rfl, below_drewN HB1.out _, refAt_drewN R1.out _⟩
      | false =>
        have g1 : ¬ (fi : Int) < (A.size : Int) := of_decide_eq_false hk1'
        have g2 : decide (fi < A.size) = false := decide_eq_false (by omega)
        have g3 : A.size ≤ fi := by omega
        cases p2 with
        | false =>
          go_wp2_with fail
          go_quiet (first | (go_at_call 142; first | with_reducible exact B1.out _ _ | with_reducible exact B2.out _ _ | with_reducible exact B3.out _ _ | with_reducible exact B4.out _ _) | (go_at_call 126; exact C1.out _ _))
          go_wp2_with fail
          go_meet
          exact ⟨rfl, below_drewN HB1.out _, refAt_drewN R1.out _⟩
        | true =>
          cases p3 with
          | false =>
            go_wp2_with fail
            go_quiet (first | (go_at_call 142; first | with_reducible exact B1.out _ _ | with_reducible exact B2.out _ _ | with_reducible exact B3.out _ _ | with_reducible exact B4.out _ _) | (go_at_call 126; exact C1.out _ _))
            go_wp2_with fail
            go_meet
            exact ⟨rfl, below_drewN HB1.out _, refAt_drewN R1.out _⟩
          | true =>
            cases p4 with
            | false =>
              go_wp2_with fail
              go_quiet (first | (go_at_call 142; first | with_reducible exact B1.out _ _ | with_reducible exact B2.out _ _ | with_reducible exact B3.out _ _ | with_reducible exact B4.out _ _) | (go_at_call 126; exact C1.out _ _))
              go_wp2_with fail
              go_meet
              exact ⟨rfl, below_drewN HB1.out _, refAt_drewN R1.out _⟩
            | true =>
              go_wp2_with fail
              go_quiet (first | (go_at_call 142; first | with_reducible exact B1.out _ _ | with_reducible exact B2.out _ _ | with_reducible exact B3.out _ _ | with_reducible exact B4.out _ _) | (go_at_call 126; exact C1.out _ _))
              go_wp2_with fail
              go_meet
              exact ⟨rfl, below_drewN HB1.out _, refAt_drewN R1.out _⟩
  case rest =>
    obtain ⟨rfl, hb3, r3⟩ := hcut
    have R3 := Lib.hid r3; have HB3 := Lib.hid hb3
    clear r3 hb3 c0 c1 c2 c3 c4 c5 c6 c7 R1 HB1 B1 B2 B3 B4 C1 hk1'
    obtain ⟨bad, hbad⟩ : ∃ bad, (!p1 || k1 || !p2 || !p3 || !p4) = bad := ⟨_, rfl⟩
    rw [hbad] at HV ⊢
    clear hbad
    obtain ⟨c0, c1, c2, c3, c4, c5, c6, c7⟩ := ref_cells R3.out
    cases bad with
    | true =>
      go_wp2_with fail
      go_ret
      exact ⟨ret_bool (by rw [HV.out]; rfl), HB3.out⟩
    | false =>
      cases ha with
      | true =>
        by_cases h0 : Pa.size = 0
        · have h1 := empty_of_size Pa h0
          have h2 : Pa.toList.isEmpty = true := by rw [h1]; rfl
          have HN : Hid (Pa.data.toList = []) := Lib.hid (size0 Pa h0)
          clear h1 h0
          go_wp2_with fail
          go_ret
          exact ⟨ret_bool (by rw [HV.out, HN.out]; rfl), HB3.out⟩
        · have hpos : 0 < Pa.size := by omega
          have h1 := nonempty_of_size Pa hpos
          have hl : Pa.data.toList = Pa[0] :: Pa.data.toList.drop 1 := by
            have := drop_cons Pa 0 hpos
            simpa using this
          have g0 : (0 : Int) < (Pa.size : Int) := by omega
          have hh : (Pa.data.toList.head? == some 47) = ((Pa[0].toNat : Int) == 47) := by
            rw [hl, List.head?_cons, Bool.eq_iff_iff]
            simp only [beq_iff_eq, Option.some.injEq]
            constructor
            · intro e; rw [e]; rfl
            · intro e; exact UInt8.toNat_inj.1 (by rw [show (47 : UInt8).toNat = 47 from rfl]; omega)
          have hem : Pa.data.toList.isEmpty = false := by rw [← HEP.out]; exact h1
          have HH := Lib.hid hh; have HM := Lib.hid hem; clear hh hem hl h0
          go_wp2_with fail
          go_ret
          exact ⟨ret_bool (by rw [HV.out, HM.out, HH.out]; rfl), HB3.out⟩
      | false =>
        have h2pre : k3 = (decide (1 < Pa.size) && ((Pa.extract 0 2).toList == [47, 47])) := by
          rw [← HK3.out, hasPrefix_take, Lib.toList_data, extract_mkB0, mkB_data]
          rcases Nat.lt_or_ge 1 Pa.size with h | h
          · rw [decide_eq_true h]; rfl
          · rw [decide_eq_false (by omega), Bool.false_and, beq_eq_false_iff_ne]
            intro e
            have := congrArg List.length e
            rw [List.length_take, ← Lib.size_eq] at this
            simp at this
            omega
        obtain ⟨ex, hex⟩ : ∃ ex, Pa.extract 0 2 = ex := ⟨_, rfl⟩
        rw [hex] at h2pre
        cases k3 with
        | true =>
          have hgt : 1 < Pa.size := by
            rcases Nat.lt_or_ge 1 Pa.size with h | h
            · exact h
            · rw [decide_eq_false (by omega)] at h2pre; simp at h2pre
          have hq2 : (ex.toList == [47, 47]) = true := by rw [decide_eq_true hgt, Bool.true_and] at h2pre; exact h2pre.symm
          have g1 : (1 : Int) < (Pa.size : Int) := by omega
          have g2 : 2 ≤ Pa.size := by omega
          have g3 : (2 : Int) ≤ (Pa.size : Int) := by omega
          clear h2pre
          go_wp2_with fail
          go_ret
          exact ⟨ret_bool (by rw [HV.out]; rfl), HB3.out⟩
        | false =>
          have H2 := Lib.hid h2pre; clear h2pre
          go_upto_region 5 with fail
          go_cut [55] (fun t wx => t = .bool false ∧ Below w.heap.size w wx ∧ RefAt wx w.heap.size ⟨S, A, Pa, Q, F, false, hq, hf⟩)
          case first =>
            by_cases hgt : 1 < Pa.size
            · have hq2 : (ex.toList == [47, 47]) = false := by have := H2.out; rw [decide_eq_true hgt, Bool.true_and] at this; exact this.symm
              have g1 : (1 : Int) < (Pa.size : Int) := by omega
              have g2 : 2 ≤ Pa.size := by omega
              have g3 : (2 : Int) ≤ (Pa.size : Int) := by omega
              go_wp2_with fail
              go_meet
              exact ⟨rfl, HB3.out, R3.out⟩
            · have g1 : decide ((1 : Int) < (Pa.size : Int)) = false := decide_eq_false (by omega)
              go_wp2_with fail
              go_meet
              exact ⟨rfl, HB3.out, R3.out⟩
          case rest =>
            obtain ⟨rfl, hb4, r4⟩ := hcut
            have R4 := Lib.hid r4; have HB4 := Lib.hid hb4
            clear r4 hb4 c0 c1 c2 c3 c4 c5 c6 c7 R3 HB3 H2 hex
            obtain ⟨c0, c1, c2, c3, c4, c5, c6, c7⟩ := ref_cells R4.out
            cases hse : S.toList.isEmpty with
            | false =>
              have HSE : Hid (S.data.toList.isEmpty = false) := Lib.hid (by rw [← HE.out]; exact hse)
              go_wp2_with fail
              (refine (CF.out _).mono ?_; rintro e w' ⟨rfl, rfl⟩; go_wp2_with fail)
              go_ret
              exact ⟨ret_bool (by rw [HV.out, HSE.out]; rfl), HB4.out⟩
            | true =>
              have HSE : Hid (S.data.toList.isEmpty = true) := Lib.hid (by rw [← HE.out]; exact hse)
              by_cases hcs : c = Pa.size
              · have HK2 : Hid (k2 = false) := Lib.hid (by rw [HFC.out, decide_eq_false (by omega)]; rfl)
                have g1 : ((c : Int) == (Pa.size : Int)) = true := by rw [hcs]; simp
                clear hcs
                go_wp2_with fail
                (refine (CF.out _).mono ?_; rintro e w' ⟨rfl, rfl⟩; go_wp2_with fail)
                go_ret
                exact ⟨ret_bool (by rw [HV.out, HSE.out, HK2.out]; rfl), HB4.out⟩
              · have hlt : c < Pa.size := by omega
                have g1 : ((c : Int) == (Pa.size : Int)) = false := by rw [beq_eq_false_iff_ne]; omega
                have g2 : (c : Int) < (Pa.size : Int) := by omega
                have hk2 : k2 = !((Pa[c].toNat : Int) == 47) := by
                  rw [HFC.out, decide_eq_true hlt, Bool.true_and, drop_cons Pa c hlt, List.head?_cons]
                  congr 1
                  rw [Bool.eq_iff_iff]
                  simp only [beq_iff_eq, Option.some.injEq]
                  constructor
                  · intro e; rw [e]; rfl
                  · intro e; exact UInt8.toNat_inj.1 (by rw [show (47 : UInt8).toNat = 47 from rfl]; omega)
                have HK2 := Lib.hid hk2; clear hk2 hcs
                go_wp2_with fail
                (refine (CF.out _).mono ?_; rintro e w' ⟨rfl, rfl⟩; go_wp2_with fail)
                go_ret
                exact ⟨ret_bool (by rw [HV.out, HSE.out, HK2.out]; simp), HB4.out⟩

end Go.Proofs.Ythhpijmkhhdhhaa
