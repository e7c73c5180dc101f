/- The reference's Left and Parse of layer 7. -/
import Derived.Test.YthhpijmkhhdhhaaPar2
namespace Go.Proofs.Ythhpijmkhhdhhaa
open Go.RowKit
set_option linter.unusedVariables false
set_option linter.unusedSimpArgs false

def leftL (l : List UInt8) : List UInt8 := l.drop (takeN bBlank l)
def strOf (v : Value) : ByteArray := match v with | .string t => t | _ => ⟨#[]⟩

theorem leftL_cons (x : UInt8) (r : List UInt8) (h : bBlank (x.toNat : Int) = true) : leftL (x :: r) = leftL r := by
  unfold leftL takeN
  rw [List.takeWhile_cons_of_pos (by simpa using h)]; rfl
theorem leftL_stop (x : UInt8) (r : List UInt8) (h : bBlank (x.toNat : Int) = false) : leftL (x :: r) = x :: r := by
  unfold leftL takeN
  rw [List.takeWhile_cons_of_neg (by simp [h])]; rfl
theorem leftL_len (l : List UInt8) : (leftL l).length ≤ l.length := by unfold leftL; rw [List.length_drop]; omega

theorem tail_list (t : ByteArray) (h : 0 < t.size) : t.data.toList = t[0] :: (t.extract 1 t.size).data.toList := by
  rw [rest_list]; exact ahead_cons t 0 h
theorem tail_size (t : ByteArray) (h : 0 < t.size) : (t.extract 1 t.size).size = t.size - 1 := by rw [Lib.size_eq, rest_list, ahead_len]

theorem bytes_ext0 {a b : ByteArray} (h : a.data.toList = b.data.toList) : a = b := by apply ByteArray.ext; apply Array.ext'; exact h

set_option maxRecDepth 100000 in
theorem rLeft_any (s : ByteArray) (w : World) (hs : s.size ≤ 1000000) :
    Calls Try.prog 119 #[.string s] w fun e w' => e = .returned (.string ⟨(leftL s.data.toList).toArray⟩) ∧ w = w' := by
  go_enter Try.func119, Try.ntmps119
  go_wp2_with fail
  go_loop [0] (fun v => ∃ t : ByteArray, v = .string t ∧ t.size ≤ s.size ∧ Hid (leftL t.data.toList = leftL s.data.toList)) (fun v => (strOf v).size)
  case atStart => exact ⟨s, rfl, Nat.le_refl _, rfl⟩
  case round =>
    obtain ⟨t, rfl, hts, hl⟩ := hrel
    by_cases h0 : 0 < t.size
    · have hd : decide (0 < (t.size : Int)) = true := by simp; omega
      have h1 : (1 : Int) ≤ t.size := by omega
      have htl := tail_list t h0
      have htz := tail_size t h0
      have HTL := Lib.hid htl; clear htl
      by_cases hb : bBlank (t[0].toNat : Int) = true
      · have hst := leftL_cons t[0] (t.extract 1 t.size).data.toList hb
        rw [← HTL.out] at hst
        have HST := Lib.hid hst; clear hst
        have HB := Lib.hid hb
        go_wp2_with fail
        refine (rBlank_any _ _ (by omega) (by have := t[0].toNat_lt; omega)).mono ?_
        rintro e w' ⟨rfl, rfl⟩
        rw [HB.out]
        go_wp2_with fail
        go_round
        case rel => exact ⟨_, rfl, by omega, by show _ = _; rw [← HST.out]; exact hl.out⟩
        case measure => simp only [strOf]; omega
      · rw [Bool.not_eq_true] at hb
        have hst := leftL_stop t[0] (t.extract 1 t.size).data.toList hb
        rw [← HTL.out] at hst
        have HST := Lib.hid hst; clear hst
        have HB := Lib.hid hb
        go_wp2_with fail
        refine (rBlank_any _ _ (by omega) (by have := t[0].toNat_lt; omega)).mono ?_
        rintro e w' ⟨rfl, rfl⟩
        rw [HB.out]
        go_wp2_with fail
        go_ret
        exact ⟨ret_str (bytes_ext0 (by rw [← hl.out, HST.out])), rfl⟩
    · have hd : decide (0 < (t.size : Int)) = false := decide_eq_false (by omega)
      have hn : t.data.toList = [] := List.length_eq_zero_iff.1 (by have := Lib.size_eq t; omega)
      have HN := Lib.hid hn; clear hn
      go_wp2_with fail
      go_ret
      exact ⟨ret_str (bytes_ext0 (by rw [← hl.out, HN.out]; rfl)), rfl⟩

theorem pstep_none {l : List UInt8} (h1 : oneL l = none) : parseL l = none := by rw [parseL_step, h1]
theorem pstep_end {l : List UInt8} {p : List UInt8 × List UInt8} {N : Nat} (h1 : oneL l = some (p, N)) (hd : l.drop N = []) : parseL l = some [p] := by
  rw [parseL_step, h1]; simp only; rw [if_pos hd]
theorem pstep_no {l : List UInt8} {p : List UInt8 × List UInt8} {N : Nat} (h1 : oneL l = some (p, N)) (hd : l.drop N ≠ []) (hm : moreL (l.drop N) = none) : parseL l = none := by
  rw [parseL_step, h1]; simp only; rw [if_neg hd, hm]
theorem pstep_next {l : List UInt8} {p : List UInt8 × List UInt8} {N m : Nat} (h1 : oneL l = some (p, N)) (hd : l.drop N ≠ []) (hm : moreL (l.drop N) = some m) : parseL l = (parseL ((l.drop N).drop m)).map (p :: ·) := by
  rw [parseL_step, h1]; simp only; rw [if_neg hd, hm, List.drop_drop]

theorem more_of {d e : List UInt8} (h : leftL d = 59 :: e) : ∃ m, moreL d = some m ∧ d.drop m = leftL e := by
  unfold leftL at h
  have h1 : d[takeN bBlank d]? = some 59 := by
    have := congrArg (fun l => l[0]?) h
    simpa using this
  have h2 : d.drop (takeN bBlank d + 1) = e := by
    rw [← List.drop_drop, h]; rfl
  refine ⟨takeN bBlank d + 1 + takeN bBlank (d.drop (takeN bBlank d + 1)), ?_, ?_⟩
  · unfold moreL; rw [if_pos h1]
  · rw [h2, ← List.drop_drop, h2]; rfl

theorem more_not {d : List UInt8} (h : ∀ e, leftL d ≠ 59 :: e) : moreL d = none := by
  unfold moreL
  rw [if_neg]
  intro h1
  obtain ⟨hlt, h2⟩ := List.getElem?_eq_some_iff.1 h1
  refine h (d.drop (takeN bBlank d + 1)) ?_
  unfold leftL
  rw [List.drop_eq_getElem_cons hlt, h2]

theorem mk_self (t : ByteArray) : (⟨t.data.toList.toArray⟩ : ByteArray) = t := bytes_ext0 rfl

/-- What the reference's loop keeps. -/
def RPL (w : World) (s : ByteArray) (B : Nat) (t : ByteArray) (ps : PL) (out : Value) (wr : World) : Prop :=
  Below w.heap.size w wr ∧ wr.ownsRow B 85 2 out ps.length (pCells ps) ∧ parseL s.data.toList = (parseL t.data.toList).map (ps ++ ·) ∧ ps.length + t.size ≤ s.size ∧ B ≤ wr.heap.size

set_option maxRecDepth 100000 in
set_option maxHeartbeats 4000000 in
theorem rParse_any (s : ByteArray) (w : World) (hs : s.size ≤ 100000) :
    Calls Try.prog 86 #[.string s] w (ParsePost w (parseL s.data.toList)) := by
  obtain ⟨B, hB⟩ : ∃ B, B = w.heap.size := ⟨_, rfl⟩
  have hinv : RPL w s B s [] (.slice none 0 0) w := ⟨Below.refl _ _, World.ownsRow_nil _ _ _ _, by simp, by simp, by omega⟩
  have HI := Lib.hid hinv; clear hinv
  have HBB := Lib.hid hB; clear hB
  go_enter Try.func86, Try.ntmps86
  go_wp2_with fail
  go_loopw [0, 4, 5, 6, 7] (fun sv out _ _ _ wr => ∃ (t : ByteArray) (ps : PL), sv = .string t ∧ t.size ≤ s.size ∧ Hid (RPL w s B t ps out wr)) (fun sv _ _ _ _ _ => (strOf sv).size)
  case atStart => exact ⟨s, [], rfl, Nat.le_refl _, HI.out⟩
  case round =>
    obtain ⟨t, ps, rfl, hts, hinv⟩ := hrel
    clear HI
    go_wp2_with fail
    go_loop [5] (fun i => ∃ k : Nat, k ≤ t.size ∧ i = .int .i64 k ∧ Hid (∀ x ∈ (ahead t 0).take (k - 0), bTok (x.toNat : Int) = true)) (fun i => t.size - (intOf i).toNat)
    case atStart => exact ⟨0, Nat.zero_le _, rfl, by intro x hx; simp at hx⟩
    case round =>
      obtain ⟨k, hk, rfl, hall⟩ := hrel
      by_cases hlt : k < t.size
      · have hb1 : ((t[k].toNat : Nat) : Int) ≤ 255 := by have := t[k].toNat_lt; omega
        by_cases hv : bTok (t[k].toNat : Int) = true
        · have HV := Lib.hid hv
          go_wp2_with fail
          refine (rTok_any _ _ (by omega) hb1).mono ?_
          rintro e w' ⟨rfl, rfl⟩
          rw [HV.out]
          go_wp2_with fail
          go_round
          case rel =>
            refine ⟨k + 1, by omega, by go_num, ?_⟩
            rw [ahead_take_succ t 0 k (Nat.zero_le _) hlt]
            intro x hx
            rcases List.mem_append.1 hx with h | h
            · exact hall.out x h
            · simp at h; subst h; exact HV.out
          case measure => simp [intOf]; omega
        · rw [Bool.not_eq_true] at hv
          have HT := Lib.hid (takeN_step bTok t 0 k hlt hall.out (Nat.zero_le _) hv)
          rw [Nat.sub_zero] at HT
          have HV := Lib.hid hv; clear hv
          obtain ⟨hb0, ho0, hp0, hl0, hB0⟩ := hinv.out
          have hone : oneL t.data.toList = if 0 < k ∧ t.data.toList[k]? = some 61 then (wordL (t.data.toList.drop (k + 1))).map fun p => ((t.data.toList.take k, p.1), k + 1 + p.2) else none := by
            unfold oneL; rw [← ahead0, HT.out]
          have hge : t.data.toList[k]? = some t[k] := by rw [List.getElem?_eq_getElem (by simpa using hlt)]; rfl
          rw [hge, show t.data.toList.drop (k + 1) = ahead t (k + 1) from rfl] at hone
          have HON := Lib.hid hone; clear hone hge
          have HP := Lib.hid hp0; clear hp0
          have HO := Lib.hid ho0; clear ho0
          have HB := Lib.hid hb0; clear hb0
          have hks : ((k : Int) == (t.size : Int)) = false := by rw [beq_eq_false_iff_ne]; omega
          by_cases hk0 : k = 0
          · have hk0d : ((k : Int) == 0) = true := by rw [hk0]; rfl
            have hn := HON.out
            rw [if_neg (by omega)] at hn
            have HN : Hid (parseL s.data.toList = none) := Lib.hid (by rw [HP.out, pstep_none hn]; rfl)
            clear hn hk0
            go_wp2_with fail
            refine (rTok_any _ _ (by omega) hb1).mono ?_
            rintro e w' ⟨rfl, rfl⟩
            rw [HV.out]
            go_wp2_with fail
            go_ret2
            rw [HN.out]
            exact ⟨_, rfl, hinv.out.1, World.ownsRow_nil _ _ _ _⟩
          · have hk0d : ((k : Int) == 0) = false := by rw [beq_eq_false_iff_ne]; omega
            by_cases h61 : ((t[k].toNat : Int) == 61) = true
            · have h61n : ((t[k].toNat : Int) != 61) = false := by simp at h61; simp [h61]
              have hn := HON.out
              have e61 : t[k] = 61 := UInt8.toNat_inj.1 (by have := eq_of_beq h61; have e : (61 : UInt8).toNat = 61 := rfl; omega)
              rw [if_pos ⟨by omega, by rw [e61]⟩] at hn
              obtain ⟨o, ho⟩ : ∃ o, wordL (ahead t (k + 1)) = o := ⟨_, rfl⟩
              rw [ho] at hn
              have hrl := rest_list t (k + 1)
              have hrs : (t.extract (k + 1) t.size).size ≤ 1000000 := by rw [Lib.size_eq, hrl, ahead_len]; omega
              have WD := Lib.hid (fun w => rWord_any (t.extract (k + 1) t.size) w hrs)
              rw [hrl, ho] at WD
              have hofit : ∀ q, o = some q → 0 < q.2 ∧ k + 1 + q.2 ≤ t.size := fun q hq => by
                have := wordL_fits (ho.trans hq)
                rw [ahead_len] at this
                omega
              have hk1 : ((k : Int) + 1) ≤ t.size := by omega
              have HOF := Lib.hid hofit; clear hofit ho hrl hrs e61 h61
              have HN1 := Lib.hid hn; clear hn HON
              cases o with
              | none =>
                have HN : Hid (parseL s.data.toList = none) := Lib.hid (by rw [HP.out, pstep_none HN1.out]; rfl)
                go_wp2_with fail
                refine (rTok_any _ _ (by omega) hb1).mono ?_
                rintro e w' ⟨rfl, rfl⟩
                rw [HV.out]
                go_wp2_with fail
                refine (WD.out _).mono ?_
                rintro e w' ⟨rfl, rfl⟩
                simp only [FrontRef, oT, oN]
                go_wp2_with fail
                go_ret2
                rw [HN.out]
                exact ⟨_, rfl, hinv.out.1, World.ownsRow_nil _ _ _ _⟩
              | some q =>
                obtain ⟨hq0, hqf⟩ := HOF.out q rfl
                have hq0d : ((q.2 : Int) == 0) = false := by rw [beq_eq_false_iff_ne]; omega
                have hN1 := HN1.out
                simp only [Option.map_some] at hN1
                obtain ⟨p, hp⟩ : ∃ p, (t.data.toList.take k, q.1) = p := ⟨_, rfl⟩
                rw [hp] at hN1
                have hu1 : t.extract 0 k = ⟨p.1.toArray⟩ := by
                  have := extract_ahead t 0 k
                  rw [Nat.zero_add, ahead0] at this
                  rw [this, ← hp]
                have hu2 : (⟨q.1.toArray⟩ : ByteArray) = ⟨p.2.toArray⟩ := by rw [← hp]
                have HU1 := Lib.hid hu1; clear hu1
                have HU2 := Lib.hid hu2; clear hu2
                have HN2 := Lib.hid hN1; clear hN1 HN1 hp HOF
                have hsum : IntKind.i64.wrap ((k : Int) + 1 + (q.2 : Int)) = (k : Int) + 1 + (q.2 : Int) := IntWalk.i64_in _ (by omega)
                have hcut : (k : Int) + 1 + (q.2 : Int) ≤ t.size := by omega
                go_wp2_with fail
                refine (rTok_any _ _ (by omega) hb1).mono ?_
                rintro e w' ⟨rfl, rfl⟩
                rw [HV.out]
                go_wp2_with fail
                refine (WD.out _).mono ?_
                rintro e w' ⟨rfl, rfl⟩
                simp only [FrontRef, oT, oN]
                go_wp2_with (at_builtin; refine app_par (by rfl) (.tmp 44) (.tmp 50) (by rfl) wr B _ ps.length (pCells ps) (t.extract 0 k) ⟨q.1.toArray⟩ (by rfl) HO.out (by rfl) ?_ ?_ ?_)
                · omega
                · exact hB0
                intro g5 cp5 w5 hown5 hg5 hbg5 hgl5
                have hb5 : Below w.heap.size w w5 := app_below HB.out HO.out hg5 (by rw [HBB.out]; exact Nat.le_refl _) HB.out.size
                have ho5 : w5.ownsRow B 85 2 (.slice (some ⟨g5, 0, none⟩) (ps.length + 1) cp5) (ps ++ [p]).length (pCells (ps ++ [p])) := by
                  rw [pCells_snoc, ← HU1.out, ← HU2.out, List.length_append]; exact hown5
                have hB5 : B ≤ w5.heap.size := Nat.le_trans hB0 hg5.size
                have HB5 := Lib.hid hb5; clear hb5
                have HO5 := Lib.hid ho5; clear ho5 hown5 hg5
                have hne : (t.extract (k + 1 + q.2) t.size).toList.isEmpty = decide (t.size ≤ k + 1 + q.2) := extract_empty t _
                have hdl : t.data.toList.drop (k + 1 + q.2) = ahead t (k + 1 + q.2) := rfl
                obtain ⟨d, hd⟩ : ∃ d, ahead t (k + 1 + q.2) = d := ⟨_, rfl⟩
                have hdlen : d.length = t.size - (k + 1 + q.2) := by rw [← hd, ahead_len]
                rw [hd] at hdl
                have h1l : (t.extract (k + 1 + q.2) t.size).data.toList = d := by rw [rest_list, hd]
                have h1s : (t.extract (k + 1 + q.2) t.size).size ≤ 1000000 := by rw [Lib.size_eq, h1l, hdlen]; omega
                have HDL := Lib.hid hdl; clear hdl hd
                have H1L := Lib.hid h1l; clear h1l
                by_cases hend : t.size ≤ k + 1 + q.2
                · rw [decide_eq_true hend] at hne
                  have hd0 : d = [] := List.length_eq_zero_iff.1 (by omega)
                  have HN : Hid (parseL s.data.toList = some (ps ++ [p])) := Lib.hid (by rw [HP.out, pstep_end HN2.out (by rw [HDL.out, hd0])]; rfl)
                  clear hd0 hdlen
                  go_wp2_with fail
                  go_ret2
                  rw [HN.out]
                  exact ⟨_, rfl, HB5.out, by rw [← HBB.out]; exact HO5.out⟩
                · rw [decide_eq_false hend] at hne
                  have hd0 : d ≠ [] := fun e => by rw [e] at hdlen; simp at hdlen; omega
                  have LF := Lib.hid (rLeft_any (t.extract (k + 1 + q.2) t.size) w5 h1s)
                  rw [H1L.out] at LF
                  obtain ⟨t2, ht2⟩ : ∃ t2 : ByteArray, (⟨(leftL d).toArray⟩ : ByteArray) = t2 := ⟨_, rfl⟩
                  have h2l : t2.data.toList = leftL d := by rw [← ht2]
                  have h2s : t2.size ≤ d.length := by rw [Lib.size_eq, h2l]; exact leftL_len d
                  rw [ht2] at LF
                  have H2L := Lib.hid h2l; clear h2l ht2
                  have HD0 := Lib.hid hd0; clear hd0
                  have hne1 : decide (t.size ≤ k + 1 + q.2) = false := decide_eq_false hend
                  have HDN := Lib.hid hdlen; clear hdlen
                  have h2s : t2.size ≤ t.size - (k + 1 + q.2) := by rw [← HDN.out]; exact h2s
                  by_cases h20 : t2.size = 0
                  · have hE : t2.toList.isEmpty = true := by rw [Lib.toList_data, List.isEmpty_iff_length_eq_zero, ← Lib.size_eq]; exact h20
                    have h2n : leftL d = [] := by rw [← H2L.out]; exact List.length_eq_zero_iff.1 (by rw [← Lib.size_eq]; exact h20)
                    have HN : Hid (parseL s.data.toList = none) := Lib.hid (by rw [HP.out, pstep_no HN2.out (by rw [HDL.out]; exact HD0.out) (by rw [HDL.out]; exact more_not (fun e => by rw [h2n]; simp))]; rfl)
                    clear h2n
                    go_wp2_with fail
                    refine LF.out.mono ?_
                    rintro e w' ⟨rfl, rfl⟩
                    go_wp2_with fail
                    go_ret2
                    rw [HN.out]
                    exact ⟨_, rfl, HB5.out, World.ownsRow_nil _ _ _ _⟩
                  · have h2p : 0 < t2.size := by omega
                    have hE : t2.toList.isEmpty = false := by rw [Bool.eq_false_iff]; intro e; rw [Lib.toList_data, List.isEmpty_iff_length_eq_zero, ← Lib.size_eq] at e; exact h20 e
                    have htl := tail_list t2 h2p
                    rw [H2L.out] at htl
                    have HTL := Lib.hid htl; clear htl
                    have h2p1 : (1 : Int) ≤ t2.size := by omega
                    by_cases h59 : ((t2[0].toNat : Int) == 59) = true
                    · have h59n : ((t2[0].toNat : Int) != 59) = false := by simp at h59; simp [h59]
                      have e59 : t2[0] = 59 := UInt8.toNat_inj.1 (by have := eq_of_beq h59; have e : (59 : UInt8).toNat = 59 := rfl; omega)
                      have hml := HTL.out
                      rw [e59] at hml
                      obtain ⟨m, hm, hmd⟩ := more_of hml
                      have h3s : (t2.extract 1 t2.size).size ≤ 1000000 := by rw [tail_size t2 h2p]; omega
                      have h3z := tail_size t2 h2p
                      have L2 := Lib.hid (rLeft_any (t2.extract 1 t2.size) w5 h3s)
                      obtain ⟨t3, ht3⟩ : ∃ t3 : ByteArray, (⟨(leftL (t2.extract 1 t2.size).data.toList).toArray⟩ : ByteArray) = t3 := ⟨_, rfl⟩
                      have h3l : t3.data.toList = leftL (t2.extract 1 t2.size).data.toList := by rw [← ht3]
                      have h3t : t3.size ≤ t2.size - 1 := by rw [← h3z, Lib.size_eq, h3l, Lib.size_eq (t2.extract 1 t2.size)]; exact leftL_len _
                      rw [ht3] at L2
                      have hfin : parseL s.data.toList = (parseL t3.data.toList).map ((ps ++ [p]) ++ ·) := by
                        rw [HP.out, pstep_next HN2.out (by rw [HDL.out]; exact HD0.out) (by rw [HDL.out]; exact hm), HDL.out, hmd, ← h3l, Option.map_map]
                        congr 1
                        funext q
                        simp
                      have HR : Hid (RPL w s B t3 (ps ++ [p]) (.slice (some ⟨g5, 0, none⟩) (ps.length + 1) cp5) w5) := Lib.hid ⟨HB5.out, HO5.out, hfin, by rw [List.length_append, List.length_singleton]; omega, hB5⟩
                      clear hfin h3l ht3 hmd hm hml e59 h59 h3z
                      go_wp2_with fail
                      refine LF.out.mono ?_
                      rintro e w' ⟨rfl, rfl⟩
                      go_wp2_with fail
                      refine L2.out.mono ?_
                      rintro e w' ⟨rfl, rfl⟩
                      go_wp2_with fail
                      go_roundw
                      case rel => exact ⟨t3, ps ++ [p], rfl, by omega, HR.out⟩
                      case measure => simp only [strOf]; omega
                    · rw [Bool.not_eq_true] at h59
                      have h59n : ((t2[0].toNat : Int) != 59) = true := by simp at h59; simp [h59]
                      have HN : Hid (parseL s.data.toList = none) := Lib.hid (by rw [HP.out, pstep_no HN2.out (by rw [HDL.out]; exact HD0.out) (by rw [HDL.out]; exact more_not (fun e => by rw [HTL.out]; intro h; have := (List.cons.inj h).1; rw [this] at h59; cases h59))]; rfl)
                      clear h59
                      go_wp2_with fail
                      refine LF.out.mono ?_
                      rintro e w' ⟨rfl, rfl⟩
                      go_wp2_with fail
                      go_ret2
                      rw [HN.out]
                      exact ⟨_, rfl, HB5.out, World.ownsRow_nil _ _ _ _⟩
            · rw [Bool.not_eq_true] at h61
              have h61n : ((t[k].toNat : Int) != 61) = true := by simp at h61; simp [h61]
              have hn := HON.out
              rw [if_neg (fun h => by have := Option.some.inj h.2; rw [this] at h61; cases h61)] at hn
              have HN : Hid (parseL s.data.toList = none) := Lib.hid (by rw [HP.out, pstep_none hn]; rfl)
              clear hn h61
              go_wp2_with fail
              refine (rTok_any _ _ (by omega) hb1).mono ?_
              rintro e w' ⟨rfl, rfl⟩
              rw [HV.out]
              go_wp2_with fail
              go_ret2
              rw [HN.out]
              exact ⟨_, rfl, hinv.out.1, World.ownsRow_nil _ _ _ _⟩
      · obtain rfl : k = t.size := by omega
        have HT := Lib.hid (takeN_end bTok t 0 hall.out)
        rw [Nat.sub_zero] at HT
        have hge : t.data.toList[t.size]? = none := by rw [List.getElem?_eq_none (by rw [← Lib.size_eq]; exact Nat.le_refl _)]
        have hn : oneL t.data.toList = none := by
          unfold oneL; rw [← ahead0, HT.out, ahead0, hge, if_neg (by simp)]
        have HN : Hid (parseL s.data.toList = none) := Lib.hid (by rw [hinv.out.2.2.1, pstep_none hn]; rfl)
        clear hn hge
        have hdl : decide ((t.size : Int) < (t.size : Int)) = false := by simp
        by_cases hk0 : t.size = 0
        · have hk0d : ((t.size : Int) == 0) = true := by rw [hk0]; rfl
          clear hk0
          go_wp2_with fail
          go_ret2
          rw [HN.out]
          exact ⟨_, rfl, hinv.out.1, World.ownsRow_nil _ _ _ _⟩
        · have hk0d : ((t.size : Int) == 0) = false := by rw [beq_eq_false_iff_ne]; omega
          go_wp2_with fail
          go_ret2
          rw [HN.out]
          exact ⟨_, rfl, hinv.out.1, World.ownsRow_nil _ _ _ _⟩

end Go.Proofs.Ythhpijmkhhdhhaa
