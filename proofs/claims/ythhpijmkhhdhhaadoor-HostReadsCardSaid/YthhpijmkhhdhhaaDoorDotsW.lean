/- pathq.Dots and the reference's. -/
import Derived.Test.YthhpijmkhhdhhaaDoorPathq
import Derived.Test.YthhpijmkhhdhhaaDoorStrs
import Derived.Test.YthhpijmkhhdhhaaDoorDots
namespace Go.Proofs.YthhpijmkhhdhhaaDoor
open Go.RowKit
set_option linter.unusedVariables false
set_option linter.unusedSimpArgs false

/-- Texts in block g, from its beginning on. -/
def TextsAt (w : World) (g : Nat) (ps : List (List UInt8)) : Prop := g < w.heap.size ∧ ∀ j (h : j < ps.length), w.cell? ⟨g, j, none⟩ = some (sV ps[j])
theorem textsAt_below {w w1 : World} {g : Nat} {ps : List (List UInt8)} (h : TextsAt w g ps) (hb : Below w.heap.size w w1) : TextsAt w1 g ps :=
  ⟨Nat.lt_of_lt_of_le h.1 hb.size, fun j hj => by rw [hb.cell (by exact h.1)]; exact h.2 j hj⟩

def SplitPost (w : World) (ps : List (List UInt8)) (e : Ending) (w' : World) : Prop :=
  e = .returned (.slice (some ⟨w.heap.size, 0, none⟩) ps.length ps.length) ∧ Below w.heap.size w w' ∧ TextsAt w' w.heap.size ps ∧ w'.heap.size = w.heap.size + 1

theorem split_any (s : ByteArray) (c : UInt8) (w : World) (hs : s.size ≤ 1000000) (hM : MaxAt w) :
    Calls Tryd.prog 70 #[.string s, .string ⟨#[c]⟩] w (SplitPost w (partsL c s.data.toList)) := by
  obtain ⟨m, hm, _⟩ := hM
  refine (Tryd.strings_Split s ⟨#[c]⟩ m w (by omega) hm (Nat.le_refl 1)).mono ?_
  rintro e w' ⟨rfl, rfl⟩
  have h1 := split_parts s c
  have h2 : Lib.countB s ⟨#[c]⟩ + 1 = (partsL c s.data.toList).length := by
    rw [← h1, List.length_map]
    exact (Lib.splitB_all ⟨#[c]⟩ (Nat.le_refl 1) 0 _ s rfl).symm
  have h3 : ((Lib.splitB ⟨#[c]⟩ 0 (Lib.countB s ⟨#[c]⟩) s).map Value.string) = sCells (partsL c s.data.toList) := by
    rw [← h1]
    unfold sCells
    rw [List.map_map]
    exact List.map_congr_left (fun x _ => sV_self x)
  rw [h2, h3]
  refine ⟨rfl, (Below.refl _ _).alloc (Nat.le_refl _) _, ⟨by simp, fun j hj => ?_⟩, by simp⟩
  rw [cell_of_row _ w.heap.size j _ _ _ (heap_alloc_new w _)]
  show (sCells (partsL c s.data.toList)).toArray[j]? = _
  simp [sCells, hj]

theorem ret_ss {a b : ByteArray} (h : a = b) : Ending.returned (.string a) = .returned (.string b) := by rw [h]
theorem ret_si {a c : ByteArray} {b d : Int} (h : a = c) (h2 : b = d) : Ending.returned (.tuple #[.string a, .int .i64 b]) = .returned (.tuple #[.string c, .int .i64 d]) := by rw [h, h2]

/-- What Dots answers. -/
def dotsV (l : List UInt8) : List UInt8 := if pathL l then dotsL (l.drop 1) else []
def dotsE (l : List UInt8) : Int := if pathL l then 0 else 2

theorem joinS_any (w : World) (B : Nat) (v : Value) (n c : Nat) (a : Option Addr) (ps : List (List UInt8)) (sep : UInt8) (hv : v = .slice a n c) (hn : n = ps.length) (h : OwnS w B v ps) (hl : ps.length ≤ 1000000) (hl2 : (Lib.join ps [sep]).length ≤ 140737488355328) :
    Calls Tryd.prog 71 #[.slice a n c, .string ⟨#[sep]⟩] w fun e w' => e = .returned (.string ⟨(Lib.join ps [sep]).toArray⟩) ∧ Below w.heap.size w w' := by
  subst hv hn
  have hf := ownS_form h
  obtain ⟨a', c', hv, hc, hp⟩ := hf
  obtain ⟨h1, h2, h3⟩ := Value.slice.inj hv
  subst h1 h3
  by_cases h0 : ps = []
  · subst h0
    refine (Tryd.strings_Join_none a c ⟨#[sep]⟩ w).mono ?_
    rintro e w' ⟨rfl, rfl⟩
    exact ⟨rfl, Below.refl _ _⟩
  · obtain ⟨g, rfl, hg, _⟩ := hp (List.length_pos_iff.2 h0)
    have hc2 := Tryd.strings_Join g 0 c (ps.map fun p => ⟨p.toArray⟩) ⟨#[sep]⟩ w (by
      intro j x hx
      rw [List.getElem?_map] at hx
      obtain ⟨p, hp1, rfl⟩ := Option.map_eq_some_iff.1 hx
      obtain ⟨hj, rfl⟩ := List.getElem?_eq_some_iff.1 hp1
      rw [Nat.zero_add]
      exact ownS_at h j hj) hg (by rw [List.length_map]; omega) (by rw [List.length_map]; exact hc) (by rw [List.map_map]; show (Lib.join (ps.map fun p => p) [sep]).length ≤ _; rw [List.map_id']; exact hl2)
    rw [List.length_map, List.map_map] at hc2
    have e1 : (ps.map ((fun x : ByteArray => x.data.toList) ∘ fun p => (⟨p.toArray⟩ : ByteArray))) = ps := by
      show (ps.map fun p => p) = ps
      rw [List.map_id']
    rw [e1] at hc2
    exact hc2

theorem join_bound (c : UInt8) (M : Nat) : ∀ (ps : List (List UInt8)), (∀ p ∈ ps, p.length ≤ M) → (Lib.join ps [c]).length ≤ ps.length * (M + 1)
  | [], _ => by rw [Lib.join_nil]; simp
  | [p], h => by rw [Lib.join_one]; have := h p (List.mem_cons_self ..); simp; omega
  | p :: q :: r, h => by
    have ih := join_bound c M (q :: r) (fun x hx => h x (List.mem_cons_of_mem _ hx))
    have e : Lib.join (p :: q :: r) [c] = p ++ c :: Lib.join (q :: r) [c] := by
      rw [Lib.join_cons, Lib.join_cons]
      simp [Lib.joinTail]
    have h1 := h p (List.mem_cons_self ..)
    rw [e, List.length_append, List.length_cons, List.length_cons, Nat.add_mul]
    omega
theorem dots_bound (l : List UInt8) : (Lib.join (dotGo [] (partsL 47 l)) [47]).length ≤ (l.length + 1) * (l.length + 1) := by
  have h1 := join_bound 47 l.length (dotGo [] (partsL 47 l)) (by
    intro o ho
    rcases ((dots_out l).2 o ho).2.2 with h | h
    · exact partsL_size l o h
    · subst h; simp)
  have h2 := dotGo_len (partsL 47 l) []
  have h3 := partsL_len (c := 47) l
  refine Nat.le_trans h1 (Nat.mul_le_mul_right _ ?_)
  simp at h2; omega

set_option maxRecDepth 100000 in
set_option maxHeartbeats 2000000 in
theorem pDots_any (s : ByteArray) (w : World) (hs : s.size ≤ 100000) (hM : MaxAt w) :
    Calls Tryd.prog 30 #[.string s] w fun e w' => e = .returned (.tuple #[.string ⟨(dotsV s.data.toList).toArray⟩, .int .i64 (dotsE s.data.toList)]) ∧ Below w.heap.size w w' := by
  have PP := Lib.hid (fun w => pPath_any s w (by omega))
  cases hp : pathL s.data.toList with
  | false =>
    rw [hp] at PP
    have HV : Hid (dotsV s.data.toList = [] ∧ dotsE s.data.toList = 2) := Lib.hid (by unfold dotsV dotsE; rw [hp]; exact ⟨rfl, rfl⟩)
    clear hp
    go_enter Tryd.func30, Tryd.ntmps30
    go_wp2_with fail
    (refine (PP.out _).mono ?_; rintro e w1 ⟨rfl, h1⟩; have H1 := Lib.hid h1; clear h1; go_wp2_with fail)
    go_ret2
    rw [HV.out.1, HV.out.2]
    exact ⟨rfl, H1.out⟩
  | true =>
    rw [hp] at PP
    have HV : Hid (dotsV s.data.toList = dotsL (s.data.toList.drop 1) ∧ dotsE s.data.toList = 0) := Lib.hid (by unfold dotsV dotsE; rw [hp]; exact ⟨rfl, rfl⟩)
    obtain ⟨r, hr, _⟩ := pathL_tail hp
    have hpos : 0 < s.size := by rw [Lib.size_eq, hr]; simp
    have hpl : (partsL 47 (s.data.toList.drop 1)).length ≤ s.size + 1 := by
      have := partsL_len (c := 47) (s.data.toList.drop 1)
      rw [List.length_drop, ← Lib.size_eq] at this; omega
    have SP := Lib.hid (fun w h => split_any (s.extract 1 s.size) 47 w (by rw [extract_tail_size]; omega) h)
    rw [extract_tail] at SP
    obtain ⟨ps, hps⟩ : ∃ ps, partsL 47 (s.data.toList.drop 1) = ps := ⟨_, rfl⟩
    have hjb : (Lib.join (dotGo [] ps) [47]).length ≤ 20000000000 := by
      have := dots_bound (s.data.toList.drop 1)
      rw [hps] at this
      have h2 : (s.data.toList.drop 1).length + 1 ≤ 100001 := by rw [List.length_drop, ← Lib.size_eq]; omega
      have h3 := Nat.mul_le_mul h2 h2
      omega
    have HJB := Lib.hid hjb; clear hjb
    have hdl : dotsL (s.data.toList.drop 1) = 47 :: Lib.join (dotGo [] ps) [47] := by unfold dotsL; rw [hps]
    rw [hps] at SP hpl
    have HDL := Lib.hid hdl; clear hdl
    have HM := Lib.hid hM; clear hM
    clear hps hp hr
    have g1 : (1 : Int) ≤ s.size := by omega
    go_enter Tryd.func30, Tryd.ntmps30
    go_wp2_with fail
    (refine (PP.out _).mono ?_; rintro e w1 ⟨rfl, h1⟩; have H1 := Lib.hid h1; clear h1; go_wp2_with fail)
    refine (SP.out _ (maxAt_below HM.out H1.out)).mono ?_
    rintro e w2 ⟨rfl, hb2, ht2, hz2⟩
    have HB2 : Hid (Below w.heap.size w w2) := Lib.hid (bseq H1.out hb2)
    have HT2 := Lib.hid ht2; clear ht2 hb2
    obtain ⟨g, hg⟩ : ∃ g, w1.heap.size = g := ⟨_, rfl⟩
    rw [hg] at HT2 ⊢
    clear hg hz2
    go_wp2_with fail
    obtain ⟨B, hB⟩ : ∃ B, w2.heap.size = B := ⟨_, rfl⟩
    have HBB := Lib.hid hB
    have hinv : OwnS w2 B (.slice none 0 0) [] := ownS_nil _ _
    have HI := Lib.hid hinv; clear hinv hB
    go_loopw [4, 16] (fun out i wr => ∃ (k : Nat) (os : List (List UInt8)), k ≤ ps.length ∧ i = .int .i64 k ∧ os.length ≤ k ∧ Hid (OwnS wr B out os) ∧ Hid (dotGo [] ps = dotGo os (ps.drop k)) ∧ Hid (Below B w2 wr)) (fun _ i _ => ps.length - (intOf i).toNat)
    case atStart => exact ⟨0, [], Nat.zero_le _, rfl, Nat.le_refl _, HI.out, rfl, Below.refl _ _⟩
    case round =>
      obtain ⟨k, os, hk, rfl, hol, ho, hg, hb⟩ := hrel
      clear HI
      by_cases hlt : k < ps.length
      · have hcell : wr.cell? ⟨g, k, none⟩ = some (sV ps[k]) := by
          rw [hb.out.cell (by show g < B; have := HT2.out.1; have := HBB.out; omega)]
          exact HT2.out.2 k hlt
        have hd := hg.out
        rw [List.drop_eq_getElem_cons hlt, dotGo] at hd
        obtain ⟨x, hx⟩ : ∃ x, ps[k] = x := ⟨_, rfl⟩
        rw [hx] at hcell hd
        clear hx
        have HD := Lib.hid hd; clear hd
        obtain ⟨xb, hxb⟩ : ∃ xb : ByteArray, ⟨x.toArray⟩ = xb := ⟨_, rfl⟩
        have hcell2 : wr.cell? ⟨g, k, none⟩ = some (.string xb) := by rw [hcell, ← hxb]; rfl
        have hxl : xb.toList = x := by rw [← hxb, Lib.toList_data]
        have HXB := Lib.hid hxb; clear hxb hcell
        have HXL := Lib.hid hxl; clear hxl
        have hBw : B ≤ wr.heap.size := by have := hb.out.size; have := HBB.out; omega
        have hbA : Below w.heap.size w wr := HB2.out.trans (hb.out.mono (by have := HB2.out.size; have := HBB.out; omega))
        have HBA := Lib.hid hbA; clear hbA
        obtain ⟨a0, c0, hv0, _, hp0⟩ := ownS_form ho.out
        have hlast : (ps.drop (k + 1)).isEmpty = decide (k + 1 = ps.length) := by
          rw [Bool.eq_iff_iff, List.isEmpty_iff, List.drop_eq_nil_iff, decide_eq_true_eq]; omega
        obtain ⟨L, hL⟩ : ∃ L, os.length = L := ⟨_, rfl⟩
        have hoL := ho.out
        rw [hv0] at hoL
        rw [hL] at hv0 hp0 hol hoL
        have HOL : Hid (wr.ownsRow B 9 1 (.slice a0 L c0) L (sCells os)) := Lib.hid (by unfold OwnS at hoL; rw [hL] at hoL; exact hoL)
        have HLL := Lib.hid hL; clear hL hoL
        have HLA := Lib.hid hlast; clear hlast
        subst hv0
        by_cases hdot : isDot x = true
        · obtain ⟨d2, hd2⟩ : ∃ d2, (x == [46, 46]) = d2 := ⟨_, rfl⟩
          have hb2 : (xb.toList == [46, 46]) = d2 := by rw [HXL.out]; exact hd2
          have hb1 : (xb.toList == [46]) = !d2 := by
            rw [HXL.out]
            unfold isDot at hdot
            rw [hd2] at hdot
            cases d2 with
            | true => have : x = [46, 46] := by simpa using hd2
                      rw [this]; rfl
            | false => rw [Bool.or_false] at hdot; rw [hdot]; rfl
          have hst : ∀ l, dotStep l os x = (if d2 then os.dropLast else os) ++ (if l then [[]] else []) := by
            intro l; unfold dotStep; rw [if_pos hdot, hd2]
          have HST := Lib.hid hst; clear hst hdot hd2
          cases d2 with
          | true =>
            have hb2' : xb.toList = [46, 46] := by simpa using hb2
            cases L with
            | zero =>
              have HE : Hid (∀ l, dotStep l os x = os ++ (if l then [[]] else [])) := Lib.hid (by
                intro l; rw [HST.out]
                have : os = [] := List.eq_nil_of_length_eq_zero HLL.out
                subst this; rfl)
              have g0 : ¬ (0 : Int) < ((0 : Nat) : Int) := by omega
              have HLN : Hid (os.length = 0) := HLL
              by_cases hl : k + 1 = ps.length
              · have g5 : ((k : Int) == (ps.length : Int) - 1) = true := by rw [beq_iff_eq]; omega
                have HS : Hid (dotGo [] ps = dotGo (os ++ [[]]) (ps.drop (k + 1))) := Lib.hid (by rw [HD.out, HLA.out, decide_eq_true hl, HE.out]; rfl)
                clear hl
                go_wp2_with (at_builtin; refine app_one 39 9 (.string ByteArray.empty) 16 Tryd.underlying39 info_str rfl (by rfl) (.tmp 46) (.tmp 47) (by rfl) wr B (.slice a0 0 c0) 0 (sCells os) (.string ⟨#[]⟩) (by rfl) HOL.out (by rfl) rfl ?_ ?_ ?_ ?_)
                any_goals (first | omega | (unfold maxLen; omega) | exact hBw)
                intro g5 cp5 w5 hown5 hg5 hat5 hbg5 hgl5
                have ho5 : OwnS w5 B (.slice (some ⟨g5, 0, none⟩) (0 + 1) cp5) (os ++ [[]]) := ownS_app (p := []) HLN.out.symm hown5
                have hb5 : Below B w2 w5 := app_below hb.out HOL.out hg5 (Nat.le_refl _) hBw
                have HO5 := Lib.hid ho5; clear ho5 hown5
                have HB5 := Lib.hid hb5; clear hb5 hg5 hat5
                go_wp2_with fail
                go_roundw
                case rel => exact ⟨k + 1, os ++ [[]], by omega, by go_num, by rw [List.length_append, HLN.out, List.length_singleton]; omega, HO5.out, HS.out, HB5.out⟩
                case measure => simp [intOf]; omega
              · have g5 : ((k : Int) == (ps.length : Int) - 1) = false := by rw [beq_eq_false_iff_ne]; omega
                have HS : Hid (dotGo [] ps = dotGo os (ps.drop (k + 1))) := Lib.hid (by rw [HD.out, HLA.out, decide_eq_false hl, HE.out]; simp)
                clear hl
                have HO5 : Hid (OwnS wr B (.slice a0 0 c0) os) := Lib.hid (by unfold OwnS; rw [HLN.out]; exact HOL.out)
                go_wp2_with fail
                go_roundw
                case rel => exact ⟨k + 1, os, by omega, by go_num, by rw [HLN.out]; omega, HO5.out, HS.out, hb.out⟩
                case measure => simp [intOf]; omega
            | succ n =>
              obtain ⟨b0, hg0, hg01, hg02⟩ := hp0 (by omega)
              subst hg0
              have hpop : wr.ownsRow B 9 1 (.slice (some ⟨b0, 0, none⟩) n c0) n (sCells os.dropLast) := by
                have h1 : OwnS wr B (.slice (some ⟨b0, 0, none⟩) n c0) os.dropLast := ownS_pop HLL.out.symm (by unfold OwnS; rw [HLL.out]; exact HOL.out)
                unfold OwnS at h1
                rw [List.length_dropLast, HLL.out] at h1
                exact h1
              have HPO := Lib.hid hpop; clear hpop
              have HE : Hid (∀ l, dotStep l os x = os.dropLast ++ (if l then [[]] else [])) := Lib.hid (by
                intro l; rw [HST.out]; rfl)
              have g0 : (0 : Int) < ((n + 1 : Nat) : Int) := by omega
              have g7 : (n : Int) ≤ c0 := by have := HLL.out; omega
              have HLN : Hid (os.dropLast.length = n) := Lib.hid (by rw [List.length_dropLast, HLL.out]; rfl)
              by_cases hl : k + 1 = ps.length
              · have g5 : ((k : Int) == (ps.length : Int) - 1) = true := by rw [beq_iff_eq]; omega
                have HS : Hid (dotGo [] ps = dotGo (os.dropLast ++ [[]]) (ps.drop (k + 1))) := Lib.hid (by rw [HD.out, HLA.out, decide_eq_true hl, HE.out]; rfl)
                clear hl
                go_wp2_with (at_builtin; refine app_one 39 9 (.string ByteArray.empty) 16 Tryd.underlying39 info_str rfl (by rfl) (.tmp 46) (.tmp 47) (by rfl) wr B (.slice (some ⟨b0, 0, none⟩) n c0) n (sCells os.dropLast) (.string ⟨#[]⟩) (by rfl) HPO.out (by rfl) rfl ?_ ?_ ?_ ?_)
                any_goals (first | omega | (unfold maxLen; omega) | exact hBw)
                intro g5 cp5 w5 hown5 hg5 hat5 hbg5 hgl5
                have ho5 : OwnS w5 B (.slice (some ⟨g5, 0, none⟩) (n + 1) cp5) (os.dropLast ++ [[]]) := ownS_app (p := []) HLN.out.symm hown5
                have hb5 : Below B w2 w5 := app_below hb.out HPO.out hg5 (Nat.le_refl _) hBw
                have HO5 := Lib.hid ho5; clear ho5 hown5
                have HB5 := Lib.hid hb5; clear hb5 hg5 hat5
                go_wp2_with fail
                go_roundw
                case rel => exact ⟨k + 1, os.dropLast ++ [[]], by omega, by go_num, by rw [List.length_append, HLN.out, List.length_singleton]; omega, HO5.out, HS.out, HB5.out⟩
                case measure => simp [intOf]; omega
              · have g5 : ((k : Int) == (ps.length : Int) - 1) = false := by rw [beq_eq_false_iff_ne]; omega
                have HS : Hid (dotGo [] ps = dotGo os.dropLast (ps.drop (k + 1))) := Lib.hid (by rw [HD.out, HLA.out, decide_eq_false hl, HE.out]; simp)
                clear hl
                have HO5 : Hid (OwnS wr B (.slice (some ⟨b0, 0, none⟩) n c0) os.dropLast) := Lib.hid (by unfold OwnS; rw [HLN.out]; exact HPO.out)
                go_wp2_with fail
                go_roundw
                case rel => exact ⟨k + 1, os.dropLast, by omega, by go_num, by rw [HLN.out]; omega, HO5.out, HS.out, hb.out⟩
                case measure => simp [intOf]; omega
          | false =>
            have hb2' : ¬ xb.toList = [46, 46] := by intro e; rw [e] at hb2; simp at hb2
            have HE : Hid (∀ l, dotStep l os x = os ++ (if l then [[]] else [])) := Lib.hid (by
              intro l; rw [HST.out]; rfl)
            have HLN : Hid (os.length = L) := HLL
            by_cases hl : k + 1 = ps.length
            · have g5 : ((k : Int) == (ps.length : Int) - 1) = true := by rw [beq_iff_eq]; omega
              have HS : Hid (dotGo [] ps = dotGo (os ++ [[]]) (ps.drop (k + 1))) := Lib.hid (by rw [HD.out, HLA.out, decide_eq_true hl, HE.out]; rfl)
              clear hl
              go_wp2_with (at_builtin; refine app_one 39 9 (.string ByteArray.empty) 16 Tryd.underlying39 info_str rfl (by rfl) (.tmp 46) (.tmp 47) (by rfl) wr B (.slice a0 L c0) L (sCells os) (.string ⟨#[]⟩) (by rfl) HOL.out (by rfl) rfl ?_ ?_ ?_ ?_)
              any_goals (first | omega | (unfold maxLen; omega) | exact hBw)
              intro g5 cp5 w5 hown5 hg5 hat5 hbg5 hgl5
              have ho5 : OwnS w5 B (.slice (some ⟨g5, 0, none⟩) (L + 1) cp5) (os ++ [[]]) := ownS_app (p := []) HLN.out.symm hown5
              have hb5 : Below B w2 w5 := app_below hb.out HOL.out hg5 (Nat.le_refl _) hBw
              have HO5 := Lib.hid ho5; clear ho5 hown5
              have HB5 := Lib.hid hb5; clear hb5 hg5 hat5
              go_wp2_with fail
              go_roundw
              case rel => exact ⟨k + 1, os ++ [[]], by omega, by go_num, by rw [List.length_append, HLN.out, List.length_singleton]; omega, HO5.out, HS.out, HB5.out⟩
              case measure => simp [intOf]; omega
            · have g5 : ((k : Int) == (ps.length : Int) - 1) = false := by rw [beq_eq_false_iff_ne]; omega
              have HS : Hid (dotGo [] ps = dotGo os (ps.drop (k + 1))) := Lib.hid (by rw [HD.out, HLA.out, decide_eq_false hl, HE.out]; simp)
              clear hl
              have HO5 : Hid (OwnS wr B (.slice a0 L c0) os) := Lib.hid (by unfold OwnS; rw [HLN.out]; exact HOL.out)
              go_wp2_with fail
              go_roundw
              case rel => exact ⟨k + 1, os, by omega, by go_num, by rw [HLN.out]; omega, HO5.out, HS.out, hb.out⟩
              case measure => simp [intOf]; omega
        · rw [Bool.not_eq_true] at hdot
          have hb1 : (xb.toList == [46]) = false := by
            rw [HXL.out]; unfold isDot at hdot; simp only [Bool.or_eq_false_iff] at hdot; exact hdot.1
          have hb2 : (xb.toList == [46, 46]) = false := by
            rw [HXL.out]; unfold isDot at hdot; simp only [Bool.or_eq_false_iff] at hdot; exact hdot.2
          have HS : Hid (dotGo [] ps = dotGo (os ++ [x]) (ps.drop (k + 1))) := Lib.hid (by
            rw [HD.out]; unfold dotStep; rw [if_neg (by rw [hdot]; simp)])
          clear hdot
          go_wp2_with (at_builtin; refine app_one 39 9 (.string ByteArray.empty) 16 Tryd.underlying39 info_str rfl (by rfl) (.tmp 22) (.tmp 24) (by rfl) wr B (.slice a0 L c0) L (sCells os) (.string xb) (by rfl) HOL.out (by rfl) rfl ?_ ?_ ?_ ?_)
          any_goals (first | omega | (unfold maxLen; omega) | exact hBw)
          intro g5 cp5 w5 hown5 hg5 hat5 hbg5 hgl5
          have ho5 : OwnS w5 B (.slice (some ⟨g5, 0, none⟩) (L + 1) cp5) (os ++ [x]) := ownS_app (p := x) HLL.out.symm (by rw [← HXB.out] at hown5; exact hown5)
          have hb5 : Below B w2 w5 := app_below hb.out HOL.out hg5 (Nat.le_refl _) hBw
          have HO5 := Lib.hid ho5; clear ho5 hown5
          have HB5 := Lib.hid hb5; clear hb5 hg5 hat5
          go_wp2_with fail
          go_roundw
          case rel => exact ⟨k + 1, os ++ [x], by omega, by go_num, by rw [List.length_append, HLL.out, List.length_singleton]; omega, HO5.out, HS.out, HB5.out⟩
          case measure => simp [intOf]; omega
      · obtain rfl : k = ps.length := by omega
        have hd := hg.out
        rw [List.drop_length] at hd
        have hd2 : dotGo [] ps = os := hd
        have hbA : Below w.heap.size w wr := HB2.out.trans (hb.out.mono (by have := HB2.out.size; have := HBB.out; omega))
        have HBA := Lib.hid hbA; clear hbA
        obtain ⟨a0, c0, hv0, _, _⟩ := ownS_form ho.out
        have hj := HJB.out
        rw [hd2] at hj
        have JJ := Lib.hid (joinS_any wr B _ os.length c0 a0 os 47 hv0 rfl ho.out (by omega) (by omega))
        have HDV : Hid (dotsV s.data.toList = 47 :: Lib.join os [47]) := Lib.hid (by rw [HV.out.1, HDL.out, hd2])
        obtain ⟨J, hJ⟩ : ∃ J : List UInt8, Lib.join os [47] = J := ⟨_, rfl⟩
        rw [hJ] at JJ HDV hj
        obtain ⟨Jb, hJb⟩ : ∃ Jb : ByteArray, ⟨J.toArray⟩ = Jb := ⟨_, rfl⟩
        have hjs : Jb.size ≤ 20000000000 := by rw [← hJb, Lib.size_eq]; exact hj
        have hjc : (⟨#[47]⟩ ++ Jb : ByteArray) = ⟨(47 :: J).toArray⟩ := by
          rw [← hJb]; apply ByteArray.ext; rw [ByteArray.data_append]; simp
        rw [hJb] at JJ
        have HJC := Lib.hid hjc; clear hjc
        clear hd hd2 hJ hJb hj
        subst hv0
        go_wp2_with fail
        refine JJ.out.mono ?_
        rintro e w5 ⟨rfl, hb5⟩
        have HB5 : Hid (Below w.heap.size w w5) := Lib.hid (bseq HBA.out hb5)
        clear hb5
        go_wp2_with fail
        go_ret2
        exact ⟨ret_si (by rw [HDV.out, ← HJC.out]) HV.out.2.symm, HB5.out⟩


theorem textsAt_own {w : World} {B : Nat} {a : Option Addr} {c : Nat} {ps : List (List UInt8)} (h : OwnS w B (.slice a ps.length c) ps) (h0 : 0 < ps.length) : ∃ g, a = some ⟨g, 0, none⟩ ∧ B ≤ g ∧ TextsAt w g ps := by
  obtain ⟨a', c', hv, _, hp⟩ := ownS_form h
  obtain ⟨h1, h2, h3⟩ := Value.slice.inj hv
  subst h1 h3
  obtain ⟨g, rfl, hg, hB⟩ := hp h0
  exact ⟨g, rfl, hB, hg, fun j hj => ownS_at h j hj⟩

theorem joinTail_dots (os : List (List UInt8)) (h : os ≠ []) : Lib.joinTail [47] os = 47 :: Lib.join os [47] := by
  cases os with
  | nil => exact absurd rfl h
  | cons x r => rw [Lib.join_cons]; simp [Lib.joinTail]

set_option maxRecDepth 100000 in
set_option maxHeartbeats 2000000 in
theorem rDots_any (s : ByteArray) (w : World) (hs : s.size ≤ 100000) (r : List UInt8) (hr : s.data.toList = 47 :: r) :
    Calls Tryd.prog 32 #[.string s] w fun e w' => e = .returned (.string ⟨(dotsL r).toArray⟩) ∧ Below w.heap.size w w' := by
  have hrl : r.length ≤ 100000 := by have := Lib.size_eq s; rw [hr] at this; simp at this; omega
  have hjb := dots_bound r
  have hne := (dots_out r).1
  have hpl : (partsL 47 r).length ≤ r.length + 1 := partsL_len r
  have PA := Lib.hid (fun w => rParts_any s 47 47 w hs rfl)
  rw [hr, partsL, if_pos rfl] at PA
  have hdl : dotsL r = 47 :: Lib.join (dotGo [] (partsL 47 r)) [47] := rfl
  obtain ⟨ps, hps⟩ : ∃ ps, partsL 47 r = ps := ⟨_, rfl⟩
  rw [hps] at PA hdl hjb hne hpl
  have HJB : Hid ((Lib.joinTail [47] (dotGo [] ps)).length ≤ 20000000000) := Lib.hid (by
    rw [joinTail_dots _ hne, List.length_cons]
    have h2 : r.length + 1 ≤ 100001 := by omega
    have h3 := Nat.mul_le_mul h2 h2
    omega)
  have HDL : Hid (dotsL r = Lib.joinTail [47] (dotGo [] ps)) := Lib.hid (by rw [hdl, joinTail_dots _ hne])
  have HNE := Lib.hid hne; clear hne hdl hjb hps hr
  obtain ⟨all, hall⟩ : ∃ all, ([] : List UInt8) :: ps = all := ⟨_, rfl⟩
  have hd1 : all.drop 1 = ps := by rw [← hall]; rfl
  have hl1 : all.length = ps.length + 1 := by rw [← hall]; rfl
  rw [hall] at PA
  have hal : 0 < all.length := by omega
  have hal2 : all.length ≤ 100002 := by omega
  have HD1 := Lib.hid hd1; clear hd1 hall hl1 hpl
  go_enter Tryd.func32, Tryd.ntmps32
  go_wp2_with fail
  refine (PA.out _).mono ?_
  rintro e w2 ⟨v, rfl, hb2, ho2⟩
  obtain ⟨a1, c1, rfl, hac, _⟩ := ownS_form ho2
  obtain ⟨g, rfl, _, ht2⟩ := textsAt_own ho2 hal
  have HB2 := Lib.hid hb2; clear hb2 ho2
  have HT2 := Lib.hid ht2; clear ht2
  go_wp2_with fail
  obtain ⟨B, hB⟩ : ∃ B, w2.heap.size = B := ⟨_, rfl⟩
  have HBB := Lib.hid hB
  have hinv : OwnS w2 B (.slice none 0 0) [] := ownS_nil _ _
  have HI := Lib.hid hinv; clear hinv hB
  go_loopw [3, 5] (fun out i wr => ∃ (k : Nat) (os : List (List UInt8)), 1 ≤ k ∧ k ≤ all.length ∧ i = .int .i64 k ∧ os.length ≤ k ∧ Hid (OwnS wr B out os) ∧ Hid (dotGo [] ps = dotGo os (all.drop k)) ∧ Hid (Below B w2 wr)) (fun _ i _ => all.length - (intOf i).toNat)
  case atStart => exact ⟨1, [], Nat.le_refl _, by omega, rfl, Nat.zero_le _, HI.out, Lib.hid (by rw [HD1.out]), Below.refl _ _⟩
  case round =>
    obtain ⟨k, os, hk1, hk, rfl, hol, ho, hg, hb⟩ := hrel
    clear HI
    have hBw : B ≤ wr.heap.size := by have := hb.out.size; have := HBB.out; omega
    have hbA : Below w.heap.size w wr := HB2.out.trans (hb.out.mono (by have := HB2.out.size; have := HBB.out; omega))
    have HBA := Lib.hid hbA; clear hbA
    by_cases hlt : k < all.length
    · have hcell : wr.cell? ⟨g, k, none⟩ = some (sV all[k]) := by
        rw [hb.out.cell (by show g < B; have := HT2.out.1; have := HBB.out; omega)]
        exact HT2.out.2 k hlt
      have hd := hg.out
      rw [List.drop_eq_getElem_cons hlt, dotGo] at hd
      obtain ⟨x, hx⟩ : ∃ x, all[k] = x := ⟨_, rfl⟩
      rw [hx] at hcell hd
      clear hx
      have HD := Lib.hid hd; clear hd
      obtain ⟨xb, hxb⟩ : ∃ xb : ByteArray, ⟨x.toArray⟩ = xb := ⟨_, rfl⟩
      have hcell2 : wr.cell? ⟨g, k, none⟩ = some (.string xb) := by rw [hcell, ← hxb]; rfl
      have hxl : xb.toList = x := by rw [← hxb, Lib.toList_data]
      have HXB := Lib.hid hxb; clear hxb hcell
      have HXL := Lib.hid hxl; clear hxl
      obtain ⟨a0, c0, hv0, hc0, hp0⟩ := ownS_form ho.out
      have hlast : (all.drop (k + 1)).isEmpty = decide (k + 1 = all.length) := by
        rw [Bool.eq_iff_iff, List.isEmpty_iff, List.drop_eq_nil_iff, decide_eq_true_eq]; omega
      obtain ⟨L, hL⟩ : ∃ L, os.length = L := ⟨_, rfl⟩
      have hoL := ho.out
      rw [hv0] at hoL
      rw [hL] at hv0 hp0 hol hoL
      have HOL : Hid (wr.ownsRow B 9 1 (.slice a0 L c0) L (sCells os)) := Lib.hid (by unfold OwnS at hoL; rw [hL] at hoL; exact hoL)
      have HLL := Lib.hid hL; clear hL hoL
      have HLA := Lib.hid hlast; clear hlast
      subst hv0
      by_cases hdot : isDot x = true
      · obtain ⟨d2, hd2⟩ : ∃ d2, (x == [46, 46]) = d2 := ⟨_, rfl⟩
        have hb2 : (xb.toList == [46, 46]) = d2 := by rw [HXL.out]; exact hd2
        have hb1 : (xb.toList == [46]) = !d2 := by
          rw [HXL.out]
          unfold isDot at hdot
          rw [hd2] at hdot
          cases d2 with
          | true => have : x = [46, 46] := by simpa using hd2
                    rw [this]; rfl
          | false => rw [Bool.or_false] at hdot; rw [hdot]; rfl
        have hst : ∀ l, dotStep l os x = (if d2 then os.dropLast else os) ++ (if l then [[]] else []) := by
          intro l; unfold dotStep; rw [if_pos hdot, hd2]
        have HST := Lib.hid hst; clear hst hdot hd2
        cases d2 with
        | true =>
          have hb2' : xb.toList = [46, 46] := by simpa using hb2
          cases L with
          | zero =>
            have HE : Hid (∀ l, dotStep l os x = os ++ (if l then [[]] else [])) := Lib.hid (by
              intro l; rw [HST.out]
              have : os = [] := List.eq_nil_of_length_eq_zero HLL.out
              subst this; rfl)
            have g0 : ¬ (0 : Int) < ((0 : Nat) : Int) := by omega
            have HLN : Hid (os.length = 0) := HLL
            by_cases hl : k + 1 = all.length
            · have g5 : ((k : Int) == (all.length : Int) - 1) = true := by rw [beq_iff_eq]; omega
              have HS : Hid (dotGo [] ps = dotGo (os ++ [[]]) (all.drop (k + 1))) := Lib.hid (by rw [HD.out, HLA.out, decide_eq_true hl, HE.out]; rfl)
              clear hl
              go_wp2_with (at_builtin; refine app_one 39 9 (.string ByteArray.empty) 16 Tryd.underlying39 info_str rfl (by rfl) (.tmp 55) (.tmp 56) (by rfl) wr B (.slice a0 0 c0) 0 (sCells os) (.string ⟨#[]⟩) (by rfl) HOL.out (by rfl) rfl ?_ ?_ ?_ ?_)
              any_goals (first | omega | (unfold maxLen; omega) | exact hBw)
              intro g5 cp5 w5 hown5 hg5 hat5 hbg5 hgl5
              have ho5 : OwnS w5 B (.slice (some ⟨g5, 0, none⟩) (0 + 1) cp5) (os ++ [[]]) := ownS_app (p := []) HLN.out.symm hown5
              have hb5 : Below B w2 w5 := app_below hb.out HOL.out hg5 (Nat.le_refl _) hBw
              have HO5 := Lib.hid ho5; clear ho5 hown5
              have HB5 := Lib.hid hb5; clear hb5 hg5 hat5
              go_wp2_with fail
              go_roundw
              case rel => exact ⟨k + 1, os ++ [[]], by omega, by omega, by go_num, by rw [List.length_append, HLN.out, List.length_singleton]; omega, HO5.out, HS.out, HB5.out⟩
              case measure => simp [intOf]; omega
            · have g5 : ((k : Int) == (all.length : Int) - 1) = false := by rw [beq_eq_false_iff_ne]; omega
              have HS : Hid (dotGo [] ps = dotGo os (all.drop (k + 1))) := Lib.hid (by rw [HD.out, HLA.out, decide_eq_false hl, HE.out]; simp)
              clear hl
              have HO5 : Hid (OwnS wr B (.slice a0 0 c0) os) := Lib.hid (by unfold OwnS; rw [HLN.out]; exact HOL.out)
              go_wp2_with fail
              go_roundw
              case rel => exact ⟨k + 1, os, by omega, by omega, by go_num, by rw [HLN.out]; omega, HO5.out, HS.out, hb.out⟩
              case measure => simp [intOf]; omega
          | succ n =>
            obtain ⟨b0, hg0, hg01, hg02⟩ := hp0 (by omega)
            subst hg0
            have hpop : wr.ownsRow B 9 1 (.slice (some ⟨b0, 0, none⟩) n c0) n (sCells os.dropLast) := by
              have h1 : OwnS wr B (.slice (some ⟨b0, 0, none⟩) n c0) os.dropLast := ownS_pop HLL.out.symm (by unfold OwnS; rw [HLL.out]; exact HOL.out)
              unfold OwnS at h1
              rw [List.length_dropLast, HLL.out] at h1
              exact h1
            have HPO := Lib.hid hpop; clear hpop
            have HE : Hid (∀ l, dotStep l os x = os.dropLast ++ (if l then [[]] else [])) := Lib.hid (by
              intro l; rw [HST.out]; rfl)
            have g0 : (0 : Int) < ((n + 1 : Nat) : Int) := by omega
            have g7 : (n : Int) ≤ c0 := by have := HLL.out; omega
            have HLN : Hid (os.dropLast.length = n) := Lib.hid (by rw [List.length_dropLast, HLL.out]; rfl)
            by_cases hl : k + 1 = all.length
            · have g5 : ((k : Int) == (all.length : Int) - 1) = true := by rw [beq_iff_eq]; omega
              have HS : Hid (dotGo [] ps = dotGo (os.dropLast ++ [[]]) (all.drop (k + 1))) := Lib.hid (by rw [HD.out, HLA.out, decide_eq_true hl, HE.out]; rfl)
              clear hl
              go_wp2_with (at_builtin; refine app_one 39 9 (.string ByteArray.empty) 16 Tryd.underlying39 info_str rfl (by rfl) (.tmp 55) (.tmp 56) (by rfl) wr B (.slice (some ⟨b0, 0, none⟩) n c0) n (sCells os.dropLast) (.string ⟨#[]⟩) (by rfl) HPO.out (by rfl) rfl ?_ ?_ ?_ ?_)
              any_goals (first | omega | (unfold maxLen; omega) | exact hBw)
              intro g5 cp5 w5 hown5 hg5 hat5 hbg5 hgl5
              have ho5 : OwnS w5 B (.slice (some ⟨g5, 0, none⟩) (n + 1) cp5) (os.dropLast ++ [[]]) := ownS_app (p := []) HLN.out.symm hown5
              have hb5 : Below B w2 w5 := app_below hb.out HPO.out hg5 (Nat.le_refl _) hBw
              have HO5 := Lib.hid ho5; clear ho5 hown5
              have HB5 := Lib.hid hb5; clear hb5 hg5 hat5
              go_wp2_with fail
              go_roundw
              case rel => exact ⟨k + 1, os.dropLast ++ [[]], by omega, by omega, by go_num, by rw [List.length_append, HLN.out, List.length_singleton]; omega, HO5.out, HS.out, HB5.out⟩
              case measure => simp [intOf]; omega
            · have g5 : ((k : Int) == (all.length : Int) - 1) = false := by rw [beq_eq_false_iff_ne]; omega
              have HS : Hid (dotGo [] ps = dotGo os.dropLast (all.drop (k + 1))) := Lib.hid (by rw [HD.out, HLA.out, decide_eq_false hl, HE.out]; simp)
              clear hl
              have HO5 : Hid (OwnS wr B (.slice (some ⟨b0, 0, none⟩) n c0) os.dropLast) := Lib.hid (by unfold OwnS; rw [HLN.out]; exact HPO.out)
              go_wp2_with fail
              go_roundw
              case rel => exact ⟨k + 1, os.dropLast, by omega, by omega, by go_num, by rw [HLN.out]; omega, HO5.out, HS.out, hb.out⟩
              case measure => simp [intOf]; omega
        | false =>
          have hb2' : ¬ xb.toList = [46, 46] := by intro e; rw [e] at hb2; simp at hb2
          have HE : Hid (∀ l, dotStep l os x = os ++ (if l then [[]] else [])) := Lib.hid (by
            intro l; rw [HST.out]; rfl)
          have HLN : Hid (os.length = L) := HLL
          by_cases hl : k + 1 = all.length
          · have g5 : ((k : Int) == (all.length : Int) - 1) = true := by rw [beq_iff_eq]; omega
            have HS : Hid (dotGo [] ps = dotGo (os ++ [[]]) (all.drop (k + 1))) := Lib.hid (by rw [HD.out, HLA.out, decide_eq_true hl, HE.out]; rfl)
            clear hl
            go_wp2_with (at_builtin; refine app_one 39 9 (.string ByteArray.empty) 16 Tryd.underlying39 info_str rfl (by rfl) (.tmp 55) (.tmp 56) (by rfl) wr B (.slice a0 L c0) L (sCells os) (.string ⟨#[]⟩) (by rfl) HOL.out (by rfl) rfl ?_ ?_ ?_ ?_)
            any_goals (first | omega | (unfold maxLen; omega) | exact hBw)
            intro g5 cp5 w5 hown5 hg5 hat5 hbg5 hgl5
            have ho5 : OwnS w5 B (.slice (some ⟨g5, 0, none⟩) (L + 1) cp5) (os ++ [[]]) := ownS_app (p := []) HLN.out.symm hown5
            have hb5 : Below B w2 w5 := app_below hb.out HOL.out hg5 (Nat.le_refl _) hBw
            have HO5 := Lib.hid ho5; clear ho5 hown5
            have HB5 := Lib.hid hb5; clear hb5 hg5 hat5
            go_wp2_with fail
            go_roundw
            case rel => exact ⟨k + 1, os ++ [[]], by omega, by omega, by go_num, by rw [List.length_append, HLN.out, List.length_singleton]; omega, HO5.out, HS.out, HB5.out⟩
            case measure => simp [intOf]; omega
          · have g5 : ((k : Int) == (all.length : Int) - 1) = false := by rw [beq_eq_false_iff_ne]; omega
            have HS : Hid (dotGo [] ps = dotGo os (all.drop (k + 1))) := Lib.hid (by rw [HD.out, HLA.out, decide_eq_false hl, HE.out]; simp)
            clear hl
            have HO5 : Hid (OwnS wr B (.slice a0 L c0) os) := Lib.hid (by unfold OwnS; rw [HLN.out]; exact HOL.out)
            go_wp2_with fail
            go_roundw
            case rel => exact ⟨k + 1, os, by omega, by omega, by go_num, by rw [HLN.out]; omega, HO5.out, HS.out, hb.out⟩
            case measure => simp [intOf]; omega
      · rw [Bool.not_eq_true] at hdot
        have hb1 : (xb.toList == [46]) = false := by
          rw [HXL.out]; unfold isDot at hdot; simp only [Bool.or_eq_false_iff] at hdot; exact hdot.1
        have hb2 : (xb.toList == [46, 46]) = false := by
          rw [HXL.out]; unfold isDot at hdot; simp only [Bool.or_eq_false_iff] at hdot; exact hdot.2
        have HS : Hid (dotGo [] ps = dotGo (os ++ [x]) (all.drop (k + 1))) := Lib.hid (by
          rw [HD.out]; unfold dotStep; rw [if_neg (by rw [hdot]; simp)])
        clear hdot
        go_wp2_with (at_builtin; refine app_one 39 9 (.string ByteArray.empty) 16 Tryd.underlying39 info_str rfl (by rfl) (.tmp 28) (.tmp 33) (by rfl) wr B (.slice a0 L c0) L (sCells os) (.string xb) (by rfl) HOL.out (by rfl) rfl ?_ ?_ ?_ ?_)
        any_goals (first | omega | (unfold maxLen; omega) | exact hBw)
        intro g5 cp5 w5 hown5 hg5 hat5 hbg5 hgl5
        have ho5 : OwnS w5 B (.slice (some ⟨g5, 0, none⟩) (L + 1) cp5) (os ++ [x]) := ownS_app (p := x) HLL.out.symm (by rw [← HXB.out] at hown5; exact hown5)
        have hb5 : Below B w2 w5 := app_below hb.out HOL.out hg5 (Nat.le_refl _) hBw
        have HO5 := Lib.hid ho5; clear ho5 hown5
        have HB5 := Lib.hid hb5; clear hb5 hg5 hat5
        go_wp2_with fail
        go_roundw
        case rel => exact ⟨k + 1, os ++ [x], by omega, by omega, by go_num, by rw [List.length_append, HLL.out, List.length_singleton]; omega, HO5.out, HS.out, HB5.out⟩
        case measure => simp [intOf]; omega
    · obtain rfl : k = all.length := by omega
      have hd := hg.out
      rw [List.drop_length] at hd
      have hd2 : dotGo [] ps = os := hd
      obtain ⟨a0, c0, hv0, _, hp0⟩ := ownS_form ho.out
      have hj := HJB.out
      have hdl := HDL.out
      have hne := HNE.out
      rw [hd2] at hj hdl hne
      obtain ⟨b0, rfl, _, htx⟩ := textsAt_own (by rw [← hv0]; exact ho.out) (List.length_pos_iff.2 hne)
      subst hv0
      have HTX := Lib.hid htx; clear htx
      have HJ := Lib.hid hj; clear hj
      have HV := Lib.hid hdl; clear hdl
      clear hd hd2 hp0 ho HDL HJB HNE
      have hne2 : Lib.joinTail [47] os ≠ [] := by rw [joinTail_dots _ hne]; simp
      have HNE2 := Lib.hid hne2; clear hne2 hne
      go_wp2_with fail
      go_loop [6, 7] (fun t i => ∃ (k : Nat), k ≤ os.length ∧ i = .int .i64 k ∧ t = .string ⟨(Lib.joinTail [47] (os.take k)).toArray⟩) (fun _ i => os.length - (intOf i).toNat)
      case atStart => exact ⟨0, Nat.zero_le _, rfl, rfl⟩
      case round =>
        obtain ⟨k, hk', rfl, rfl⟩ := hrel
        by_cases hlt2 : k < os.length
        · have hcell := HTX.out.2 k hlt2
          have hstep := Lib.joinTail_take_succ [47] os k os[k] (List.getElem?_eq_getElem hlt2)
          have hle1 := Lib.joinTail_take_le [47] os (k + 1)
          rw [hstep] at hle1
          have hjj := HJ.out
          obtain ⟨x, hx⟩ : ∃ x, os[k] = x := ⟨_, rfl⟩
          rw [hx] at hcell hstep hle1
          obtain ⟨J, hJ⟩ : ∃ J : List UInt8, Lib.joinTail [47] (os.take k) = J := ⟨_, rfl⟩
          rw [hJ] at hstep hle1 ⊢
          rw [List.length_append, List.length_append] at hle1
          obtain ⟨xb, hxb⟩ : ∃ xb : ByteArray, ⟨x.toArray⟩ = xb := ⟨_, rfl⟩
          obtain ⟨Jb, hJb⟩ : ∃ Jb : ByteArray, ⟨J.toArray⟩ = Jb := ⟨_, rfl⟩
          have hcell2 : wr.cell? ⟨b0, k, none⟩ = some (.string xb) := by rw [hcell, ← hxb]; rfl
          have hjs : Jb.size ≤ 20000000000 := by rw [← hJb, Lib.size_eq]; show J.length ≤ _; omega
          have hxs : xb.size ≤ 20000000000 := by rw [← hxb, Lib.size_eq]; show x.length ≤ _; omega
          have hjc : (Jb ++ ⟨#[47]⟩ ++ xb : ByteArray) = ⟨(Lib.joinTail [47] (os.take (k + 1))).toArray⟩ := by
            rw [← hJb, ← hxb, hstep]; apply ByteArray.ext; rw [ByteArray.data_append, ByteArray.data_append]; simp
          rw [hJb]
          have HJC := Lib.hid hjc; clear hjc
          clear hx hJ hxb hJb hstep hle1 hjj hcell
          go_wp2_with fail
          go_round
          case rel => exact ⟨k + 1, by omega, by go_num, by rw [← HJC.out]⟩
          case measure => simp [intOf]; omega
        · obtain rfl : k = os.length := by omega
          have hnb : ((⟨(Lib.joinTail [47] (os.take os.length)).toArray⟩ : ByteArray).toList == []) = false := by
            rw [List.take_length, Lib.toList_data]
            rw [beq_eq_false_iff_ne]; exact HNE2.out
          rw [List.take_length] at hnb ⊢
          obtain ⟨Jb, hJb⟩ : ∃ Jb : ByteArray, ⟨(Lib.joinTail [47] os).toArray⟩ = Jb := ⟨_, rfl⟩
          rw [hJb] at hnb ⊢
          have hnb2 : Jb.toList.isEmpty = false := by rw [← hnb]; cases Jb.toList <;> rfl
          have HJb := Lib.hid hJb; clear hJb
          go_wp2_with fail
          go_ret
          exact ⟨ret_ss (by rw [HV.out, HJb.out]), HBA.out⟩

end Go.Proofs.YthhpijmkhhdhhaaDoor
