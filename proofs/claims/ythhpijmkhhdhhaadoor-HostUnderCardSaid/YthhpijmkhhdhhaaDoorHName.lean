/- hostport.percent, Name; the reference's Name. -/
import Derived.Test.YthhpijmkhhdhhaaDoorPathq
import Derived.Test.YthhpijmkhhdhhaaDoorTool
namespace Go.Proofs.YthhpijmkhhdhhaaDoor
open Go.RowKit
set_option linter.unusedVariables false
set_option linter.unusedSimpArgs false

def nameQ (n : Int) : Bool := bUnres n || bSub n
def nameL (l : List UInt8) : Bool := !l.isEmpty && pctL nameQ l
def pctHead : List UInt8 → Bool
  | c :: a :: b :: _ => (c.toNat == 37) && (bHex (a.toNat : Int) && bHex (b.toNat : Int))
  | _ => false
theorem nameQ37 : nameQ 37 = false := by decide +kernel
theorem pctHead_yes {l : List UInt8} (h : pctHead l = true) (q : Int → Bool) : 3 ≤ l.length ∧ pctL q l = pctL q (l.drop 3) := by
  match l, h with
  | c :: a :: b :: r, h =>
    simp only [pctHead, Bool.and_eq_true, beq_iff_eq] at h
    refine ⟨by simp, ?_⟩
    rw [pctL_pct q c a b r h.1, h.2.1, h.2.2]
    rfl
theorem pctHead_no {c : UInt8} {r : List UInt8} (h : pctHead (c :: r) = false) (q : Int → Bool) (hq : q 37 = false) : pctL q (c :: r) = (q (c.toNat : Int) && pctL q r) := by
  by_cases h37 : c.toNat = 37
  · have hqc : q (c.toNat : Int) = false := by rw [h37]; exact hq
    rw [hqc, Bool.false_and]
    match r, h with
    | [], _ => exact pctL_short q c _ h37 (by simp)
    | [a], _ => exact pctL_short q c _ h37 (by simp)
    | a :: b :: r, h =>
      rw [pctL_pct q c a b r h37]
      simp only [pctHead, h37, beq_self_eq_true, Bool.true_and] at h
      rw [← Bool.and_assoc, h]; rfl
  · exact pctL_plain q c r h37

set_option maxRecDepth 100000 in
theorem percent_any (s : ByteArray) (w : World) (hs : s.size ≤ 1000000) :
    Calls Tryd.prog 73 #[.string s] w fun e w' => e = .returned (.bool (pctHead s.data.toList)) ∧ Below w.heap.size w w' := by
  by_cases h3 : 3 ≤ s.size
  · have hl := drop3 s 0 (by omega)
    rw [List.drop_zero] at hl
    simp only [Nat.zero_add] at hl
    have hv : pctHead s.data.toList = ((s[0].toNat == 37) && (bHex (s[1].toNat : Int) && bHex (s[2].toNat : Int))) := by
      conv => lhs; rw [hl]
      rfl
    have g1 : (3 : Int) ≤ (s.size : Int) := by omega
    have g2 : 3 ≤ s.size := h3
    have g0 : 0 < s.size := by omega
    have g0' : (0 : Int) < (s.size : Int) := by omega
    by_cases h37 : s[0].toNat = 37
    · have hc37 : ((s[0].toNat : Int) == 37) = true := by rw [h37]; rfl
      have he := extract2 s 0 (by omega)
      simp only [Nat.zero_add] at he
      obtain ⟨x, hx⟩ : ∃ x, s.extract 1 3 = x := ⟨_, rfl⟩
      rw [hx] at he
      have AL := Lib.hid (fun w0 w h => all_hex_below x w0 w h (by rw [Lib.size_eq, he]; simp))
      have hab : allB bHex x.data.toList = (bHex (s[1].toNat : Int) && bHex (s[2].toNat : Int)) := by rw [he]; simp [allB]
      have hv2 : pctHead s.data.toList = allB bHex x.data.toList := by rw [hv, hab, h37]; rfl
      have HV := Lib.hid hv2; clear hv hv2 hab he hl h37
      go_enter Tryd.func73, Tryd.ntmps73
      go_wp2_with fail
      refine (AL.out _ _ rfl).mono ?_
      rintro e w2 ⟨rfl, hw2⟩
      have hb2 : Below w.heap.size w w2 := by rw [← hw2]; exact (Below.refl _ _).alloc (Nat.le_refl _) _
      have HB2 := Lib.hid hb2; clear hb2 hw2
      go_wp2_with fail
      go_ret
      exact ⟨ret_bool HV.out.symm, HB2.out⟩
    · have hc37 : ((s[0].toNat : Int) == 37) = false := by rw [beq_eq_false_iff_ne]; omega
      have hv2 : pctHead s.data.toList = false := by
        rw [hv, show (s[0].toNat == 37) = false by rw [beq_eq_false_iff_ne]; exact h37]; rfl
      have HV := Lib.hid hv2; clear hv hv2 hl h37
      go_enter Tryd.func73, Tryd.ntmps73
      go_wp2_with fail
      go_ret
      exact ⟨ret_bool HV.out.symm, Below.refl _ _⟩
  · have hv : pctHead s.data.toList = false := by
      have hlen : s.data.toList.length < 3 := by rw [← Lib.size_eq]; omega
      match s.data.toList, hlen with
      | [], _ => rfl
      | [_], _ => rfl
      | [_, _], _ => rfl
      | _ :: _ :: _ :: _, h => simp at h; omega
    have HV := Lib.hid hv; clear hv
    have g1 : decide ((3 : Int) ≤ (s.size : Int)) = false := decide_eq_false (by omega)
    go_enter Tryd.func73, Tryd.ntmps73
    go_wp2_with fail
    go_ret
    exact ⟨ret_bool HV.out.symm, Below.refl _ _⟩

def strSize : Value → Nat
  | .string t => t.size
  | _ => 0

set_option maxRecDepth 100000 in
set_option maxHeartbeats 1000000 in
theorem pName_any (s : ByteArray) (w : World) (hs : s.size ≤ 1000000) :
    Calls Tryd.prog 47 #[.string s] w fun e w' => e = .returned (.bool (nameL s.data.toList)) ∧ Below w.heap.size w w' := by
  by_cases h0 : s.size = 0
  · have h1 := empty_of_size s h0
    have h2 : s.toList.isEmpty = true := by rw [h1]; rfl
    have HV : Hid (nameL s.data.toList = false) := Lib.hid (by rw [size0 s h0]; rfl)
    clear h0 h1
    go_enter Tryd.func47, Tryd.ntmps47
    go_wp2_with fail
    go_ret
    exact ⟨ret_bool HV.out.symm, Below.refl _ _⟩
  · have h1 := nonempty_of_size s (by omega)
    have HV : Hid (nameL s.data.toList = pctL nameQ s.data.toList) := Lib.hid (by unfold nameL; rw [← Lib.toList_data, h1]; rfl)
    clear h0
    go_enter Tryd.func47, Tryd.ntmps47
    go_wp2_with fail
    clear h1
    go_loopw [0, 7, 12] (fun v0 _ _ wr => ∃ t : ByteArray, v0 = .string t ∧ t.size ≤ s.size ∧ Hid (pctL nameQ s.data.toList = pctL nameQ t.data.toList) ∧ Hid (Below w.heap.size w wr)) (fun v0 _ _ _ => strSize v0)
    case atStart => exact ⟨s, rfl, Nat.le_refl _, rfl, Below.refl _ _⟩
    case round =>
      obtain ⟨t, rfl, ht, hp, hb⟩ := hrel
      by_cases ht0 : t.size = 0
      · have h1 := empty_of_size t ht0
        have h2 : t.toList.isEmpty = true := by rw [h1]; rfl
        have HN : Hid (pctL nameQ s.data.toList = true) := Lib.hid (by rw [hp.out, size0 t ht0]; rfl)
        clear h1 ht0
        go_wp2_with fail
        go_ret
        exact ⟨ret_bool (by rw [HV.out, HN.out]), hb.out⟩
      · have hpos : 0 < t.size := by omega
        have h1 := nonempty_of_size t hpos
        have hl : t.data.toList = t[0] :: t.data.toList.drop 1 := by
          have := drop_cons t 0 hpos
          simpa using this
        have PC := Lib.hid (fun W => percent_any t W (by omega))
        have IU := Lib.hid (fun W => isUnres_any (t[0].toNat : Int) W (by omega) (u8_255 _))
        have IS := Lib.hid (fun W => isSub_any (t[0].toNat : Int) W (by omega) (u8_255 _))
        have hno : pctHead t.data.toList = false → pctL nameQ t.data.toList = ((bUnres (t[0].toNat : Int) || bSub (t[0].toNat : Int)) && pctL nameQ (t.data.toList.drop 1)) := by
          intro h
          rw [hl] at h
          conv => lhs; rw [hl]
          exact pctHead_no h nameQ nameQ37
        have hyes : pctHead t.data.toList = true → 3 ≤ t.size ∧ pctL nameQ t.data.toList = pctL nameQ (t.data.toList.drop 3) := by
          intro h
          have := pctHead_yes h nameQ
          rw [← Lib.size_eq] at this
          exact this
        obtain ⟨ph, hph⟩ : ∃ ph, pctHead t.data.toList = ph := ⟨_, rfl⟩
        rw [hph] at PC hno hyes
        obtain ⟨u, hu⟩ : ∃ u, bUnres (t[0].toNat : Int) = u := ⟨_, rfl⟩
        obtain ⟨b, hbs⟩ : ∃ b, bSub (t[0].toNat : Int) = b := ⟨_, rfl⟩
        rw [hu] at IU hno
        rw [hbs] at IS hno
        have HNO := Lib.hid hno; have HYES := Lib.hid hyes
        clear hno hyes hph hu hbs hl ht0
        cases ph with
        | true =>
          obtain ⟨z1, z2⟩ := HYES.out rfl
          have g1 : (3 : Int) ≤ (t.size : Int) := by omega
          have HN : Hid (pctL nameQ s.data.toList = pctL nameQ (t.extract 3 t.size).data.toList) := Lib.hid (by rw [hp.out, z2, extract_tail])
          clear z2
          go_wp2_with fail
          refine (PC.out _).mono ?_
          rintro e w2 ⟨rfl, hw2⟩
          have HB2 := Lib.hid (hb.out.trans (hw2.mono hb.out.size)); clear hw2
          go_wp2_with fail
          go_roundw
          case rel => exact ⟨_, rfl, by rw [extract_tail_size]; omega, HN.out, HB2.out⟩
          case measure => show (t.extract 3 t.size).size < t.size; rw [extract_tail_size]; omega
        | false =>
          have hd := HNO.out rfl
          have g1 : (1 : Int) ≤ (t.size : Int) := by omega
          cases u with
          | true =>
            have HN : Hid (pctL nameQ s.data.toList = pctL nameQ (t.extract 1 t.size).data.toList) := Lib.hid (by rw [hp.out, hd, extract_tail]; rfl)
            clear hd
            go_wp2_with fail
            refine (PC.out _).mono ?_
            rintro e w2 ⟨rfl, hw2⟩
            have HB2 := Lib.hid (hb.out.trans (hw2.mono hb.out.size)); clear hw2
            go_wp2_with fail
            (refine (IU.out _).mono ?_; rintro e w' ⟨rfl, rfl⟩; go_wp2_with fail)
            go_roundw
            case rel => exact ⟨_, rfl, by rw [extract_tail_size]; omega, HN.out, HB2.out⟩
            case measure => show (t.extract 1 t.size).size < t.size; rw [extract_tail_size]; omega
          | false =>
            cases b with
            | true =>
              have HN : Hid (pctL nameQ s.data.toList = pctL nameQ (t.extract 1 t.size).data.toList) := Lib.hid (by rw [hp.out, hd, extract_tail]; rfl)
              clear hd
              go_wp2_with fail
              refine (PC.out _).mono ?_
              rintro e w2 ⟨rfl, hw2⟩
              have HB2 := Lib.hid (hb.out.trans (hw2.mono hb.out.size)); clear hw2
              go_wp2_with fail
              (refine (IU.out _).mono ?_; rintro e w' ⟨rfl, rfl⟩; go_wp2_with fail)
              (refine (IS.out _).mono ?_; rintro e w' ⟨rfl, rfl⟩; go_wp2_with fail)
              go_roundw
              case rel => exact ⟨_, rfl, by rw [extract_tail_size]; omega, HN.out, HB2.out⟩
              case measure => show (t.extract 1 t.size).size < t.size; rw [extract_tail_size]; omega
            | false =>
              have HN : Hid (pctL nameQ s.data.toList = false) := Lib.hid (by rw [hp.out, hd]; rfl)
              clear hd
              go_wp2_with fail
              refine (PC.out _).mono ?_
              rintro e w2 ⟨rfl, hw2⟩
              have HB2 := Lib.hid (hb.out.trans (hw2.mono hb.out.size)); clear hw2
              go_wp2_with fail
              (refine (IU.out _).mono ?_; rintro e w' ⟨rfl, rfl⟩; go_wp2_with fail)
              (refine (IS.out _).mono ?_; rintro e w' ⟨rfl, rfl⟩; go_wp2_with fail)
              go_ret
              exact ⟨ret_bool (by rw [HV.out, HN.out]), HB2.out⟩

end Go.Proofs.YthhpijmkhhdhhaaDoor
