/- Hosts: what is read is written again; an address of four is a name. -/
import Derived.Test.YthhpijmkhhdhhaaDoorHTextR
namespace Go.Proofs.YthhpijmkhhdhhaaDoor
open Go.RowKit
set_option linter.unusedVariables false
set_option linter.unusedSimpArgs false

theorem in_list (s : ByteArray) (h : brkB s = true) : s.data.toList = 91 :: ((inB s).data.toList ++ [93]) := by
  have h2 : 2 < s.size := by
    rcases Nat.lt_or_ge 2 s.size with h2 | h2
    · exact h2
    · rw [brk_short s (by omega)] at h; cases h
  rw [brk_long s h2] at h
  simp only [Bool.and_eq_true, beq_iff_eq] at h
  obtain ⟨⟨h0, h1⟩, _⟩ := h
  have e0 : s[0] = 91 := UInt8.toNat_inj.1 (by rw [show (91 : UInt8).toNat = 91 from rfl]; omega)
  have e1 : s[s.size - 1] = 93 := UInt8.toNat_inj.1 (by rw [show (93 : UInt8).toNat = 93 from rfl]; omega)
  have d0 := drop_cons s 0 (by omega)
  rw [List.drop_zero, e0] at d0
  have d1 := drop_cons s (s.size - 1) (by omega)
  rw [e1, drop_all s (s.size - 1 + 1) (by omega)] at d1
  have hin : (inB s).data.toList = (s.data.toList.drop 1).take (s.size - 2) := by
    unfold inB
    rw [Lib.extract_data]
    congr 1
  have d2 : (s.data.toList.drop 1).drop (s.size - 2) = [93] := by
    rw [List.drop_drop, show 1 + (s.size - 2) = s.size - 1 by omega]; exact d1
  rw [hin, ← d2, List.take_append_drop]
  exact d0
theorem inB_size (s : ByteArray) : (inB s).size ≤ s.size := by
  unfold inB; rw [Lib.size_eq, Lib.extract_data, List.length_take, List.length_drop, ← Lib.size_eq]; omega

theorem ofB_txt (s : ByteArray) (h : ofOk s = true) : preL (ofB s) = s.data.toList ∧ (ofB s).Po = -1 ∧ (ofB s).Nm.size ≤ s.size := by
  unfold ofOk at h
  unfold ofB
  by_cases h1 : brkB s = true
  · rw [if_pos h1]
    refine ⟨?_, rfl, inB_size s⟩
    unfold preL
    rw [if_pos rfl]
    exact (in_list s h1).symm
  · rw [if_neg h1]
    by_cases h2 : fourL s.data.toList = true
    · rw [if_pos h2]
      exact ⟨by unfold preL; rw [if_neg (by show ¬ (2 : Int) = 3; decide)], rfl, Nat.le_refl _⟩
    · rw [if_neg h2]
      by_cases h3 : nameL s.data.toList = true
      · rw [if_pos h3]
        exact ⟨by unfold preL; rw [if_neg (by show ¬ (1 : Int) = 3; decide)], rfl, Nat.le_refl _⟩
      · simp only [Bool.not_eq_true] at h1 h2 h3
        rw [h1, h2, h3] at h; cases h

theorem parse_txt (s : ByteArray) (h : HostB) (hp : parseB s = some h) : txtL h = s.data.toList ∧ h.Nm.size ≤ s.size ∧ -1 ≤ h.Po ∧ h.Po ≤ 65535 := by
  unfold parseB at hp
  by_cases hok : ofOk s = true
  · rw [if_pos hok] at hp
    cases hp
    obtain ⟨a, b, c⟩ := ofB_txt s hok
    refine ⟨?_, c, by rw [b]; decide, by rw [b]; decide⟩
    unfold txtL
    rw [a, if_pos b, List.append_nil]
  · rw [if_neg hok] at hp
    by_cases hl : Lib.lastIndexByte s 58 < 0
    · rw [if_pos hl] at hp; cases hp
    · rw [if_neg hl] at hp
      rcases Lib.lastIndexByte_spec s 58 with ⟨e, _⟩ | ⟨i, hi, e, hc, _⟩
      · rw [e] at hl; exact absurd (by decide) hl
      · rw [e] at hp
        unfold portOf at hp
        rw [Int.toNat_natCast] at hp
        split at hp
        · rename_i hcond
          simp only [Bool.and_eq_true] at hcond
          cases hp
          obtain ⟨a, b, c⟩ := ofB_txt _ hcond.1
          have hsm := hcond.2
          unfold smallL at hsm
          simp only [Bool.and_eq_true, beq_iff_eq] at hsm
          have hr := readV_range 65535 _ hsm.1
          have hsz : (s.extract 0 i).size ≤ s.size := by rw [Lib.size_eq, Lib.extract_data, List.length_take, List.length_drop, ← Lib.size_eq]; omega
          refine ⟨?_, Nat.le_trans c hsz, ?_, hr.2⟩
          · unfold txtL
            have hpre : preL { ofB (s.extract 0 i) with Po := readV bDigit 10 65535 (s.extract (i + 1) s.size).data.toList } = preL (ofB (s.extract 0 i)) := rfl
            rw [hpre, a]
            show (s.extract 0 i).data.toList ++ (if readV bDigit 10 65535 (s.extract (i + 1) s.size).data.toList = -1 then [] else 58 :: textB 10 (readV bDigit 10 65535 (s.extract (i + 1) s.size).data.toList)) = _
            rw [if_neg (by omega), hsm.2, extract_tail, Lib.extract_data, List.drop_zero, Nat.sub_zero]
            have hs58 : s[i] = 58 := by
              have e2 : s.data[i]! = s[i] := by rw [getElem!_pos s.data i hi]; rfl
              rw [e2] at hc
              exact UInt8.toNat_inj.1 (by rw [show (58 : UInt8).toNat = 58 from rfl]; omega)
            have hd := drop_cons s i hi
            rw [hs58] at hd
            rw [← hd, List.take_append_drop]
          · show -1 ≤ readV bDigit 10 65535 (s.extract (i + 1) s.size).data.toList
            omega
        · cases hp
theorem back_parse (s : ByteArray) (h : HostB) (hp : parseB s = some h) : backH h = true ∧ mkH (txtL h) = s := by
  obtain ⟨a, _⟩ := parse_txt s h hp
  have e : mkH (txtL h) = s := by rw [a, mkH_of]
  refine ⟨?_, e⟩
  unfold backH
  rw [e, hp]
  exact (hostEq_iff h h).2 rfl

theorem pctL_all (q : Int → Bool) : ∀ l : List UInt8, (∀ x ∈ l, x.toNat ≠ 37 ∧ q (x.toNat : Int) = true) → pctL q l = true
  | [], _ => rfl
  | x :: r, h => by
    rw [pctL_plain q x r (h x (List.mem_cons_self ..)).1, (h x (List.mem_cons_self ..)).2, pctL_all q r (fun y hy => h y (List.mem_cons_of_mem _ hy))]; rfl
theorem nameQ_dig : ∀ n : Fin 256, bDigit (n.val : Int) = true → nameQ (n.val : Int) = true ∧ n.val ≠ 37 := by decide +kernel
theorem nameQ_46 : nameQ 46 = true := by decide +kernel
theorem join_mem {c x : UInt8} : ∀ ps : List (List UInt8), x ∈ Lib.join ps [c] → x = c ∨ ∃ p ∈ ps, x ∈ p
  | [], h => by rw [Lib.join_nil] at h; simp at h
  | p :: ps, h => by
    rw [Lib.join_cons, List.mem_append] at h
    rcases h with h | h
    · exact .inr ⟨p, List.mem_cons_self .., h⟩
    · unfold Lib.joinTail at h
      rw [List.mem_flatten] at h
      obtain ⟨l, hl, hx⟩ := h
      obtain ⟨q, hq, rfl⟩ := List.mem_map.1 hl
      rcases List.mem_append.1 hx with hx | hx
      · left; simpa using hx
      · exact .inr ⟨q, List.mem_cons_of_mem _ hq, hx⟩
theorem four_name (l : List UInt8) (h : fourL l = true) : nameL l = true := by
  unfold fourL at h
  simp only [Bool.and_eq_true, beq_iff_eq] at h
  obtain ⟨h1, h2⟩ := h
  have hmem : ∀ x ∈ l, x.toNat ≠ 37 ∧ nameQ (x.toNat : Int) = true := by
    intro x hx
    rw [← partsL_join 46 l] at hx
    rcases join_mem _ hx with rfl | ⟨p, hp, hxp⟩
    · exact ⟨by decide, nameQ_46⟩
    · have hs := List.all_eq_true.1 h1 p hp
      unfold smallL at hs
      simp only [Bool.and_eq_true, beq_iff_eq] at hs
      have hd : allB bDigit p = true := by
        rw [← hs.2]
        unfold textB
        split
        · rfl
        · exact digL_dec _
      have hdx := List.all_eq_true.1 hd x hxp
      have := nameQ_dig ⟨x.toNat, x.toNat_lt⟩ hdx
      exact ⟨this.2, this.1⟩
  unfold nameL
  rw [pctL_all _ _ hmem]
  cases l with
  | nil => simp [partsL] at h2
  | cons c r => rfl

end Go.Proofs.YthhpijmkhhdhhaaDoor
