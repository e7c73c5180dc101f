/- The reference of layer 3: Plain, Read. -/
import Derived.Test.YthhpijmkhhdhhaaDoorRef3
import Derived.Test.YthhpijmkhhdhhaaDoorTool
import Derived.Test.YthhpijmkhhdhhaaDoorPct
namespace Go.Proofs.YthhpijmkhhdhhaaDoor
open Go.RowKit
set_option linter.unusedVariables false
set_option linter.unusedSimpArgs false

/-- The digits of a base. -/
def clsB (b : Nat) : Int → Bool := if b = 10 then bDigit else bHex
theorem clsB_worth (b : Nat) (hb : b = 10 ∨ b = 16) (n : Int) (h0 : 0 ≤ n) (h1 : n ≤ 255) : (clsB b n = true ∧ ∃ d : Nat, d < b ∧ worthV n b = (d : Int) ∧ hexV n = (d : Int)) ∨ (clsB b n = false ∧ worthV n b = -1) := by
  obtain ⟨c, rfl⟩ : ∃ c : Fin 256, n = (c.val : Int) := ⟨⟨n.toNat, by omega⟩, by show n = ((n.toNat : Nat) : Int); omega⟩
  rcases hb with rfl | rfl
  · have h : ∀ c : Fin 256, (bDigit (c.val : Int) = true ∧ bHex (c.val : Int) = true ∧ 0 ≤ hexV (c.val : Int) ∧ hexV (c.val : Int) < 10) ∨ (bDigit (c.val : Int) = false ∧ ¬ (bHex (c.val : Int) = true ∧ hexV (c.val : Int) < 10)) := by decide +kernel
    rcases h c with ⟨h1, h2, h3, h4⟩ | ⟨h1, h2⟩
    · exact .inl ⟨h1, (hexV (c.val : Int)).toNat, by omega, by unfold worthV; rw [if_pos ⟨h2, h4⟩]; omega, by omega⟩
    · exact .inr ⟨h1, if_neg h2⟩
  · cases h : bHex (c.val : Int) with
    | true =>
      have hr := hexV_range _ h
      exact .inl ⟨h, (hexV (c.val : Int)).toNat, by omega, by unfold worthV; rw [if_pos ⟨h, by omega⟩]; omega, by omega⟩
    | false => exact .inr ⟨h, by unfold worthV; rw [if_neg (by rw [h]; simp)]⟩
theorem clsB_hex (b : Nat) (n : Int) (h : clsB b n = true) : bHex n = true := by
  unfold clsB at h
  split at h
  · exact digit_hex n h
  · exact h
theorem digL_cls (b : Nat) (hb : b = 10 ∨ b = 16) (n : Nat) : allB (clsB b) (digL b n) = true := by
  rcases hb with rfl | rfl
  · exact digL_dec n
  · exact digL_hex (by omega) (by omega) n

def numN (b : Nat) (l : List UInt8) : Nat := (numL (b : Int) l).toNat
theorem numN_nil (b : Nat) : numN b [] = 0 := rfl
theorem numN_eq (b : Nat) (hb : 1 ≤ b) (l : List UInt8) (h : allB (clsB b) l = true) : numL (b : Int) l = (numN b l : Int) := by
  have := numL_nonneg (b : Int) (by omega) l (fun c hc => clsB_hex b _ (List.all_eq_true.1 h c hc))
  unfold numN; omega
theorem numN_snoc (b : Nat) (hb : 1 ≤ b) (l : List UInt8) (h : allB (clsB b) l = true) (c : UInt8) (d : Nat) (hd : hexV (c.toNat : Int) = d) : numN b (l ++ [c]) = numN b l * b + d := by
  have h1 := numN_eq b hb l h
  have e : numN b (l ++ [c]) = (numL (b : Int) (l ++ [c])).toNat := rfl
  rw [e, numL_snoc, h1, hd]
  have : ((numN b l : Int) * (b : Int) + (d : Int)) = ((numN b l * b + d : Nat) : Int) := by simp
  rw [this]; rfl

def PlainPost (w : World) (b : Nat) (l : List UInt8) (e : Ending) (w' : World) : Prop :=
  e = .returned (.tuple #[.string ⟨(if allB (clsB b) l then digL b (numN b l) else []).toArray⟩, .bool (allB (clsB b) l && !l.isEmpty)]) ∧ Below w.heap.size w w'
theorem ret_sb' {a c : ByteArray} {b d : Bool} (h : a = c) (h2 : b = d) : Ending.returned (.tuple #[.string a, .bool b]) = .returned (.tuple #[.string c, .bool d]) := by rw [h, h2]
theorem isEmpty_size (s : ByteArray) (h : s.size ≠ 0) : s.data.toList.isEmpty = false := by
  cases hl : s.data.toList with
  | nil => exact absurd (by rw [Lib.size_eq, hl]; rfl) h
  | cons => rfl
theorem allB_bad {q : Int → Bool} {s : ByteArray} {k : Nat} (h : k < s.size) (hx : q (s[k].toNat : Int) = false) : allB q s.data.toList = false := by
  rw [← List.take_append_drop k s.data.toList, allB_append, drop_cons s k h, allB_cons, hx]; simp
theorem plain_out {b : Nat} {N : Nat} (h : N ≠ 0) : (plainL b N) = digL b N := by unfold plainL; rw [if_neg h]

set_option maxRecDepth 100000 in
set_option maxHeartbeats 2000000 in
theorem rPlain_any (b : Nat) (hb : b = 10 ∨ b = 16) (s : ByteArray) (w : World) (hs : s.size ≤ 1000000) :
    Calls Tryd.prog 61 #[.string s, .int .i64 b] w (PlainPost w b s.data.toList) := by
  have hb1 : 2 ≤ b ∧ b ≤ 16 := by omega
  have HB := Lib.hid hb; clear hb
  go_enter Tryd.func61, Tryd.ntmps61
  go_wp2_with fail
  go_loopw [6, 7] (fun o i wr => ∃ (k N : Nat) (O : ByteArray), k ≤ s.size ∧ i = .int .i64 k ∧ o = .string O ∧ O.size ≤ k ∧ Hid (O.data.toList = plainL b N) ∧ Hid (allB (clsB b) (s.data.toList.take k) = true ∧ numN b (s.data.toList.take k) = N) ∧ Hid (Below w.heap.size w wr)) (fun _ i _ => s.size - (intOf i).toNat)
  case atStart => exact ⟨0, 0, ⟨#[]⟩, Nat.zero_le _, rfl, rfl, Nat.le_refl _, rfl, Lib.hid ⟨rfl, rfl⟩, Below.refl _ _⟩
  case round =>
    obtain ⟨k, N, O, hk, rfl, rfl, hO, hpl, hall, hbl⟩ := hrel
    by_cases hlt : k < s.size
    · have hx255 := u8_255 s[k]
      have WO := Lib.hid (fun w => rWorth_any (s[k].toNat : Int) b w (by omega) (by omega) hx255)
      rcases clsB_worth b HB.out (s[k].toNat : Int) (by omega) hx255 with ⟨h1, d, hd, h2, h3⟩ | ⟨h1, h2⟩
      · rw [h2] at WO
        have hN : allB (clsB b) (s.data.toList.take (k + 1)) = true ∧ numN b (s.data.toList.take (k + 1)) = N * b + d := by
          rw [take_snoc s k hlt]
          refine ⟨by rw [allB_append, hall.out.1]; simpa [allB] using h1, ?_⟩
          rw [numN_snoc b (by omega) _ hall.out.1 _ d h3, hall.out.2]
        have HN := Lib.hid hN; clear hN h1 h2 h3
        have DG := Lib.hid (fun w => rDigits_at b HB.out d w (by omega))
        rw [digL_small hd] at DG
        have g0 : ¬ (d : Int) < 0 := by omega
        by_cases hz : N = 0 ∧ d = 0
        · obtain ⟨rfl, rfl⟩ := hz
          have hOe : O = ⟨#[]⟩ := bytes_extX (by rw [hpl.out]; rfl)
          subst hOe
          go_wp2_with fail
          (refine (WO.out _).mono ?_; rintro e w' ⟨rfl, rfl⟩; go_wp2_with fail)
          go_roundw
          case rel => exact ⟨k + 1, 0, ⟨#[]⟩, by omega, by go_num, rfl, by omega, rfl, Lib.hid ⟨HN.out.1, by rw [HN.out.2]; simp⟩, hbl.out⟩
          case measure => simp [intOf]; omega
        · have hpush : O.data.toList ++ [dgB d] = plainL b (N * b + d) := by
            have := plainL_push (b := b) (by omega) N d hd (by omega)
            rw [digL_small hd] at this
            rw [hpl.out]; exact this
          obtain ⟨O2, hO2⟩ : ∃ O2 : ByteArray, O ++ ⟨#[dgB d]⟩ = O2 := ⟨_, rfl⟩
          have hO2l : O2.data.toList = plainL b (N * b + d) := by rw [← hpush, ← hO2, ByteArray.data_append]; simp
          have hO2s : O2.size ≤ k + 1 := by rw [← hO2, ByteArray.size_append]; show O.size + 1 ≤ _; omega
          have HP2 := Lib.hid hO2l; clear hO2l hpush
          by_cases hN0 : N = 0
          · subst hN0
            have hOe : O = ⟨#[]⟩ := bytes_extX (by rw [hpl.out]; rfl)
            subst hOe
            have hO2e : O2 = ⟨#[dgB d]⟩ := by rw [← hO2]; rfl
            have g1 : (0 : Int) < d := by omega
            have HO2E := Lib.hid hO2e; clear hO2e hO2 hz
            go_wp2_with fail
            (refine (WO.out _).mono ?_; rintro e w' ⟨rfl, rfl⟩; go_wp2_with fail)
            refine (DG.out _).mono ?_
            rintro e w3 ⟨rfl, hb3⟩
            have HB3 := Lib.hid (bseq hbl.out hb3); clear hb3
            rw [show (⟨[dgB d].toArray⟩ : ByteArray) = O2 by rw [HO2E.out]]
            go_wp2_with fail
            go_roundw
            case rel => exact ⟨k + 1, _, O2, by omega, by go_num, by first | rfl | (congr 1; apply bytes_extX; simp), hO2s, HP2.out, HN.out, HB3.out⟩
            case measure => simp [intOf]; omega
          · have hOne : O.data.toList ≠ [] := by rw [hpl.out, plain_out hN0]; exact digL_ne b N
            have n1 : O.toList.isEmpty = false := by rw [Lib.toList_data]; cases hl : O.data.toList with
              | nil => exact absurd hl hOne
              | cons => rfl
            have n2 : (O.toList == []) = false := by rw [beq_eq_false_iff_ne, Lib.toList_data]; exact hOne
            have n3 : (O.toList != []) = true := by rw [bne, n2]; rfl
            clear hOne hz hN0
            go_wp2_with fail
            (refine (WO.out _).mono ?_; rintro e w' ⟨rfl, rfl⟩; go_wp2_with fail)
            refine (DG.out _).mono ?_
            rintro e w3 ⟨rfl, hb3⟩
            have HB3 := Lib.hid (bseq hbl.out hb3); clear hb3
            go_wp2_with fail
            go_roundw
            case rel => exact ⟨k + 1, _, O2, by omega, by go_num, rfl, hO2s, HP2.out, HN.out, HB3.out⟩
            case measure => simp [intOf]; omega
      · rw [h2] at WO
        have hbad := allB_bad hlt h1
        have HBAD := Lib.hid hbad; clear hbad h1 h2
        go_wp2_with fail
        (refine (WO.out _).mono ?_; rintro e w' ⟨rfl, rfl⟩; go_wp2_with fail)
        go_ret2
        unfold PlainPost
        rw [HBAD.out]
        exact ⟨rfl, hbl.out⟩
    · obtain rfl : k = s.size := by omega
      have hT := hall.out
      rw [List.take_of_length_le (by rw [← Lib.size_eq]; omega)] at hT
      have HT := Lib.hid hT; clear hT
      obtain ⟨ne, hne⟩ : ∃ ne, (!s.data.toList.isEmpty) = ne := ⟨_, rfl⟩
      have s1 : (s.toList == []) = !ne := by rw [← hne, Lib.toList_data]; cases s.data.toList <;> rfl
      have s2 : (s.toList != []) = ne := by rw [bne, s1]; simp
      have s3 : s.toList.isEmpty = !ne := by rw [← hne, Lib.toList_data]; simp
      have HNE := Lib.hid hne; clear hne
      by_cases hN0 : N = 0
      · subst hN0
        have hOe : O = ⟨#[]⟩ := bytes_extX (by rw [hpl.out]; rfl)
        subst hOe
        have HR : Hid (digL b (numN b s.data.toList) = [48]) := Lib.hid (by rw [HT.out.2]; exact digL_zero b)
        cases ne with
        | true =>
          have s4 : ¬ s.toList = [] := by intro e; rw [e] at s1; simp at s1
          go_wp2_with fail
          go_ret2
          unfold PlainPost
          rw [HT.out.1, HR.out, HNE.out]
          exact ⟨rfl, hbl.out⟩
        | false =>
          have s4 : s.toList = [] := by simpa using s1
          go_wp2_with fail
          go_ret2
          unfold PlainPost
          rw [HT.out.1, HR.out, HNE.out]
          exact ⟨rfl, hbl.out⟩
      · have hOne : O.data.toList ≠ [] := by rw [hpl.out, plain_out hN0]; exact digL_ne b N
        have n1 : O.toList.isEmpty = false := by rw [Lib.toList_data]; cases hl : O.data.toList with
          | nil => exact absurd hl hOne
          | cons => rfl
        have n2 : (O.toList == []) = false := by rw [beq_eq_false_iff_ne, Lib.toList_data]; exact hOne
        have HR : Hid (digL b (numN b s.data.toList) = O.data.toList) := Lib.hid (by rw [HT.out.2, hpl.out, plain_out hN0])
        have hs0 : ne = true := by
          cases ne with
          | true => rfl
          | false =>
            exfalso
            have : s.data.toList = [] := by have := HNE.out; simpa using this
            have h2 := HT.out.2
            rw [this, numN_nil] at h2
            exact hN0 h2.symm
        subst hs0
        have s4 : ¬ s.toList = [] := by intro e; rw [e] at s1; simp at s1
        clear hOne hN0
        go_wp2_with fail
        go_ret2
        unfold PlainPost
        rw [HT.out.1, HR.out, HNE.out, if_pos rfl, Lib.mk_data]
        exact ⟨rfl, hbl.out⟩

theorem readV_cls (b : Nat) (hb : 1 ≤ b) (most : Int) (l : List UInt8) (h : (!l.isEmpty && allB (clsB b) l) = true) : readV (clsB b) b most l = (if (numN b l : Int) ≤ most then (numN b l : Int) else 0) ∧ readE (clsB b) b most l = (if (numN b l : Int) ≤ most then 0 else 7) := by
  unfold readV readE
  have h2 : allB (clsB b) l = true := by simp only [Bool.and_eq_true] at h; exact h.2
  rw [if_pos h, if_pos h, numN_eq b hb l h2]
  exact ⟨rfl, rfl⟩
theorem digL_at_worth (b : Nat) (hb : b = 10 ∨ b = 16) (n k : Nat) (p : ByteArray) (hp : p.data.toList = digL b n) (hk : k < p.size) : ∃ d : Nat, d < b ∧ worthV (p[k].toNat : Int) b = (d : Int) ∧ hexV (p[k].toNat : Int) = (d : Int) := by
  rcases clsB_worth b hb (p[k].toNat : Int) (by omega) (u8_255 _) with ⟨_, d, h⟩ | ⟨h1, _⟩
  · exact ⟨d, h⟩
  · have h2 := digL_cls b hb n
    rw [← hp] at h2
    rw [allB_bad hk h1] at h2; cases h2

theorem plain_len (b : Nat) (hb : b = 10 ∨ b = 16) (l : List UInt8) (h : allB (clsB b) l = true) : ∀ k, k ≤ l.length → (plainL b (numN b (l.take k))).length ≤ k := by
  intro k
  induction k with
  | zero => intro _; show (plainL b 0).length ≤ 0; unfold plainL; simp
  | succ k ih =>
    intro hk
    have ih := ih (by omega)
    have hx : l.take (k + 1) = l.take k ++ [l[k]] := List.take_succ_eq_append_getElem (by omega)
    have hallk : allB (clsB b) (l.take k) = true := List.all_eq_true.2 (fun c hc => List.all_eq_true.1 h c (List.mem_of_mem_take hc))
    have hc : clsB b (l[k].toNat : Int) = true := List.all_eq_true.1 h _ (List.getElem_mem (by omega))
    rcases clsB_worth b hb (l[k].toNat : Int) (by omega) (u8_255 _) with ⟨_, d, hd, _, h3⟩ | ⟨h1, _⟩
    · rw [hx, numN_snoc b (by omega) _ hallk _ d h3]
      by_cases hz : numN b (l.take k) = 0 ∧ d = 0
      · rw [hz.1, hz.2]; unfold plainL; simp
      · rw [← plainL_push (by omega) _ d hd (by omega), List.length_append, digL_small hd, List.length_singleton]; omega
    · rw [h1] at hc; cases hc
theorem dig_num_len (b : Nat) (hb : b = 10 ∨ b = 16) (l : List UInt8) (h : allB (clsB b) l = true) : (digL b (numN b l)).length ≤ l.length + 1 := by
  have h1 := plain_len b hb l h l.length (Nat.le_refl _)
  rw [List.take_length] at h1
  by_cases h0 : numN b l = 0
  · rw [h0, digL_zero]; simp
  · rw [plain_out h0] at h1; omega

def ReadPost (w : World) (b : Nat) (most : Int) (l : List UInt8) (e : Ending) (w' : World) : Prop :=
  e = .returned (.tuple #[.int .i64 (readV (clsB b) b most l), .int .i64 (readE (clsB b) b most l)]) ∧ Below w.heap.size w w'

set_option maxRecDepth 100000 in
set_option maxHeartbeats 2000000 in
theorem rRead_any (b : Nat) (hb : b = 10 ∨ b = 16) (s : ByteArray) (most : Int) (w : World) (hs : s.size ≤ 1000000) (hm0 : -9223372036854775808 ≤ most) (hm1 : most ≤ 9223372036854775807) :
    Calls Tryd.prog 18 #[.string s, .int .i64 b, .int .i64 most] w (ReadPost w b most s.data.toList) := by
  have hb1 : 2 ≤ b ∧ b ≤ 16 := by omega
  have PL := Lib.hid (fun w => rPlain_any b hb s w hs)
  cases hok : (allB (clsB b) s.data.toList && !s.data.toList.isEmpty) with
  | false =>
    have hok2 : (!s.data.toList.isEmpty && allB (clsB b) s.data.toList) = false := by rw [Bool.and_comm]; exact hok
    have HV : Hid (readV (clsB b) b most s.data.toList = 0 ∧ readE (clsB b) b most s.data.toList = 2) := Lib.hid (by unfold readV readE; rw [hok2]; exact ⟨rfl, rfl⟩)
    have HOK := Lib.hid hok; clear hok hok2
    go_enter Tryd.func18, Tryd.ntmps18
    go_wp2_with fail
    refine (PL.out _).mono ?_
    rintro e w1 ⟨rfl, hb1⟩
    have H1 := Lib.hid hb1; clear hb1
    rw [HOK.out]
    generalize (⟨(if allB (clsB b) s.data.toList then digL b (numN b s.data.toList) else []).toArray⟩ : ByteArray) = P0
    go_wp2_with fail
    go_ret2
    unfold ReadPost
    rw [HV.out.1, HV.out.2]
    exact ⟨rfl, H1.out⟩
  | true =>
    have hok2 : (!s.data.toList.isEmpty && allB (clsB b) s.data.toList) = true := by rw [Bool.and_comm]; exact hok
    have hall : allB (clsB b) s.data.toList = true := by simp only [Bool.and_eq_true] at hok; exact hok.1
    have HVV := Lib.hid (readV_cls b (by omega) most s.data.toList hok2)
    have HNL : Hid (numL (b : Int) s.data.toList = (numN b s.data.toList : Int)) := Lib.hid (numN_eq b (by omega) _ hall)
    obtain ⟨N, hN⟩ : ∃ N, numN b s.data.toList = N := ⟨_, rfl⟩
    rw [hN] at HVV
    obtain ⟨p, hp⟩ : ∃ p : ByteArray, ⟨(digL b N).toArray⟩ = p := ⟨_, rfl⟩
    have hpl : p.data.toList = digL b N := by rw [← hp]
    have hps : p.size ≤ 1000001 := by
      have := dig_num_len b hb _ hall
      rw [hN, ← hpl, ← Lib.size_eq, ← Lib.size_eq] at this; omega
    have hpe : (⟨(if allB (clsB b) s.data.toList then digL b (numN b s.data.toList) else []).toArray⟩ : ByteArray) = p := by rw [hall, hN, ← hp]; rfl
    have HPE := Lib.hid hpe; clear hpe
    have HOK := Lib.hid hok; clear hok hok2 hall
    have HPL := Lib.hid hpl; clear hpl hp
    have HB := Lib.hid hb; clear hb
    have DG := Lib.hid (fun (m : Nat) w h => rDigits_at b HB.out m w h)
    clear hN HNL
    by_cases hneg : most < 0
    · have HV : Hid (readV (clsB b) b most s.data.toList = 0 ∧ readE (clsB b) b most s.data.toList = 7) := Lib.hid (by
        rw [HVV.out.1, HVV.out.2, if_neg (by omega), if_neg (by omega)]; exact ⟨rfl, rfl⟩)
      go_enter Tryd.func18, Tryd.ntmps18
      go_wp2_with fail
      refine (PL.out _).mono ?_
      rintro e w1 ⟨rfl, hb1⟩
      have H1 := Lib.hid hb1; clear hb1
      rw [HOK.out, HPE.out]
      go_wp2_with fail
      go_ret2
      unfold ReadPost
      rw [HV.out.1, HV.out.2]
      exact ⟨rfl, H1.out⟩
    · obtain ⟨M, rfl⟩ : ∃ M : Nat, most = M := ⟨most.toNat, by omega⟩
      have DM := Lib.hid (fun w => DG.out M w (by omega))
      have hlen : (digL b M).length ≤ 64 := digL_len (by omega) 64 _ (by omega) (by
        have h2 : 2 ^ 64 ≤ b ^ 64 := Nat.pow_le_pow_left (by omega) 64
        have h3 : (2 : Nat) ^ 64 = 18446744073709551616 := by decide
        omega)
      obtain ⟨m, hmb⟩ : ∃ m : ByteArray, ⟨(digL b M).toArray⟩ = m := ⟨_, rfl⟩
      have hms : m.size ≤ 64 := by rw [← hmb, Lib.size_eq]; exact hlen
      have LS := Lib.hid (fun w => rLess_any m p w (by omega) (by omega))
      have hls : lessL m.data.toList p.data.toList = decide (M < N) := by rw [← hmb, HPL.out]; exact digL_lessL (by omega) (by omega) M N
      rw [hls] at LS
      rw [hmb] at DM
      clear hls hmb hlen DG
      by_cases hgt : M < N
      · have HV : Hid (readV (clsB b) b M s.data.toList = 0 ∧ readE (clsB b) b M s.data.toList = 7) := Lib.hid (by
          rw [HVV.out.1, HVV.out.2, if_neg (by omega), if_neg (by omega)]; exact ⟨rfl, rfl⟩)
        rw [decide_eq_true hgt] at LS
        go_enter Tryd.func18, Tryd.ntmps18
        go_wp2_with fail
        refine (PL.out _).mono ?_
        rintro e w1 ⟨rfl, hb1⟩
        have H1 := Lib.hid hb1; clear hb1
        rw [HOK.out, HPE.out]
        go_wp2_with fail
        (refine (DM.out _).mono ?_; rintro e w2 ⟨rfl, h2⟩; have H2 := Lib.hid h2; clear h2; go_wp2_with fail)
        (refine (LS.out _).mono ?_; rintro e w' ⟨rfl, rfl⟩; go_wp2_with fail)
        go_ret2
        unfold ReadPost
        rw [HV.out.1, HV.out.2]
        exact ⟨rfl, (bseq H1.out H2.out)⟩
      · have HV : Hid (readV (clsB b) b M s.data.toList = N ∧ readE (clsB b) b M s.data.toList = 0) := Lib.hid (by
          rw [HVV.out.1, HVV.out.2, if_pos (by omega), if_pos (by omega)]; exact ⟨rfl, rfl⟩)
        rw [decide_eq_false hgt] at LS
        go_enter Tryd.func18, Tryd.ntmps18
        go_wp2_with fail
        refine (PL.out _).mono ?_
        rintro e w1 ⟨rfl, hb1⟩
        have H1 := Lib.hid hb1; clear hb1
        rw [HOK.out, HPE.out]
        go_wp2_with fail
        (refine (DM.out _).mono ?_; rintro e w2 ⟨rfl, h2⟩; have H2 := Lib.hid h2; clear h2; go_wp2_with fail)
        (refine (LS.out _).mono ?_; rintro e w' ⟨rfl, rfl⟩; go_wp2_with fail)
        go_loop [10, 11] (fun n i => ∃ (k n0 : Nat), k ≤ p.size ∧ i = .int .i64 k ∧ n = .int .i64 n0 ∧ n0 ≤ N ∧ Hid (numL (b : Int) (p.data.toList.take k) = (n0 : Int))) (fun _ i => p.size - (intOf i).toNat)
        case atStart => exact ⟨0, 0, Nat.zero_le _, rfl, rfl, Nat.zero_le _, rfl⟩
        case round =>
          obtain ⟨k, n0, hk, rfl, rfl, hn0, hnum⟩ := hrel
          by_cases hlt : k < p.size
          · have hx255 := u8_255 p[k]
            have WO := Lib.hid (fun w => rWorth_any (p[k].toNat : Int) b w (by omega) (by omega) hx255)
            obtain ⟨d, hd, h2, h3⟩ := digL_at_worth b HB.out N k p HPL.out hlt
            rw [h2] at WO
            have hsn : numL (b : Int) (p.data.toList.take (k + 1)) = (n0 : Int) * b + d := by rw [take_snoc p k hlt, numL_snoc, hnum.out, h3]
            have hle : numL (b : Int) (p.data.toList.take (k + 1)) ≤ N := by
              have h4 := numL_mono (b : Int) (by omega) (p.data.toList.take (k + 1)) (p.data.toList.drop (k + 1)) (by
                rw [List.take_append_drop, HPL.out]
                exact List.all_eq_true.1 (digL_hex (by omega) (by omega) N))
              rw [List.take_append_drop] at h4
              conv at h4 => rhs; rw [HPL.out, digL_num (by omega) (by omega)]
              exact h4
            rw [hsn] at hle
            have hm0 : (0 : Int) ≤ (n0 : Int) * b := Int.mul_nonneg (by omega) (by omega)
            have e1 : (((n0 * b + d : Nat)) : Int) = (n0 : Int) * b + d := by simp
            have hsn2 : numL (b : Int) (p.data.toList.take (k + 1)) = ((n0 * b + d : Nat) : Int) := by rw [hsn, e1]
            obtain ⟨n1, hn1⟩ : ∃ n1, n0 * b + d = n1 := ⟨_, rfl⟩
            rw [hn1] at hsn2 e1
            have hn1N : n1 ≤ N := by omega
            have g1 : IntKind.i64.wrap ((n0 : Int) * b) = (n0 : Int) * b := IntWalk.i64_in _ (by omega)
            have g2 : IntKind.i64.wrap ((n0 : Int) * b + d) = n1 := by rw [← e1]; exact IntWalk.i64_in _ (by omega)
            have HS := Lib.hid hsn2; clear hsn2 hsn hn1 h2 h3
            have E1 := Lib.hid e1; clear e1
            go_wp2_with fail
            (refine (WO.out _).mono ?_; rintro e w' ⟨rfl, rfl⟩; go_wp2_with fail)
            go_round
            case rel => exact ⟨k + 1, n1, by omega, by go_num, rfl, hn1N, HS.out⟩
            case measure => simp [intOf]; omega
          · obtain rfl : k = p.size := by omega
            have hfin : n0 = N := by
              have := hnum.out
              rw [List.take_of_length_le (by rw [← Lib.size_eq]; omega), HPL.out, digL_num (by omega) (by omega)] at this
              omega
            subst hfin
            go_wp2_with fail
            go_ret2
            unfold ReadPost
            rw [HV.out.1, HV.out.2]
            exact ⟨rfl, (bseq H1.out H2.out)⟩

end Go.Proofs.YthhpijmkhhdhhaaDoor
