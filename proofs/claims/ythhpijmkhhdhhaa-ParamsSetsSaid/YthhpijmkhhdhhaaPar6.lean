/- The reference's Text of layer 7. -/
import Derived.Test.YthhpijmkhhdhhaaPar5
namespace Go.Proofs.Ythhpijmkhhdhhaa
open Go.RowKit
set_option linter.unusedVariables false
set_option linter.unusedSimpArgs false

theorem joinL_len (xs : List (List UInt8)) (h : ∀ x ∈ xs, x.length ≤ 3003) : (joinL xs).length ≤ xs.length * 3004 := by
  induction xs with
  | nil => simp [joinL]
  | cons x r ih =>
    have h1 := ih (fun y hy => h y (List.mem_cons_of_mem _ hy))
    have h2 := h x (List.mem_cons_self ..)
    cases r with
    | nil => simp [joinL]; omega
    | cons y q =>
      show (x ++ 59 :: joinL (y :: q)).length ≤ _
      rw [List.length_append, List.length_cons]
      simp only [List.length_cons] at h1 ⊢
      omega

theorem join_first (xs : List (List UInt8)) (h : xs = []) (a v : List UInt8) : (bs (joinL xs) ++ bs a ++ ⟨#[61]⟩ ++ bs v : ByteArray) = bs (joinL (xs ++ [a ++ 61 :: v])) := by
  subst h
  apply bytes_ext0
  rw [ByteArray.data_append, ByteArray.data_append, ByteArray.data_append]
  simp [bs, joinL]

theorem join_next (xs : List (List UInt8)) (h : xs ≠ []) (a v : List UInt8) : (bs (joinL xs) ++ ⟨#[59]⟩ ++ bs a ++ ⟨#[61]⟩ ++ bs v : ByteArray) = bs (joinL (xs ++ [a ++ 61 :: v])) := by
  rw [joinL_snoc xs _ h]
  apply bytes_ext0
  rw [ByteArray.data_append, ByteArray.data_append, ByteArray.data_append, ByteArray.data_append]
  simp [bs]

set_option maxRecDepth 100000 in
set_option maxHeartbeats 2000000 in
theorem rText_any (w : World) (a : Option Addr) (n cap : Nat) (ps : PL) (h : PsAt w a ps) (hn : n = ps.length) (hok : PsOk ps) :
    Calls Try.prog 90 #[.slice a n cap] w fun e w' => e = .returned (.tuple #[.string (tT (textL ps)), .int .i64 (tE (textL ps))]) ∧ w = w' := by
  subst hn
  obtain ⟨hn, hsz⟩ := hok
  have HA := Lib.hid h; clear h
  have HSZ := Lib.hid hsz; clear hsz
  go_enter Try.func90, Try.ntmps90
  go_wp2_with fail
  go_loop [4, 5, 6, 7] (fun out i _ _ => ∃ (k : Nat) (xs : List (List UInt8)), k ≤ ps.length ∧ i = .int .i64 k ∧ out = .string (bs (joinL xs)) ∧ Hid (itemsL (ps.take k) = some xs) ∧ xs.length = k ∧ Hid (∀ x ∈ xs, x.length ≤ 3003)) (fun _ i _ _ => ps.length - (intOf i).toNat)
  case atStart => exact ⟨0, [], Nat.zero_le _, rfl, rfl, rfl, rfl, by intro x hx; simp at hx⟩
  case round =>
    obtain ⟨k, xs, hk, rfl, rfl, hit, hxl, hxs⟩ := hrel
    by_cases hlt : k < ps.length
    · obtain ⟨b, o, rfl, hbs, x0, x1⟩ := psAt_at HA.out k hlt
      obtain ⟨z1, z2⟩ := HSZ.out _ (List.getElem_mem hlt)
      have hst := itemsL_take ps k hlt xs hit.out
      have hno := fun h : itemL ps[k] = none => textL_none hlt h
      have hil := fun x (h : itemL ps[k] = some x) => itemL_len h z1 z2
      have hdef : itemL ps[k] = if tokenL ps[k].1 = true then (eitherL ps[k].2).map fun v => ps[k].1 ++ 61 :: v else none := rfl
      generalize ps[k] = p at *
      have HST := Lib.hid hst; clear hst
      have HNO := Lib.hid hno; clear hno
      have HIL := Lib.hid hil; clear hil
      have hp1 : (bs p.1).size ≤ 1000 := by rw [bs_size]; exact z1
      have hp2 : (bs p.2).size ≤ 1000 := by rw [bs_size]; exact z2
      have hjl := joinL_len xs hxs.out
      have hjs : (bs (joinL xs)).size ≤ 1000000 := by rw [bs_size]; have : xs.length * 3004 ≤ 300 * 3004 := Nat.mul_le_mul_right _ (by omega); omega
      have EI := Lib.hid (fun w => rEither_any (bs p.2) w (by omega))
      have TK := Lib.hid (fun w => rToken_any (bs p.1) w (by unfold maxLen; omega))
      simp only [bs_data] at EI TK
      clear hjl
      cases he : eitherL p.2 with
      | none =>
        rw [he] at EI
        rw [he] at hdef
        have hi0 : itemL p = none := by rw [hdef]; split <;> rfl
        have HN := Lib.hid (HNO.out hi0)
        clear hi0 hdef he
        go_wp2_with fail
        refine (EI.out _).mono ?_
        rintro e w2 ⟨rfl, rfl⟩
        simp only [tT, tE]
        go_wp2_with fail
        go_ret2
        rw [HN.out]
        exact ⟨ret_si rfl rfl, rfl⟩
      | some v =>
        rw [he] at EI
        rw [he] at hdef
        have hvl : v.length ≤ 2002 := by
          unfold eitherL at he
          split at he
          · injection he with he; subst he; omega
          · split at he
            · injection he with he; subst he; have := quoteL_len p.2; omega
            · cases he
        have hvs : (bs v).size ≤ 2002 := by rw [bs_size]; exact hvl
        by_cases ht : tokenL p.1 = true
        · rw [if_pos ht] at hdef
          simp only [Option.map_some] at hdef
          have hst := HST.out
          rw [hdef] at hst
          have hxl2 := HIL.out _ hdef
          have HST2 := Lib.hid hst; clear hst
          have HT := Lib.hid ht
          clear ht HST HNO HIL hdef
          by_cases hk0 : k = 0
          · have hx0 : xs = [] := List.length_eq_zero_iff.1 (by omega)
            have hk1 : ¬ (0 < k) := by omega
            have HJ := Lib.hid (join_first xs hx0 p.1 v)
            clear hx0 hk0
            go_wp2_with fail
            refine (EI.out _).mono ?_
            rintro e w2 ⟨rfl, rfl⟩
            simp only [tT, tE]
            rw [show (⟨v.toArray⟩ : ByteArray) = bs v from rfl]
            go_wp2_with fail
            refine (TK.out _).mono ?_
            rintro e w3 ⟨rfl, rfl⟩
            rw [HT.out]
            go_wp2_with fail
            go_round
            case rel =>
              refine ⟨k + 1, xs ++ [p.1 ++ 61 :: v], by omega, by go_num, congrArg Value.string HJ.out, HST2.out, by simp [hxl], ?_⟩
              intro x hx
              rcases List.mem_append.1 hx with h | h
              · exact hxs.out x h
              · simp at h; subst h; exact hxl2
            case measure => simp [intOf]; omega
          · have hx0 : xs ≠ [] := fun e => by rw [e] at hxl; simp at hxl; omega
            have hk1 : 0 < k := by omega
            have HJ := Lib.hid (join_next xs hx0 p.1 v)
            clear hx0 hk0
            go_wp2_with fail
            refine (EI.out _).mono ?_
            rintro e w2 ⟨rfl, rfl⟩
            simp only [tT, tE]
            rw [show (⟨v.toArray⟩ : ByteArray) = bs v from rfl]
            go_wp2_with fail
            refine (TK.out _).mono ?_
            rintro e w3 ⟨rfl, rfl⟩
            rw [HT.out]
            go_wp2_with fail
            go_round
            case rel =>
              refine ⟨k + 1, xs ++ [p.1 ++ 61 :: v], by omega, by go_num, congrArg Value.string HJ.out, HST2.out, by simp [hxl], ?_⟩
              intro x hx
              rcases List.mem_append.1 hx with h | h
              · exact hxs.out x h
              · simp at h; subst h; exact hxl2
            case measure => simp [intOf]; omega
        · rw [if_neg ht] at hdef
          rw [Bool.not_eq_true] at ht
          have HT := Lib.hid ht
          have HN := Lib.hid (HNO.out hdef)
          clear ht hdef
          go_wp2_with fail
          refine (EI.out _).mono ?_
          rintro e w2 ⟨rfl, rfl⟩
          simp only [tT, tE]
          go_wp2_with fail
          refine (TK.out _).mono ?_
          rintro e w3 ⟨rfl, rfl⟩
          rw [HT.out]
          go_wp2_with fail
          go_ret2
          rw [HN.out]
          exact ⟨ret_si rfl rfl, rfl⟩
    · obtain rfl : k = ps.length := by omega
      have hit2 := hit.out
      rw [List.take_length] at hit2
      by_cases h0 : ps = []
      · have h00 : ((ps.length : Int) == 0) = true := by rw [h0]; rfl
        have HN : Hid (textL ps = none) := Lib.hid (by unfold textL; rw [if_pos h0])
        clear h0 hit2
        go_wp2_with fail
        go_ret2
        rw [HN.out]
        exact ⟨ret_si rfl rfl, rfl⟩
      · have hl0 : 0 < ps.length := by cases ps with | nil => exact absurd rfl h0 | cons a b => simp
        have h00 : ((ps.length : Int) == 0) = false := by rw [beq_eq_false_iff_ne]; omega
        have HT : Hid (textL ps = some (joinL xs)) := Lib.hid (by unfold textL; rw [if_neg h0, hit2]; rfl)
        clear h0 hit2
        go_wp2_with fail
        go_ret2
        rw [HT.out]
        exact ⟨ret_si rfl rfl, rfl⟩

end Go.Proofs.Ythhpijmkhhdhhaa
