/- The reference's Classes, Begins, While, Take of layer 2. -/
import Derived.Test.YthhpijmkhhdhhaaScan3
import Derived.Laws.ResultCell
namespace Go.Proofs.Ythhpijmkhhdhhaa
open Go.RowKit
set_option linter.unusedVariables false
set_option linter.unusedSimpArgs false

/-- The classes of layer 2's reference. -/
def clsOf (k : Int) : Int → Bool := if k = 0 then bTok else if k = 1 then bBlank else if k = 2 then bDigit else fun _ => false

theorem classes_any (k n : Int) (hk : k = 0 ∨ k = 1 ∨ k = 2) (w : World) (h0 : 0 ≤ n) (h1 : n ≤ 255) :
    Calls Try.prog 129 #[.int .i64 k, .int .u8 n] w fun e w' => e = .returned (.bool (clsOf k n)) ∧ w = w' := by
  rcases hk with rfl | rfl | rfl
  · go_enter Try.func129, Try.ntmps129
    go_wp2_with fail
    (refine (rTok_any _ _ h0 h1).mono ?_; rintro e w' ⟨rfl, rfl⟩; go_wp2_with fail)
    go_ret
    exact ⟨rfl, rfl⟩
  · go_enter Try.func129, Try.ntmps129
    go_wp2_with fail
    (refine (rBlank_any _ _ h0 h1).mono ?_; rintro e w' ⟨rfl, rfl⟩; go_wp2_with fail)
    go_ret
    exact ⟨rfl, rfl⟩
  · go_enter Try.func129, Try.ntmps129
    go_wp2_with fail
    (refine (rDigit_any _ _ h0 h1).mono ?_; rintro e w' ⟨rfl, rfl⟩; go_wp2_with fail)
    go_ret
    exact ⟨rfl, rfl⟩

theorem begins_any (s t : ByteArray) (w : World) (hs : s.size ≤ maxLen) (ht : t.size ≤ maxLen) :
    Calls Try.prog 130 #[.string s, .string t] w fun e w' => e = .returned (.bool (Lib.hasPrefix s.data.toList t.data.toList)) ∧ w = w' := by
  unfold maxLen at hs ht
  have hr := Lib.hasPrefix_raw s t
  by_cases h : t.size ≤ s.size
  · have hd : decide ((t.size : Int) ≤ s.size) = true := by simp; omega
    have h2 : (t.size : Int) ≤ s.size := by omega
    rw [decide_eq_true h, Bool.true_and] at hr
    have HR := Lib.hid hr; clear hr
    go_enter Try.func130, Try.ntmps130
    go_wp2_with fail
    go_ret
    exact ⟨ret_bool HR.out, rfl⟩
  · have hd : decide ((t.size : Int) ≤ s.size) = false := by simp; omega
    rw [decide_eq_false h, Bool.false_and] at hr
    have HR := Lib.hid hr; clear hr
    go_enter Try.func130, Try.ntmps130
    go_wp2_with fail
    go_ret
    exact ⟨ret_bool HR.out, rfl⟩

theorem takeN_step (q : Int → Bool) (s : ByteArray) (i n : Nat) (hn : n < s.size) (hall : ∀ x ∈ (ahead s i).take (n - i), q (x.toNat : Int) = true) (hi : i ≤ n) (h : q (s[n].toNat : Int) = false) : takeN q (ahead s i) = n - i := by
  obtain ⟨r, hr⟩ := ahead_at s i n hi hn
  unfold takeN
  rw [hr, List.takeWhile_append_of_pos (by simpa using hall), List.takeWhile_cons_of_neg (by simp [h]), List.append_nil, List.length_take, ahead_len]
  omega

theorem takeN_end (q : Int → Bool) (s : ByteArray) (i : Nat) (hall : ∀ x ∈ (ahead s i).take (s.size - i), q (x.toNat : Int) = true) : takeN q (ahead s i) = s.size - i := by
  have e : (ahead s i).take (s.size - i) = ahead s i := List.take_of_length_le (by rw [ahead_len]; exact Nat.le_refl _)
  rw [e] at hall
  unfold takeN
  rw [takeWhile_all (by simpa using hall), ahead_len]

def RWhilePost (w : World) (s : ByteArray) (i : Nat) (q : Int → Bool) (e : Ending) (w' : World) : Prop :=
  e = .returned (.tuple #[.agg #[.string s, .int .i64 ((i + takeN q (ahead s i) : Nat) : Int)], .string (s.extract i (i + takeN q (ahead s i)))]) ∧ Below w.heap.size w w'

theorem rWhile_any (s : ByteArray) (i : Nat) (k : Int) (hk : k = 0 ∨ k = 1 ∨ k = 2) (w : World) (hi : i ≤ s.size) (hs : s.size ≤ 1000000) :
    Calls Try.prog 111 #[.agg #[.string s, .int .i64 (i : Int)], .int .i64 k] w (RWhilePost w s i (clsOf k)) := by
  have C := Lib.hid (fun n w h0 h1 => classes_any k n hk w h0 h1)
  clear hk
  go_enter Try.func111, Try.ntmps111
  go_wp2_with fail
  go_loop [6] (fun n => ∃ j : Nat, i ≤ j ∧ j ≤ s.size ∧ n = .int .i64 j ∧ Hid (∀ x ∈ (ahead s i).take (j - i), clsOf k (x.toNat : Int) = true)) (fun n => s.size - (intOf n).toNat)
  case atStart => exact ⟨i, Nat.le_refl _, hi, rfl, by intro x hx; simp at hx⟩
  case round =>
    obtain ⟨j, hij, hj, rfl, hall⟩ := hrel
    by_cases hlt : j < s.size
    · have hd : decide ((j : Int) < s.size) = true := by simp; omega
      have hb1 : ((s[j].toNat : Nat) : Int) ≤ 255 := by have := s[j].toNat_lt; omega
      by_cases hc : clsOf k (s[j].toNat : Int) = true
      · go_wp2_with fail
        refine (C.out _ _ (by omega) hb1).mono ?_
        rintro e w' ⟨rfl, rfl⟩
        rw [hc]
        have HC := Lib.hid hc; clear hc
        go_wp2_with fail
        go_round
        case rel =>
          refine ⟨j + 1, by omega, by omega, by go_num, ?_⟩
          rw [ahead_take_succ s i j hij hlt]
          intro x hx
          rcases List.mem_append.1 hx with h | h
          · exact hall.out x h
          · simp at h; subst h; exact HC.out
        case measure => simp [intOf]; omega
      · rw [Bool.not_eq_true] at hc
        go_wp2_with fail
        refine (C.out _ _ (by omega) hb1).mono ?_
        rintro e w' ⟨rfl, rfl⟩
        rw [hc]
        have HC := Lib.hid hc; clear hc
        have hT := takeN_step (clsOf k) s i j hlt hall.out hij HC.out
        have HT := Lib.hid hT; clear hT
        have hij2 : (i : Int) ≤ j := by omega
        have hj2 : (j : Int) ≤ s.size := by omega
        go_wp2_with fail
        go_region
        go_wp2
        (try simp only [Exit.inBlock, Exit.then])
        refine bodyPost_ret (v := .tuple #[.agg #[.string s, .int .i64 (j : Int)], .string (s.extract i j)]) (by rw [results_cell_tmp rfl]; go_simp) rfl ⟨?_, ?_⟩
        · rw [HT.out, show i + (j - i) = j from by omega]
        · exact Below.drew (((Below.refl _ _).alloc (Nat.le_refl _) _).alloc (by simp) _)
    · obtain rfl : j = s.size := by omega
      have hd : decide ((s.size : Int) < s.size) = false := by simp
      have hij2 : (i : Int) ≤ s.size := by omega
      have HT := Lib.hid (takeN_end (clsOf k) s i hall.out)
      go_wp2_with fail
      go_region
      go_wp2
      (try simp only [Exit.inBlock, Exit.then])
      refine bodyPost_ret (v := .tuple #[.agg #[.string s, .int .i64 (s.size : Int)], .string (s.extract i s.size)]) (by rw [results_cell_tmp rfl]; go_simp) rfl ⟨?_, ?_⟩
      · rw [HT.out, show i + (s.size - i) = s.size from by omega]
      · exact Below.drew (((Below.refl _ _).alloc (Nat.le_refl _) _).alloc (by simp) _)

def RTakePost (w : World) (s : ByteArray) (i : Nat) (t : ByteArray) (e : Ending) (w' : World) : Prop :=
  e = .returned (.tuple #[.agg #[.string s, .int .i64 ((if nextText s i t then i + t.size else i : Nat) : Int)], .bool (nextText s i t)]) ∧ Below w.heap.size w w'

theorem rTake_any (s : ByteArray) (i : Nat) (t : ByteArray) (w : World) (hi : i ≤ s.size) (hs : s.size ≤ 1000000) (ht : t.size ≤ maxLen) :
    Calls Try.prog 112 #[.agg #[.string s, .int .i64 (i : Int)], .string t] w (RTakePost w s i t) := by
  have B := Lib.hid (fun w => begins_any (s.extract i s.size) t w (by rw [Lib.size_eq, rest_list, ahead_len]; unfold maxLen; omega) ht)
  have hi2 : (i : Int) ≤ s.size := by omega
  unfold RTakePost
  by_cases h : nextText s i t = true
  · have hf := nextText_fits hi h
    have h2 : Lib.hasPrefix (s.extract i s.size).data.toList t.data.toList = true := by rw [rest_list]; exact h
    have H2 := Lib.hid h2; clear h2
    rw [if_pos h]
    have H := Lib.hid h; clear h
    go_enter Try.func112, Try.ntmps112
    go_wp2_with fail
    refine (B.out _).mono ?_
    rintro e w' ⟨rfl, rfl⟩
    rw [H2.out]
    go_wp2_with fail
    (try simp only [Exit.inBlock, Exit.then])
    refine bodyPost_ret (v := .tuple #[.agg #[.string s, .int .i64 ((i + t.size : Nat) : Int)], .bool true]) (by rw [results_cell_tmp rfl]; go_simp) rfl ⟨by rw [H.out], ?_⟩
    exact ((Below.refl _ _).alloc (Nat.le_refl _) _).alloc (by simp) _
  · rw [if_neg h]
    rw [Bool.not_eq_true] at h
    have h2 : Lib.hasPrefix (s.extract i s.size).data.toList t.data.toList = false := by rw [rest_list]; exact h
    have H2 := Lib.hid h2; clear h2
    have H := Lib.hid h; clear h
    go_enter Try.func112, Try.ntmps112
    go_wp2_with fail
    refine (B.out _).mono ?_
    rintro e w' ⟨rfl, rfl⟩
    rw [H2.out]
    go_wp2_with fail
    (try simp only [Exit.inBlock, Exit.then])
    refine bodyPost_ret (v := .tuple #[.agg #[.string s, .int .i64 (i : Int)], .bool false]) (by rw [results_cell_tmp rfl]; go_simp) rfl ⟨by rw [H.out], ?_⟩
    exact ((Below.refl _ _).alloc (Nat.le_refl _) _).alloc (by simp) _

end Go.Proofs.Ythhpijmkhhdhhaa
