/- The laws of layer 5. -/
import Derived.Test.YthhpijmkhhdhhaaQuote
import Derived.Test.YthhpijmkhhdhhaaRead3
namespace Go.Proofs.Ythhpijmkhhdhhaa
open Go.RowKit
set_option linter.unusedVariables false
set_option linter.unusedSimpArgs false

theorem quote_at (s : ByteArray) (w : World) (hs : s.size ≤ 1000000) (Q : ByteArray) (n : Int) (h1 : tT (quoteO s.data.toList) = Q) (h2 : tE (quoteO s.data.toList) = n) :
    Calls Try.prog 74 #[.string s] w fun e w' => e = .returned (.tuple #[.string Q, .int .i64 n]) ∧ Below w.heap.size w w' := by subst h1 h2; exact quote_any s w hs
theorem either_at (s : ByteArray) (w : World) (hs : s.size ≤ 1000000) (Q : ByteArray) (n : Int) (h1 : tT (eitherL s.data.toList) = Q) (h2 : tE (eitherL s.data.toList) = n) :
    Calls Try.prog 76 #[.string s] w fun e w' => e = .returned (.tuple #[.string Q, .int .i64 n]) ∧ Below w.heap.size w w' := by subst h1 h2; exact either_any s w hs
theorem rQuote_at (s : ByteArray) (w : World) (hs : s.size ≤ 1000000) (Q : ByteArray) (n : Int) (h1 : tT (quoteO s.data.toList) = Q) (h2 : tE (quoteO s.data.toList) = n) :
    Calls Try.prog 75 #[.string s] w fun e w' => e = .returned (.tuple #[.string Q, .int .i64 n]) ∧ w = w' := by subst h1 h2; exact rQuote_any s w hs
theorem rEither_at (s : ByteArray) (w : World) (hs : s.size ≤ 1000000) (Q : ByteArray) (n : Int) (h1 : tT (eitherL s.data.toList) = Q) (h2 : tE (eitherL s.data.toList) = n) :
    Calls Try.prog 77 #[.string s] w fun e w' => e = .returned (.tuple #[.string Q, .int .i64 n]) ∧ w = w' := by subst h1 h2; exact rEither_any s w hs
theorem unquote_at (s : ByteArray) (w : World) (hs : s.size ≤ 1000000) (Q : ByteArray) (n : Int) (h1 : uT (unqL s.data.toList) = Q) (h2 : uE (unqL s.data.toList) = n) :
    Calls Try.prog 78 #[.string s] w fun e w' => e = .returned (.tuple #[.string Q, .int .i64 n]) ∧ Below w.heap.size w w' := by subst h1 h2; exact unquote_any s w hs

theorem bytes_ext {a b : ByteArray} (h : a.data.toList = b.data.toList) : a = b := by apply ByteArray.ext; apply Array.ext'; exact h

theorem few5_at (s t : ByteArray) (w : World) (hs : s.size ≤ maxLen) (ht : cutS 300 s = t) :
    Calls Try.prog 73 #[.string s] w fun e w' => e = .returned (.string t) ∧ w = w' := by
  subst ht
  unfold maxLen at hs
  go_enter Try.func73, Try.ntmps73
  go_wp2_with fail
  go_ret
  exact ⟨ret_str (extract_cutS 300 s _ (by omega)), rfl⟩

theorem awake5_any (w : World) :
    Calls Try.prog 72 #[] w fun e w' => e = .returned (.bool true) ∧ Below w.heap.size w w' := by
  go_enter Try.func72, Try.ntmps72
  go_wp2_with fail
  (refine (quote_at _ _ (by decide) ⟨#[34, 97, 92, 34, 98, 34]⟩ 0 (bytes_ext (by decide +kernel)) (by decide +kernel)).mono ?_; rintro e w1 ⟨rfl, h1⟩; have H1 := Lib.hid h1; clear h1; go_wp2_with fail)
  (refine (either_at _ _ (by decide) ⟨#[34, 97, 32, 98, 34]⟩ 0 (bytes_ext (by decide +kernel)) (by decide +kernel)).mono ?_; rintro e w2 ⟨rfl, h2⟩; have H2 := Lib.hid h2; clear h2; go_wp2_with fail)
  (refine (either_at _ _ (by decide) ⟨#[97, 98]⟩ 0 (bytes_ext (by decide +kernel)) (by decide +kernel)).mono ?_; rintro e w3 ⟨rfl, h3⟩; have H3 := Lib.hid h3; clear h3; go_wp2_with fail)
  go_ret
  exact ⟨rfl, (bseq (bseq H1.out H2.out) H3.out)⟩

theorem neq_self (X : ByteArray) : (X.toList != X.toList) = false := by simp
theorem eqq_self (X : ByteArray) : (X.toList == X.toList) = true := by simp

theorem unq_quote (l : List UInt8) (h : allB bValue l = true) : unqL (quoteL l) = some l := by
  unfold unqL; rw [frontL_quote l h]; simp only; rw [if_pos trivial]

theorem either_small (l x : List UInt8) (h : eitherL l = some x) : x.length ≤ 2 * l.length + 2 := by
  unfold eitherL at h
  split at h
  · injection h with h; subst h; omega
  · split at h
    · injection h with h; subst h; exact quoteL_len l
    · cases h

theorem either_of_value (l : List UInt8) (h : allB bValue l = true) : ∃ x, eitherL l = some x := by
  unfold eitherL
  by_cases ht : tokenL l = true
  · exact ⟨_, by rw [if_pos ht]⟩
  · exact ⟨_, by rw [if_neg ht, if_pos h]⟩

set_option maxRecDepth 100000 in
set_option maxHeartbeats 1000000 in
theorem quotedWrites_walk (s : ByteArray) (W : World) (hs : s.size ≤ maxLen) :
    Calls Try.prog 12 #[.string s] W fun e w' => e = .returned (.bool true) ∧ Below W.heap.size W w' := by
  obtain ⟨t, hT⟩ : ∃ t, cutS 300 s = t := ⟨_, rfl⟩
  have ht : t.size ≤ 300 := by rw [← hT, cutS_size]; omega
  have hl := Lib.size_eq t
  by_cases hv : allB bValue t.data.toList = true
  · obtain ⟨x, hx⟩ := either_of_value _ hv
    have hxl := either_small _ x hx
    have hql := quoteL_len t.data.toList
    have hq : quoteO t.data.toList = some (quoteL t.data.toList) := by unfold quoteO; rw [if_pos hv]
    obtain ⟨Q, hQ⟩ : ∃ Q : ByteArray, (⟨(quoteL t.data.toList).toArray⟩ : ByteArray) = Q := ⟨_, rfl⟩
    obtain ⟨X, hX⟩ : ∃ X : ByteArray, (⟨x.toArray⟩ : ByteArray) = X := ⟨_, rfl⟩
    have hQs : Q.size ≤ 1000000 := by rw [← hQ, Lib.size_eq]; simp only; omega
    have hXs : X.size ≤ 1000000 := by rw [← hX, Lib.size_eq]; simp only; omega
    have hQu : unqL Q.data.toList = some t.data.toList := by rw [← hQ]; exact unq_quote _ hv
    have hXw : wordL X.data.toList = some (t.data.toList, X.size) := by
      have h1 := wordL_either t.data.toList x [] hx (.inl rfl)
      rw [List.append_nil] at h1
      rw [← hX, Lib.size_eq]
      exact h1
    have hts : (⟨t.data.toList.toArray⟩ : ByteArray) = t := bytes_ext rfl
    have Q1 := Lib.hid (fun w => quote_at t w (by omega) Q 0 (by rw [hq]; exact hQ) (by rw [hq]; rfl))
    have Q2 := Lib.hid (fun w => rQuote_at t w (by omega) Q 0 (by rw [hq]; exact hQ) (by rw [hq]; rfl))
    have Q3 := Lib.hid (fun w => either_at t w (by omega) X 0 (by rw [hx]; exact hX) (by rw [hx]; rfl))
    have Q4 := Lib.hid (fun w => rEither_at t w (by omega) X 0 (by rw [hx]; exact hX) (by rw [hx]; rfl))
    have Q5 := Lib.hid (fun w => unquote_at Q w hQs t 0 (by rw [hQu]; exact hts) (by rw [hQu]; rfl))
    have Q0 := Lib.hid (fun w => few5_at s t w hs hT)
    have n1 := neq_self Q
    have n2 := neq_self X
    have n3 := eqq_self t
    have HXW := Lib.hid hXw; clear hXw hQu hq hx hxl hql hQ hX hv hT
    clear hts
    go_enter Try.func12, Try.ntmps12
    go_wp2_with fail
    (refine (awake5_any _).mono ?_; rintro e w1 ⟨rfl, h1⟩; have H1 := Lib.hid h1; clear h1; go_wp2_with fail)
    (refine (Q0.out _).mono ?_; rintro e w' ⟨rfl, rfl⟩; go_wp2_with fail)
    (refine (Q1.out _).mono ?_; rintro e w2 ⟨rfl, h2⟩; have H2 := Lib.hid h2; clear h2; go_wp2_with fail)
    (refine (Q2.out _).mono ?_; rintro e w' ⟨rfl, rfl⟩; go_wp2_with fail)
    (refine (Q3.out _).mono ?_; rintro e w3 ⟨rfl, h3⟩; have H3 := Lib.hid h3; clear h3; go_wp2_with fail)
    (refine (Q4.out _).mono ?_; rintro e w' ⟨rfl, rfl⟩; go_wp2_with fail)
    (refine (Q5.out _).mono ?_; rintro e w4 ⟨rfl, h4⟩; have H4 := Lib.hid h4; clear h4; go_wp2_with fail)
    refine (scan_new X w4).mono ?_
    rintro e w5 ⟨rfl, hw5⟩
    have SA := scanAt_new X w4 hXs
    have hb5 : Below w4.heap.size w4 w5 := by rw [← hw5]; exact (Below.refl _ _).alloc (Nat.le_refl _) _
    have hz5 : w4.heap.size < w5.heap.size := by rw [← hw5]; simp
    rw [hw5] at SA
    have WD := Lib.hid (quoted_word w5 _ X 0 SA)
    rw [ahead0, HXW.out] at WD
    have H5 := Lib.hid hb5; clear hb5 hw5 SA
    go_wp2_with fail
    refine WD.out.mono ?_
    rintro e w6 ⟨rfl, hs6, hf6⟩
    have EN := Lib.hid (scan_end w6 _ X _ hs6)
    have hb6 : Below w4.heap.size w4 w6 := H5.out.trans (hf6.below (Nat.le_refl _) (by omega))
    have H6 := Lib.hid hb6; clear hb6 hf6 hs6
    have hd : decide (X.size ≤ 0 + oN (some (t.data.toList, X.size))) = true := decide_eq_true (by show X.size ≤ 0 + X.size; omega)
    have HD := Lib.hid hd; clear hd
    simp only [oT, oOk]
    rw [show (⟨t.data.toList.toArray⟩ : ByteArray) = t from bytes_ext rfl]
    go_wp2_with fail
    refine EN.out.mono ?_
    rintro e w7 ⟨rfl, n, rfl⟩
    rw [HD.out]
    go_wp2_with fail
    go_ret
    exact ⟨rfl, below_drewN' (bseq (bseq (bseq (bseq H1.out H2.out) H3.out) H4.out) H6.out) n⟩
  · have hq : quoteO t.data.toList = none := by unfold quoteO; rw [if_neg hv]
    obtain ⟨X, hX⟩ : ∃ X, tT (eitherL t.data.toList) = X := ⟨_, rfl⟩
    obtain ⟨n, hn⟩ : ∃ n, tE (eitherL t.data.toList) = n := ⟨_, rfl⟩
    have Q1 := Lib.hid (fun w => quote_at t w (by omega) ⟨#[]⟩ 2 (by rw [hq]; rfl) (by rw [hq]; rfl))
    have Q2 := Lib.hid (fun w => rQuote_at t w (by omega) ⟨#[]⟩ 2 (by rw [hq]; rfl) (by rw [hq]; rfl))
    have Q3 := Lib.hid (fun w => either_at t w (by omega) X n hX hn)
    have Q4 := Lib.hid (fun w => rEither_at t w (by omega) X n hX hn)
    have Q0 := Lib.hid (fun w => few5_at s t w hs hT)
    have n2 := neq_self X
    have n3 : (n != n) = false := by simp
    clear hX hn hq hv hT
    go_enter Try.func12, Try.ntmps12
    go_wp2_with fail
    (refine (awake5_any _).mono ?_; rintro e w1 ⟨rfl, h1⟩; have H1 := Lib.hid h1; clear h1; go_wp2_with fail)
    (refine (Q0.out _).mono ?_; rintro e w' ⟨rfl, rfl⟩; go_wp2_with fail)
    (refine (Q1.out _).mono ?_; rintro e w2 ⟨rfl, h2⟩; have H2 := Lib.hid h2; clear h2; go_wp2_with fail)
    (refine (Q2.out _).mono ?_; rintro e w' ⟨rfl, rfl⟩; go_wp2_with fail)
    (refine (Q3.out _).mono ?_; rintro e w3 ⟨rfl, h3⟩; have H3 := Lib.hid h3; clear h3; go_wp2_with fail)
    (refine (Q4.out _).mono ?_; rintro e w' ⟨rfl, rfl⟩; go_wp2_with fail)
    go_ret
    exact ⟨rfl, (bseq (bseq H1.out H2.out) H3.out)⟩

end Go.Proofs.Ythhpijmkhhdhhaa
