/- QuotedNone, QuotedReads. -/
import Derived.Test.YthhpijmkhhdhhaaLaw5
import Derived.IntWalk
namespace Go.Proofs.Ythhpijmkhhdhhaa
open Go.RowKit
set_option linter.unusedVariables false
set_option linter.unusedSimpArgs false

theorem unq_cut (l : List UInt8) (h : allB bValue l = true) (k : Nat) (hk : k < (quoteL l).length) : unqL ((quoteL l).take k) = none := by
  unfold unqL
  cases hp : frontL ((quoteL l).take k) with
  | none => rfl
  | some p => exact (frontL_cut l h k hk p hp).elim

set_option maxRecDepth 100000 in
set_option maxHeartbeats 1000000 in
theorem quotedNone_walk (s : ByteArray) (cut : Int) (W : World) (hs : s.size ≤ maxLen) (h0 : 0 ≤ cut) (h1 : cut ≤ 255) :
    Calls Try.prog 13 #[.string s, .int .u8 cut] W fun e w' => e = .returned (.bool true) ∧ Below W.heap.size W w' := by
  obtain ⟨t, hT⟩ : ∃ t, cutS 300 s = t := ⟨_, rfl⟩
  have ht : t.size ≤ 300 := by rw [← hT, cutS_size]; omega
  have hl := Lib.size_eq t
  have Q0 := Lib.hid (fun w => few5_at s t w hs hT)
  by_cases hv : allB bValue t.data.toList = true
  · have hql := quoteL_len t.data.toList
    have hql2 := quoteL_len2 t.data.toList
    have hq : quoteO t.data.toList = some (quoteL t.data.toList) := by unfold quoteO; rw [if_pos hv]
    obtain ⟨Q, hQ⟩ : ∃ Q : ByteArray, (⟨(quoteL t.data.toList).toArray⟩ : ByteArray) = Q := ⟨_, rfl⟩
    have hQd : Q.data.toList = quoteL t.data.toList := by rw [← hQ]
    have hQz : Q.size = (quoteL t.data.toList).length := by rw [← hQ, Lib.size_eq]
    have hQs : Q.size ≤ 1000000 := by omega
    have hQ1 : 1 ≤ Q.size := by omega
    obtain ⟨k, hk⟩ : ∃ k, cut.toNat % Q.size = k := ⟨_, rfl⟩
    have hkQ : k < Q.size := by rw [← hk]; exact Nat.mod_lt _ (by omega)
    have hrem : cut.tmod (Q.size : Int) = (k : Int) := by
      rw [Int.tmod_eq_emod_of_nonneg h0, ← hk, Int.natCast_emod, Int.toNat_of_nonneg h0]
    have hQk : unqL (Q.extract 0 k).data.toList = none := by
      rw [Lib.extract_data, List.drop_zero, Nat.sub_zero, hQd]
      exact unq_cut _ hv k (by omega)
    have hQks : (Q.extract 0 k).size ≤ 1000000 := by rw [Lib.size_eq, Lib.extract_data, List.length_take, List.length_drop]; omega
    have Q1 := Lib.hid (fun w => quote_at t w (by omega) Q 0 (by rw [hq]; exact hQ) (by rw [hq]; rfl))
    have Q5 := Lib.hid (fun w => unquote_at (Q.extract 0 k) w hQks ⟨#[]⟩ 2 (by rw [hQk]; rfl) (by rw [hQk]; rfl))
    have hne : ¬ (Q.size : Int) = 0 := by omega
    have hkq : (k : Int) ≤ Q.size := by omega
    clear hQk hQd hQz hQ hq hql hql2 hv hT hk hl
    go_enter Try.func13, Try.ntmps13
    go_wp2_with fail
    (refine (awake5_any _).mono ?_; rintro e w1 ⟨rfl, h1⟩; have H1 := Lib.hid h1; clear h1; go_wp2_with fail)
    (refine (nil_read _).mono ?_; rintro e w2 ⟨rfl, h2⟩; have H2 := Lib.hid h2; clear h2; go_wp2_with fail)
    (refine (nil_word _).mono ?_; rintro e w3 ⟨rfl, h3⟩; have H3 := Lib.hid h3; clear h3; go_wp2_with fail)
    (refine (Q0.out _).mono ?_; rintro e w' ⟨rfl, rfl⟩; go_wp2_with fail)
    (refine (Q1.out _).mono ?_; rintro e w4 ⟨rfl, h4⟩; have H4 := Lib.hid h4; clear h4; go_wp2_with fail)
    (refine (Q5.out _).mono ?_; rintro e w5 ⟨rfl, h5⟩; have H5 := Lib.hid h5; clear h5; go_wp2_with fail)
    go_ret
    exact ⟨rfl, (bseq (bseq (bseq (bseq H1.out H2.out) H3.out) H4.out) H5.out)⟩
  · have hq : quoteO t.data.toList = none := by unfold quoteO; rw [if_neg hv]
    have Q1 := Lib.hid (fun w => quote_at t w (by omega) ⟨#[]⟩ 2 (by rw [hq]; rfl) (by rw [hq]; rfl))
    clear hq hv hT
    go_enter Try.func13, Try.ntmps13
    go_wp2_with fail
    (refine (awake5_any _).mono ?_; rintro e w1 ⟨rfl, h1⟩; have H1 := Lib.hid h1; clear h1; go_wp2_with fail)
    (refine (nil_read _).mono ?_; rintro e w2 ⟨rfl, h2⟩; have H2 := Lib.hid h2; clear h2; go_wp2_with fail)
    (refine (nil_word _).mono ?_; rintro e w3 ⟨rfl, h3⟩; have H3 := Lib.hid h3; clear h3; go_wp2_with fail)
    (refine (Q0.out _).mono ?_; rintro e w' ⟨rfl, rfl⟩; go_wp2_with fail)
    (refine (Q1.out _).mono ?_; rintro e w4 ⟨rfl, h4⟩; have H4 := Lib.hid h4; clear h4; go_wp2_with fail)
    go_ret
    exact ⟨rfl, (bseq (bseq (bseq H1.out H2.out) H3.out) H4.out)⟩

end Go.Proofs.Ythhpijmkhhdhhaa
