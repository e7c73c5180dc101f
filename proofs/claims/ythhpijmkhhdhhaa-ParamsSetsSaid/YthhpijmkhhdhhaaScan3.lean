/- Scanner's While with functions that only compute; Token, Blanks, Text, Back; a nil scanner. -/
import Derived.Test.YthhpijmkhhdhhaaScan2
import Derived.Test.YthhpijmkhhdhhaaLaw1
namespace Go.Proofs.Ythhpijmkhhdhhaa
open Go.RowKit
set_option linter.unusedVariables false
set_option linter.unusedSimpArgs false

/-- How many bytes at the front answer q. -/
def takeN (q : Int → Bool) (l : List UInt8) : Nat := (l.takeWhile fun x => q (x.toNat : Int)).length

theorem takeN_le (q : Int → Bool) (l : List UInt8) : takeN q l ≤ l.length := (List.takeWhile_prefix _).length_le

theorem allRun_takes (q : UInt8 → Bool) (l : List UInt8) : ∀ seen, (allRun (fun l => q (l.getLastD 0)) seen l).2.length = seen.length + (if (allRun (fun l => q (l.getLastD 0)) seen l).1 then l.length else (l.takeWhile q).length + 1) := by
  induction l with
  | nil => intro seen; simp [allRun]
  | cons c r ih =>
    intro seen
    have hl : (seen ++ [c]).getLastD 0 = c := by simp
    by_cases h : q c = true
    · have hstep : allRun (fun l => q (l.getLastD 0)) seen (c :: r) = allRun (fun l => q (l.getLastD 0)) (seen ++ [c]) r := by
        conv => lhs; unfold allRun
        rw [if_pos (by rw [hl]; exact h)]
      rw [hstep, ih, List.takeWhile_cons_of_pos h]
      simp only [List.length_append, List.length_cons, List.length_nil]
      split <;> omega
    · have hstep : allRun (fun l => q (l.getLastD 0)) seen (c :: r) = (false, seen ++ [c]) := by
        conv => lhs; unfold allRun
        rw [if_neg (by rw [hl]; exact h)]
      rw [hstep, List.takeWhile_cons_of_neg h]
      simp

theorem takeWhile_all {q : UInt8 → Bool} {l : List UInt8} (h : l.all q = true) : l.takeWhile q = l := by
  induction l with
  | nil => rfl
  | cons c r ih =>
    rw [List.all_cons, Bool.and_eq_true] at h
    rw [List.takeWhile_cons_of_pos h.1, ih h.2]

theorem allRun_full (q : UInt8 → Bool) (l : List UInt8) : ∀ seen, (allRun (fun l => q (l.getLastD 0)) seen l).1 = true → (l.takeWhile q).length = l.length := by
  intro seen h
  rw [allRun_pure] at h
  rw [takeWhile_all h]

theorem whileN_pure (q : Int → Bool) (l : List UInt8) : whileN (fun l => q ((l.getLastD 0).toNat : Int)) l = takeN q l := by
  have h := allRun_takes (fun c => q (c.toNat : Int)) l []
  have h2 := allRun_full (fun c => q (c.toNat : Int)) l []
  unfold whileN takeN
  split
  · next h3 => exact (h2 h3).symm
  · next h3 => rw [if_neg h3] at h; rw [h]; simp

def TakePost (w : World) (c : Nat) (s : ByteArray) (i : Nat) (q : Int → Bool) (e : Ending) (w' : World) : Prop :=
  e = .returned (.string (s.extract i (i + takeN q (ahead s i)))) ∧ ScanAt w' c s (i + takeN q (ahead s i)) ∧ FrC c w w'

theorem while_pure (k : Nat) (q : Int → Bool) (w : World) (c : Nat) (s : ByteArray) (i : Nat) (h : ScanAt w c s i)
    (hk : ∀ args w', (callFunc k args).run Try.prog w' = .ok (.enter k args) w')
    (hcall : ∀ (n : Int) w', 0 ≤ n → n ≤ 255 → Calls Try.prog k #[.int .u8 n] w' fun e w'' => e = .returned (.bool (q n)) ∧ w' = w'') :
    Calls Try.prog 64 #[.pointer (some ⟨c, 0, none⟩), .func (.func k) #[] #[]] w (TakePost w c s i q) := by
  refine (while_gen k #[] #[] c s i (fun l => q ((l.getLastD 0).toNat : Int)) (fun _ w' => FrC c w w') w hk h (fun _ _ _ a b => a.trans b) ?_ (FrC.refl c w)).mono ?_
  · intro seen x w' _ hf
    have := hcall (x.toNat : Int) w' (by omega) (by have := x.toNat_lt; omega)
    have h2 : Calls Try.prog k #[.int .u8 (x.toNat : Int)] w' fun e w'' => e = .returned (.bool (q (((seen ++ [x]).getLastD 0).toNat : Int))) ∧ FrC c w w'' ∧ w''.heap[c]? = w'.heap[c]? := by
      refine this.mono ?_
      rintro e w'' ⟨rfl, rfl⟩
      exact ⟨by simp, hf, rfl⟩
    simpa using h2
  · rintro e w' ⟨he, hs, hf⟩
    rw [whileN_pure] at he hs
    exact ⟨he, hs, hf⟩

theorem scan_blanks (w : World) (c : Nat) (s : ByteArray) (i : Nat) (h : ScanAt w c s i) :
    Calls Try.prog 108 #[.pointer (some ⟨c, 0, none⟩)] w (TakePost w c s i bBlank) := by
  have hk := enter_of_name Try.func36 (by kernel_rfl) (by kernel_rfl)
  have R := Lib.hid (while_pure _ bBlank w c s i h hk (fun n w' a b => isBlank_any n w'))
  clear h hk
  go_enter Try.func108, Try.ntmps108
  go_wp2_with fail
  refine R.out.mono ?_
  rintro e w' ⟨rfl, hs, hf⟩
  have HS := Lib.hid hs; clear hs
  go_wp2_with fail
  go_ret
  exact ⟨rfl, HS.out, hf⟩

def TokenPost (w : World) (c : Nat) (s : ByteArray) (i : Nat) (e : Ending) (w' : World) : Prop :=
  e = .returned (.tuple #[.string (s.extract i (i + takeN bTok (ahead s i))), .bool (decide (0 < takeN bTok (ahead s i)))]) ∧ ScanAt w' c s (i + takeN bTok (ahead s i)) ∧ FrC c w w'

theorem ret_sb {a c : ByteArray} {b d : Bool} (h : a = c) (h2 : b = d) : Ending.returned (.tuple #[.string a, .bool b]) = .returned (.tuple #[.string c, .bool d]) := by rw [h, h2]

theorem extract_size0 (s : ByteArray) (i n : Nat) (h : i + n ≤ s.size) : (s.extract i (i + n)).toList.isEmpty = decide (n = 0) := by
  rw [Lib.toList_data, Lib.extract_data, Bool.eq_iff_iff, List.isEmpty_iff, decide_eq_true_eq]
  have e := Lib.size_eq s
  constructor
  · intro h2
    have := congrArg List.length h2
    rw [List.length_take, List.length_drop, List.length_nil] at this
    omega
  · rintro rfl
    simp

theorem takeN_fits {w : World} {c : Nat} {s : ByteArray} {i : Nat} (h : ScanAt w c s i) (q : Int → Bool) : i + takeN q (ahead s i) ≤ s.size := by
  have := takeN_le q (ahead s i)
  rw [ahead_len] at this
  have := h.2.1
  omega

theorem scan_token (w : World) (c : Nat) (s : ByteArray) (i : Nat) (h : ScanAt w c s i) :
    Calls Try.prog 107 #[.pointer (some ⟨c, 0, none⟩)] w (TokenPost w c s i) := by
  have hk := enter_of_name Try.func40 (by kernel_rfl) (by kernel_rfl)
  have R := Lib.hid (while_pure _ bTok w c s i h hk (fun n w' a b => isToken_any n w' a b))
  have E := Lib.hid (extract_size0 s i (takeN bTok (ahead s i)) (takeN_fits h bTok))
  clear h hk
  go_enter Try.func107, Try.ntmps107
  go_wp2_with fail
  refine R.out.mono ?_
  rintro e w' ⟨rfl, hs, hf⟩
  have HS := Lib.hid hs; clear hs
  go_wp2_with fail
  go_ret2
  refine ⟨ret_sb rfl ?_, HS.out, hf⟩
  rw [E.out]; by_cases hz : takeN bTok (ahead s i) = 0
  · simp [hz]
  · simp [hz]; omega

theorem scan_digits (w : World) (c : Nat) (s : ByteArray) (i : Nat) (h : ScanAt w c s i) :
    Calls Try.prog 64 #[.pointer (some ⟨c, 0, none⟩), .func (.func 30) #[] #[]] w (TakePost w c s i bDigit) :=
  while_pure _ bDigit w c s i h (enter_of_name Try.func30 (by kernel_rfl) (by kernel_rfl)) (fun n w' a b => isDigit_any n w')

/-- Does a text begin here? -/
def nextText (s : ByteArray) (i : Nat) (t : ByteArray) : Bool := Lib.hasPrefix (ahead s i) t.data.toList

theorem rest_list (s : ByteArray) (i : Nat) : (s.extract i s.size).data.toList = ahead s i := by
  rw [Lib.extract_data]; unfold ahead
  exact List.take_of_length_le (by rw [List.length_drop, ← Lib.size_eq]; omega)

def TextPost (w : World) (c : Nat) (s : ByteArray) (i : Nat) (t : ByteArray) (e : Ending) (w' : World) : Prop :=
  e = .returned (.bool (nextText s i t)) ∧ ScanAt w' c s (if nextText s i t then i + t.size else i) ∧ FrC c w w'

theorem nextText_fits {s : ByteArray} {i : Nat} {t : ByteArray} (hi : i ≤ s.size) (h : nextText s i t = true) : i + t.size ≤ s.size := by
  unfold nextText Lib.hasPrefix at h
  have := (List.isPrefixOf_iff_prefix.mp h).length_le
  rw [ahead_len] at this
  have := Lib.size_eq t
  omega

theorem scan_text (w : World) (c : Nat) (s : ByteArray) (i : Nat) (t : ByteArray) (h : ScanAt w c s i) :
    Calls Try.prog 82 #[.pointer (some ⟨c, 0, none⟩), .string t] w (TextPost w c s i t) := by
  have R := Lib.hid (scan_rest w c s i h)
  obtain ⟨c0, c1, c2, _⟩ := scan_cells h
  have hs := h.2.2
  have hi := h.2.1
  have H := Lib.hid h; clear h
  by_cases hp : nextText s i t = true
  · have hf := nextText_fits hi hp
    have HP := Lib.hid hp; clear hp
    go_enter Try.func82, Try.ntmps82
    go_wp2_with fail
    refine R.out.mono ?_
    rintro e w' ⟨rfl, n, rfl⟩
    go_wp2_with fail
    refine (Try.strings_HasPrefix _ _ _).mono ?_
    rintro e w2 ⟨rfl, rfl⟩
    rw [rest_list]
    have hp : Lib.hasPrefix (ahead s i) t.data.toList = true := HP.out
    rw [hp]; clear hp
    go_wp2_with fail
    go_ret
    refine ⟨ret_bool HP.out.symm, ?_, ((FrC.refl _ _).drewN _).setCell _ _⟩
    rw [if_pos HP.out]
    exact scanAt_set (w := w.drewN n) H.out (i + t.size) _ (by omega) hf
  · rw [Bool.not_eq_true] at hp
    have HP := Lib.hid hp; clear hp
    go_enter Try.func82, Try.ntmps82
    go_wp2_with fail
    refine R.out.mono ?_
    rintro e w' ⟨rfl, n, rfl⟩
    go_wp2_with fail
    refine (Try.strings_HasPrefix _ _ _).mono ?_
    rintro e w2 ⟨rfl, rfl⟩
    rw [rest_list]
    have hp : Lib.hasPrefix (ahead s i) t.data.toList = false := HP.out
    rw [hp]; clear hp
    go_wp2_with fail
    go_ret
    refine ⟨ret_bool HP.out.symm, ?_, (FrC.refl _ _).drewN _⟩
    rw [if_neg (by rw [HP.out]; simp)]
    exact H.out

def BackPost (w : World) (c : Nat) (s : ByteArray) (i : Nat) (n : Int) (e : Ending) (w' : World) : Prop :=
  e = .returned (.bool (decide (0 ≤ n ∧ n ≤ i))) ∧ ScanAt w' c s (if 0 ≤ n ∧ n ≤ i then n.toNat else i) ∧ FrC c w w'

theorem scan_back (w : World) (c : Nat) (s : ByteArray) (i : Nat) (n : Int) (h : ScanAt w c s i) :
    Calls Try.prog 113 #[.pointer (some ⟨c, 0, none⟩), .int .i64 n] w (BackPost w c s i n) := by
  have R := Lib.hid (scan_at w c s i h)
  obtain ⟨c0, c1, c2, _⟩ := scan_cells h
  have hs := h.2.2
  have hi := h.2.1
  have H := Lib.hid h; clear h
  by_cases h0 : 0 ≤ n
  · by_cases h1 : n ≤ i
    · have h0d : decide (n < 0) = false := by simp; omega
      have h1d : decide ((i : Int) < n) = false := by simp; omega
      go_enter Try.func113, Try.ntmps113
      go_wp2_with fail
      refine R.out.mono ?_
      rintro e w' ⟨rfl, rfl⟩
      go_wp2_with fail
      go_ret
      refine ⟨ret_bool (by simp; omega), ?_, (FrC.refl _ _).setCell _ _⟩
      rw [if_pos ⟨h0, h1⟩]
      exact scanAt_set H.out n.toNat _ (by omega) (by omega)
    · have h0d : decide (n < 0) = false := by simp; omega
      have h1d : decide ((i : Int) < n) = true := by simp; omega
      go_enter Try.func113, Try.ntmps113
      go_wp2_with fail
      refine R.out.mono ?_
      rintro e w' ⟨rfl, rfl⟩
      go_wp2_with fail
      go_ret
      refine ⟨ret_bool (by simp; omega), ?_, FrC.refl _ _⟩
      rw [if_neg (by omega)]
      exact H.out
  · have h0d : decide (n < 0) = true := by simp; omega
    go_enter Try.func113, Try.ntmps113
    go_wp2_with fail
    go_ret
    refine ⟨ret_bool (by simp; omega), ?_, FrC.refl _ _⟩
    rw [if_neg (by omega)]
    exact H.out

/-! A nil scanner. -/
theorem nil_at (w : World) : Calls Try.prog 66 #[.pointer none] w fun e w' => e = .returned (.int .i64 0) ∧ w = w' := by
  go_enter Try.func66, Try.ntmps66
  go_wp2
  go_ret
  exact ⟨rfl, rfl⟩

theorem nil_rest (w : World) : Calls Try.prog 67 #[.pointer none] w fun e w' => e = .returned (.string ⟨#[]⟩) ∧ w = w' := by
  go_enter Try.func67, Try.ntmps67
  go_wp2
  go_ret
  exact ⟨rfl, rfl⟩

theorem nil_end (w : World) : Calls Try.prog 69 #[.pointer none] w fun e w' => e = .returned (.bool true) ∧ w = w' := by
  go_enter Try.func69, Try.ntmps69
  go_wp2_with fail
  refine (nil_rest _).mono ?_
  rintro e w' ⟨rfl, rfl⟩
  go_wp2
  go_ret
  exact ⟨rfl, rfl⟩

theorem nil_peek (w : World) : Calls Try.prog 110 #[.pointer none] w fun e w' => e = .returned (.tuple #[.int .u8 0, .bool false]) ∧ w = w' := by
  go_enter Try.func110, Try.ntmps110
  go_wp2_with fail
  refine (nil_end _).mono ?_
  rintro e w' ⟨rfl, rfl⟩
  go_wp2
  go_ret2
  exact ⟨rfl, rfl⟩

theorem nil_byte (b : Int) (w : World) : Calls Try.prog 109 #[.pointer none, .int .u8 b] w fun e w' => e = .returned (.bool false) ∧ w = w' := by
  go_enter Try.func109, Try.ntmps109
  go_wp2_with fail
  refine (nil_peek _).mono ?_
  rintro e w' ⟨rfl, rfl⟩
  go_wp2
  go_ret
  exact ⟨rfl, rfl⟩

theorem nil_text (t : ByteArray) (w : World) : Calls Try.prog 82 #[.pointer none, .string t] w fun e w' => e = .returned (.bool (decide (t.size = 0))) ∧ w = w' := by
  have h2 : Lib.hasPrefix [] t.data.toList = decide (t.size = 0) := by
    rw [Lib.size_eq]; cases t.data.toList <;> simp [Lib.hasPrefix]
  by_cases h0 : t.size = 0
  · have H0 : decide (t.size = 0) = true := by simp [h0]
    rw [H0] at h2
    have H2 := Lib.hid h2; clear h2
    have HH := Lib.hid h0; clear h0
    have HD := Lib.hid H0; clear H0
    go_enter Try.func82, Try.ntmps82
    go_wp2_with fail
    refine (nil_rest _).mono ?_
    rintro e w' ⟨rfl, rfl⟩
    go_wp2_with fail
    refine (Try.strings_HasPrefix _ _ _).mono ?_
    rintro e w' ⟨rfl, rfl⟩
    have h2 : Lib.hasPrefix (ByteArray.mk #[]).data.toList t.data.toList = true := H2.out
    rw [h2]; clear h2
    go_wp2_with fail
    go_ret
    exact ⟨ret_bool HD.out.symm, rfl⟩
  · have H0 : decide (t.size = 0) = false := by simp [h0]
    rw [H0] at h2
    have H2 := Lib.hid h2; clear h2
    have HH := Lib.hid h0; clear h0
    have HD := Lib.hid H0; clear H0
    go_enter Try.func82, Try.ntmps82
    go_wp2_with fail
    refine (nil_rest _).mono ?_
    rintro e w' ⟨rfl, rfl⟩
    go_wp2_with fail
    refine (Try.strings_HasPrefix _ _ _).mono ?_
    rintro e w' ⟨rfl, rfl⟩
    have h2 : Lib.hasPrefix (ByteArray.mk #[]).data.toList t.data.toList = false := H2.out
    rw [h2]; clear h2
    go_wp2_with fail
    go_ret
    exact ⟨ret_bool HD.out.symm, rfl⟩

theorem nil_while (f : Value) (w : World) : Calls Try.prog 64 #[.pointer none, f] w fun e w' => e = .returned (.string ⟨#[]⟩) ∧ w = w' := by
  go_enter Try.func64, Try.ntmps64
  go_wp2_with fail
  refine (nil_at _).mono ?_
  rintro e w' ⟨rfl, rfl⟩
  go_wp2_with fail
  go_loopg [6, 7] 0 (fun _ _ _ wr => Hid (w = wr))
  case atStart => exact rfl
  case round =>
    obtain rfl := hrel.out
    go_wp2_with fail
    refine (nil_peek _).mono ?_
    rintro e w' ⟨rfl, rfl⟩
    go_wp2
    go_ret
    exact ⟨rfl, rfl⟩

theorem nil_blanks (w : World) : Calls Try.prog 108 #[.pointer none] w fun e w' => e = .returned (.string ⟨#[]⟩) ∧ w = w' := by
  go_enter Try.func108, Try.ntmps108
  go_wp2_with fail
  refine (nil_while _ _).mono ?_
  rintro e w' ⟨rfl, rfl⟩
  go_wp2
  go_ret
  exact ⟨rfl, rfl⟩

theorem nil_token (w : World) : Calls Try.prog 107 #[.pointer none] w fun e w' => e = .returned (.tuple #[.string ⟨#[]⟩, .bool false]) ∧ w = w' := by
  go_enter Try.func107, Try.ntmps107
  go_wp2_with fail
  refine (nil_while _ _).mono ?_
  rintro e w' ⟨rfl, rfl⟩
  go_wp2
  go_ret2
  exact ⟨rfl, rfl⟩

theorem nil_back (n : Int) (w : World) : Calls Try.prog 113 #[.pointer none, .int .i64 n] w fun e w' => e = .returned (.bool (decide (n = 0))) ∧ w = w' := by
  by_cases h0 : 0 ≤ n
  · by_cases h1 : n ≤ 0
    · obtain rfl : n = 0 := by omega
      go_enter Try.func113, Try.ntmps113
      go_wp2_with fail
      refine (nil_at _).mono ?_
      rintro e w' ⟨rfl, rfl⟩
      go_wp2
      go_ret
      exact ⟨rfl, rfl⟩
    · have h0d : decide (n < 0) = false := by simp; omega
      have h1d : decide (0 < n) = true := by simp; omega
      go_enter Try.func113, Try.ntmps113
      go_wp2_with fail
      refine (nil_at _).mono ?_
      rintro e w' ⟨rfl, rfl⟩
      go_wp2
      go_ret
      exact ⟨ret_bool (by simp; omega), rfl⟩
  · have h0d : decide (n < 0) = true := by simp; omega
    go_enter Try.func113, Try.ntmps113
    go_wp2
    go_ret
    exact ⟨ret_bool (by simp; omega), rfl⟩

end Go.Proofs.Ythhpijmkhhdhhaa
