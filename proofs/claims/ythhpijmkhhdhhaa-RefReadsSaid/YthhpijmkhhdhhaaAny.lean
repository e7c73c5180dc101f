/- strings.IndexAny of any text, where the bytes looked for are ASCII: a text of eight bytes at most, of whatever bytes. -/
import Derived.Test.YthhpijmkhhdhhaaUriPure
import Derived.Laws.RangeAny
import Derived.Laws.Runes
import Derived.Lib.IndexAny
import Derived.Deep.LoopGhost
import Derived.WalkMore
import Derived.Lib.OthersKept
import Derived.BigQuiet
namespace Go.Proofs.Ythhpijmkhhdhhaa
open Go.RowKit Go.Lib
set_option linter.unusedVariables false
set_option linter.unusedSimpArgs false

/-- Below a character of more than one byte there are none of ASCII. -/
theorem decode_bytes (s : ByteArray) (pos : Nat) (h : pos < s.size) (ha : 128 ≤ (s[pos]'h).toNat) : pos + (Utf8.decode s pos).2 ≤ s.size ∧ ∀ j, pos ≤ j → j < pos + (Utf8.decode s pos).2 → 128 ≤ (s.get! j).toNat := by
  have hn : ¬ (s[pos]'h).toNat < 128 := by omega
  have h0 : 128 ≤ (s.get! pos).toNat := by have := get_at s pos h; simp only [Nat.add_zero] at this; rw [this]; exact ha
  have one : pos + 1 ≤ s.size ∧ ∀ j, pos ≤ j → j < pos + 1 → 128 ≤ (s.get! j).toNat := ⟨by omega, fun j h1 h2 => by
    obtain rfl : j = pos := by omega
    exact h0⟩
  simp only [Utf8.decode, get_at s pos h, hn, if_false]
  split
  · rename_i h1
    simp only [Bool.and_eq_true, decide_eq_true_eq, beq_iff_eq] at h1
    obtain ⟨_, h2, h3⟩ := h1
    split
    · refine ⟨by show pos + 2 ≤ _; omega, fun j k1 k2 => ?_⟩
      replace k2 : j < pos + 2 := k2
      rcases Nat.lt_or_ge j (pos + 1) with h4 | h4
      · obtain rfl : j = pos := by omega
        exact h0
      · obtain rfl : j = pos + 1 := by omega
        omega
    · exact one
  · split
    · rename_i h1
      simp only [Bool.and_eq_true, decide_eq_true_eq, beq_iff_eq] at h1
      obtain ⟨⟨_, h2, h3⟩, h4, h5⟩ := h1
      split
      · refine ⟨by show pos + 3 ≤ _; omega, fun j k1 k2 => ?_⟩
        replace k2 : j < pos + 3 := k2
        rcases Nat.lt_or_ge j (pos + 1) with h6 | h6
        · obtain rfl : j = pos := by omega
          exact h0
        · rcases Nat.lt_or_ge j (pos + 2) with h7 | h7
          · obtain rfl : j = pos + 1 := by omega
            omega
          · obtain rfl : j = pos + 2 := by omega
            omega
      · exact one
    · split
      · rename_i h1
        simp only [Bool.and_eq_true, decide_eq_true_eq, beq_iff_eq] at h1
        obtain ⟨⟨⟨_, h2, h3⟩, h4, h5⟩, h6, h7⟩ := h1
        split
        · refine ⟨by show pos + 4 ≤ _; omega, fun j k1 k2 => ?_⟩
          replace k2 : j < pos + 4 := k2
          rcases Nat.lt_or_ge j (pos + 1) with h8 | h8
          · obtain rfl : j = pos := by omega
            exact h0
          · rcases Nat.lt_or_ge j (pos + 2) with h9 | h9
            · obtain rfl : j = pos + 1 := by omega
              omega
            · rcases Nat.lt_or_ge j (pos + 3) with h10 | h10
              · obtain rfl : j = pos + 2 := by omega
                omega
              · obtain rfl : j = pos + 3 := by omega
                omega
        · exact one
      · exact one

theorem indexByte_none_ascii (l : List UInt8) (c : UInt8) (hl : ∀ b ∈ l, b.toNat < 128) (hc : 128 ≤ c.toNat) : Lib.indexByte l c = -1 := by
  induction l with
  | nil => rfl
  | cons b r ih =>
    have hb := hl b (List.mem_cons_self ..)
    have h1 : ¬ b = c := by intro e; subst e; omega
    rw [Lib.indexByte, if_neg (by simpa using h1), ih (fun y hy => hl y (List.mem_cons_of_mem _ hy))]
    rfl
theorem validRune_lib (r : Int) (h : Lib.validRune r = true) : Utf8.valid r = true := by
  rw [validRune_eq]
  unfold Lib.validRune at h
  unfold Go.validRune
  simp at h ⊢
  omega

set_option maxHeartbeats 8000000 in
set_option maxRecDepth 1000000 in
/-- strings.IndexRune: a character of more than one byte is none of a text of ASCII. -/
theorem indexRune_high (s : ByteArray) (r : Int) (w : World) (h128 : 128 ≤ r) (hr : r ≤ 2147483647) (hs : s.size ≤ 1000) (hascii : ∀ b ∈ s.data.toList, b.toNat < 128) :
    Calls Try.prog 151 #[.string s, .int .i32 r] w fun e w' => e = .returned (.int .i64 (-1)) ∧ Below w.heap.size w w' := by
  have HA : Aside (∀ b ∈ s.data.toList, b.toNat < 128) := hascii
  clear hascii
  have hn1 : decide (r < 128) = false := decide_eq_false (by omega)
  have hn2 : decide (0 ≤ r) = true := decide_eq_true (by omega)
  by_cases he : r = 65533
  · subst he
    go_enter Try.func151, Try.ntmps151
    go_wp2
    go_loopg [5, 6] s.size (fun g _ _ wx => ∃ i : Nat, i + g = s.size ∧ wx = w.iter s i)
    case atStart => exact ⟨0, by omega, rfl⟩
    case round =>
      obtain ⟨i, hig, rfl⟩ := hrel
      cases gk with
      | zero =>
        obtain rfl : i = s.size := by omega
        have hnx := run_next_end (P := Try.prog) w s s.size
        go_wp2
        go_ret
        exact ⟨rfl, (Below.refl _ _).alloc (Nat.le_refl _) _⟩
      | succ g =>
        have hi : i < s.size := by omega
        obtain ⟨x, hx⟩ : ∃ x : UInt8, s[i]'hi = x := ⟨_, rfl⟩
        have hx128 : x.toNat < 128 := HA.out x (by rw [← hx]; exact Array.getElem_mem_toList (xs := s.data) hi)
        have hnx := fun ty => run_next_ascii (P := Try.prog) w s i ty hi (by rw [hx]; exact hx128)
        rw [hx] at hnx
        have hxn : ((x.toNat : Int) == 65533) = false := beq_eq_false_iff_ne.2 (by omega)
        clear hx
        go_wp2
        go_roundg g
        case measure => omega
        case rel => exact ⟨i + 1, by omega, rfl⟩
  · have hne : (r == 65533) = false := beq_eq_false_iff_ne.2 he
    cases hv : Lib.validRune r with
    | false =>
      go_enter Try.func151, Try.ntmps151
      go_wp2_with (go_at_call 156; refine (Try.utf8_ValidRune _ _).mono ?_; rintro e w' ⟨rfl, hw⟩; rw [hw, hv])
      go_ret
      exact ⟨rfl, Below.refl _ _⟩
    | true =>
      obtain ⟨e2, e4, elast⟩ := encode_facts r (validRune_lib r hv) h128
      obtain ⟨X, hX⟩ : ∃ X, Utf8.encode r = X := ⟨_, rfl⟩
      rw [hX] at e2 e4 elast
      obtain ⟨m, hm⟩ : ∃ m, X.size = m + 1 := ⟨X.size - 1, by omega⟩
      have hmX : m < X.size := by omega
      have hmz : (X.size : Int) - 1 = (m : Int) := by omega
      obtain ⟨c, hc⟩ : ∃ c : UInt8, X[m]'hmX = c := ⟨_, rfl⟩
      have hc128 : 128 ≤ c.toNat := by
        have h1 := elast (by omega)
        have : X[X.size - 1]'(by omega) = c := by rw [← hc]; congr 1; omega
        rw [this] at h1; exact h1
      clear elast
      have hback : ((c.toNat : Int)).toNat.toUInt8 = c := by simp
      have hmz4 : (m : Int) < (X.size : Int) := by omega
      have hm4 : m ≤ 4 := by omega
      clear hm
      go_enter Try.func151, Try.ntmps151
      go_wp2_with (go_at_call 156; refine (Try.utf8_ValidRune _ _).mono ?_; rintro e w' ⟨rfl, hw⟩; rw [hw, hv])
      have hcv : ∀ W : World, (Go.convert 21 9 (.int .i32 r)).run Try.prog W = .ok (.string X) W := fun W => by
        rw [run_convert_int_string W 21 9 .i32 r (by rw [Try.underlying21]; rfl) Try.underlying9, hX]
      go_wp2
      go_step3
      go_wp2
      clear hw hcv hX
      go_loopg [9, 10, 11, 12] 1 (fun g s9 _ _ _ wx => s9 = .int .i64 m ∧ wx = w)
      case atStart => exact ⟨rfl, rfl⟩
      case round =>
        obtain ⟨rfl, rfl⟩ := hrel
        by_cases hms : m < s.size
        · have hz : (m : Int) < (s.size : Int) := by omega
          obtain ⟨y, hy⟩ : ∃ y : UInt8, s[m]'hms = y := ⟨_, rfl⟩
          have hy128 : y.toNat < 128 := HA.out y (by rw [← hy]; exact Array.getElem_mem_toList (xs := s.data) hms)
          have hyc : ((y.toNat : Int) == (c.toNat : Int)) = false := beq_eq_false_iff_ne.2 (by omega)
          obtain ⟨m1, hm1⟩ : ∃ m1 : Nat, m + 1 = m1 := ⟨_, rfl⟩
          have hz2 : m1 ≤ s.size := by omega
          have hz3 : (m1 : Int) ≤ (s.size : Int) := by omega
          have hix : Lib.indexByte (s.extract m1 s.size).data.toList c = -1 := indexByte_none_ascii _ _ (fun b hb => HA.out b (mem_extract hb)) hc128
          have hwr : IntKind.i64.wrap ((m : Int) + 1) = (m1 : Int) := by rw [wrap_small _ (by omega) (by omega)]; omega
          have IB := Lib.hid (fun (W : World) (q n : Nat) => (show Calls Try.prog 122 #[.string (s.extract m1 s.size), .int .u8 (c.toNat : Int)] (W.drewN (q + n)) fun e w' => e = .returned (.int .i64 (-1)) ∧ ∃ m, w' = W.drewN (q + m) from by
            refine (Try.strings_IndexByte (s.extract m1 s.size) (c.toNat : Int) (W.drewN (q + n))).mono ?_
            rintro e w' ⟨rfl, rfl⟩
            rw [hback, hix]
            exact ⟨rfl, n, rfl⟩))
          go_wp2_with fail
          go_step3
          go_wp2_with fail
          go_quiet (fail)
          go_wp2_with fail
          go_quiet ((go_at_call 122; exact IB.out _ _ _))
          go_wp2_with fail
          (try simp only [Exit.noGoto_ret, Exit.inBlock, Exit.then])
          go_ret
          exact ⟨rfl, below_drewN (Below.refl _ _) _⟩
        · have hz : ¬ (m : Int) < (s.size : Int) := by omega
          go_wp2
          (try rw [Exit.noGoto_ret])
          go_ret
          exact ⟨rfl, Below.refl _ _⟩

set_option maxHeartbeats 8000000 in
set_option maxRecDepth 1000000 in
/-- strings.IndexAny of at most eight bytes, whatever they are; two or more looked for, all ASCII. -/
theorem indexAny_short (s chars : ByteArray) (w : World) (h2 : 2 ≤ chars.size) (hcs : chars.size ≤ 1000) (h8 : s.size ≤ 8) (hascii : ∀ b ∈ chars.data.toList, b.toNat < 128) :
    Calls Try.prog 147 #[.string s, .string chars] w fun e w' => e = .returned (.int .i64 (Lib.indexAny s.data.toList chars.data.toList)) ∧ Below w.heap.size w w' := by
  have HA : Aside (∀ b ∈ chars.data.toList, b.toNat < 128) := hascii
  clear hascii
  have hemp : chars.toList.isEmpty = false := by
    rw [Lib.toList_data]
    cases h : chars.data.toList with
    | nil => have := Lib.size_eq chars; rw [h, List.length_nil] at this; omega
    | cons _ _ => rfl
  have hn1 : ((chars.size : Int) == 1) = false := beq_eq_false_iff_ne.2 (by omega)
  have h8z : decide ((8 : Int) < (s.size : Int)) = false := decide_eq_false (by omega)
  go_enter Try.func147, Try.ntmps147
  go_wp2_with (go_at_call 152; refine (Try.strings_shouldUseASCIISet _ _).mono ?_; rintro e w' ⟨rfl, hw⟩; rw [hw, h8z])
  go_loopg [9, 10] s.size (fun g _ _ wx => ∃ i : Nat, i + g = s.size ∧ Below w.heap.size w wx ∧ wx.heap[w.heap.size]? = some (.stringIter s i) ∧ Lib.NoAny s.data.toList chars.data.toList i)
  case atStart => exact ⟨0, by omega, (Below.refl _ _).alloc (Nat.le_refl _) _, World.iter_heap w s 0, Lib.NoAny.zero _ _⟩
  case round =>
    obtain ⟨i, hig, hbl, hit, hno⟩ := hrel
    have HN : Aside (Lib.NoAny s.data.toList chars.data.toList i) := hno
    have HB : Aside (Below w.heap.size w wr) := hbl
    clear hno hbl
    cases gk with
    | zero =>
      obtain rfl : i = s.size := by omega
      have hnx := fun ty => run_next_end_at (P := Try.prog) wr w.heap.size s s.size ty hit (by omega)
      go_wp2
      go_ret
      exact ⟨by rw [Lib.indexAny_none (by rw [← Lib.size_eq]; exact HN.out)]; rfl, HB.out⟩
    | succ g =>
      have hi : i < s.size := by omega
      obtain ⟨x, hx⟩ : ∃ x : UInt8, s[i]'hi = x := ⟨_, rfl⟩
      have hxl : s.data.toList[i]? = some x := by rw [← hx]; exact Lib.data_getElem? s i hi
      have Hx : Aside (s.data.toList[i]? = some x) := hxl
      by_cases hx128 : x.toNat < 128
      · have hnx := fun ty => run_next_ascii_at (P := Try.prog) wr w.heap.size s i ty hit hi (by rw [hx]; exact hx128)
        rw [hx] at hnx
        have HIT : Aside ((wr.iterAt w.heap.size s (i + 1)).heap[w.heap.size]? = some (.stringIter s (i + 1))) := iterAt_heap _ _ _ _ _ hit
        clear hxl hx hit
        have hcon := Lib.contains_iff_indexByte chars.data.toList x
        have hback : ((x.toNat : Int)).toNat.toUInt8 = x := by simp
        cases hin : chars.data.toList.contains x
        · rw [hin] at hcon
          have hlt : ¬ ((0 : Int) ≤ Lib.indexByte chars.data.toList x) := of_decide_eq_false hcon.symm
          clear hcon
          go_wp2_with (go_at_call 151; refine (Try.strings_IndexRune_ascii _ _ _ (by omega) (by omega)).mono ?_; rintro e w' ⟨rfl, hw⟩; rw [hw, hback])
          go_roundg g
          case measure => omega
          case rel => exact ⟨i + 1, by omega, below_iterAt HB.out (Nat.le_refl _) _ _, HIT.out, HN.out.succ Hx.out hin⟩
        · rw [hin] at hcon
          have hge : (0 : Int) ≤ Lib.indexByte chars.data.toList x := of_decide_eq_true hcon.symm
          clear hcon
          go_wp2_with (go_at_call 151; refine (Try.strings_IndexRune_ascii _ _ _ (by omega) (by omega)).mono ?_; rintro e w' ⟨rfl, hw⟩; rw [hw, hback])
          go_ret
          exact ⟨by rw [Lib.indexAny_hit HN.out Hx.out hin]; rfl, below_iterAt HB.out (Nat.le_refl _) _ _⟩
      · have hnx := fun ty => run_next_any_at (P := Try.prog) wr w.heap.size s i ty hit hi
        have hd := decode_high s i hi (by rw [hx]; omega)
        have hd2 := decode_bytes s i hi (by rw [hx]; omega)
        have hd3 := decode_le s i
        obtain ⟨c, d, hcd⟩ : ∃ c d, Utf8.decode s i = (c, d) := ⟨_, _, rfl⟩
        rw [hcd] at hd hd2 hd3 hnx
        obtain ⟨hd0, hd1⟩ := hd
        obtain ⟨hd4, hd5⟩ := hd2
        simp only at hd0 hd1 hd3 hd4 hd5
        have HIT : Aside ((wr.iterAt w.heap.size s (i + d)).heap[w.heap.size]? = some (.stringIter s (i + d))) := iterAt_heap _ _ _ _ _ hit
        have HN2 : Aside (Lib.NoAny s.data.toList chars.data.toList (i + d)) := by
          intro j b hj hb
          rcases Nat.lt_or_ge j i with h | h
          · exact HN.out j b h hb
          · have h1 := hd5 j h hj
            have hjs : j < s.size := by omega
            have h2 : s.get! j = b := by
              have h3 : s.data.toList[j]? = some (s[j]'hjs) := Lib.data_getElem? s j hjs
              rw [hb] at h3
              have h4 := get_at s j hjs
              simp only [Nat.add_zero] at h4
              rw [h4]
              exact (Option.some.inj h3).symm
            rw [h2] at h1
            rw [Bool.eq_false_iff]
            intro h3
            have := HA.out b (by simpa using h3)
            omega
        have hlt := (Array.getElem?_eq_some_iff.1 hit).1
        clear hxl hx hit hcd hd5
        have IR := Lib.hid (fun W => indexRune_high chars (c : Int) W (by omega) (by omega) hcs HA.out)
        go_wp2_with (go_at_call 151; refine (IR.out _).mono ?_; rintro e w2 ⟨rfl, hw2⟩)
        go_roundg (s.size - (i + d))
        case measure => omega
        case rel => exact ⟨i + d, by omega, bseq (below_iterAt HB.out (Nat.le_refl _) _ _) hw2, by rw [hw2.block _ (by rw [iterAt_size]; exact hlt)]; exact HIT.out, HN2.out⟩

theorem indexAny_firstN (m : List UInt8) : ∀ l : List UInt8, Lib.indexAny l m = if firstN m l < l.length then (firstN m l : Int) else -1
  | [] => rfl
  | x :: r => by
    rw [Lib.indexAny, indexAny_firstN m r, firstN_cons, List.length_cons]
    by_cases h : m.contains x = true
    · rw [if_pos h, if_pos h, if_pos (by omega)]; rfl
    · rw [if_neg h, if_neg h]
      by_cases h2 : firstN m r < r.length
      · rw [if_pos h2, if_pos (show firstN m r + 1 < r.length + 1 by omega), if_neg (by rw [beq_iff_eq]; omega)]
        omega
      · rw [if_neg h2, if_neg (show ¬ firstN m r + 1 < r.length + 1 by omega), if_pos (by rfl)]

theorem ascii_of (chars : ByteArray) (h : ∀ b ∈ chars.data.toList, b.toNat < 128) : ∀ (j : Nat) b, chars.data.toList[j]? = some b → b.toNat < 128 := fun j b hb => h b (List.mem_of_getElem? hb)

/-- strings.IndexAny: the first byte that is one of some ASCII bytes. -/
theorem indexAny_any (s chars : ByteArray) (w : World) (hs : s.size ≤ 1000000) (h1 : 1 ≤ chars.size) (hcs : chars.size ≤ 1000) (hascii : ∀ b ∈ chars.data.toList, b.toNat < 128) :
    Calls Try.prog 147 #[.string s, .string chars] w fun e w' => e = .returned (.int .i64 (if firstN chars.data.toList s.data.toList < s.size then (firstN chars.data.toList s.data.toList : Int) else -1)) ∧ Below w.heap.size w w' := by
  have e := indexAny_firstN chars.data.toList s.data.toList
  rw [← Lib.size_eq] at e
  rw [← e]
  by_cases h2 : chars.size = 1
  · refine (Try.strings_IndexAny_one s chars w h2 (ascii_of _ hascii)).mono ?_
    rintro e w' ⟨rfl, rfl⟩
    exact ⟨rfl, Below.refl _ _⟩
  · by_cases h8 : s.size ≤ 8
    · exact indexAny_short s chars w (by omega) hcs h8 hascii
    · refine (Try.strings_IndexAny_long (zero_of_info (n := 256) (by kernel_rfl)).1 s chars w (by omega) (by omega) (by omega) (by omega) (ascii_of _ hascii)).mono ?_
      rintro e w' ⟨rfl, rfl⟩
      exact ⟨rfl, ((Below.refl _ _).alloc (Nat.le_refl _) _).alloc (by simp) _⟩

end Go.Proofs.Ythhpijmkhhdhhaa
