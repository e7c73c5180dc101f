/- params.Text and the reference's. -/
import Derived.Test.YthhpijmkhhdhhaaPar4
import Derived.Test.YthhpijmkhhdhhaaJoin
namespace Go.Proofs.Ythhpijmkhhdhhaa
open Go.RowKit
set_option linter.unusedVariables false
set_option linter.unusedSimpArgs false

theorem itemsL_take : ∀ (ps : PL) (k : Nat) (h : k < ps.length) (xs : List (List UInt8)), itemsL (ps.take k) = some xs → itemsL (ps.take (k + 1)) = (itemL ps[k]).map fun x => xs ++ [x] := by
  intro ps
  induction ps with
  | nil => intro k h; simp at h
  | cons p r ih =>
    intro k h xs hx
    cases k with
    | zero =>
      simp only [List.take_zero, itemsL, Option.some.injEq] at hx
      subst hx
      simp only [List.take_succ_cons, List.take_zero, itemsL, List.getElem_cons_zero]
      cases itemL p <;> rfl
    | succ k =>
      simp only [List.take_succ_cons, itemsL] at hx ⊢
      cases hp : itemL p with
      | none => rw [hp] at hx; cases hx
      | some y =>
        rw [hp] at hx
        simp only [Option.map_eq_some_iff] at hx
        obtain ⟨ys, hy, rfl⟩ := hx
        have := ih k (by simpa using h) ys hy
        simp only [List.getElem_cons_succ]
        rw [this]
        cases itemL (r[k]'(by simpa using h)) <;> rfl

theorem itemsL_none : ∀ (ps : PL) (k : Nat) (h : k < ps.length), itemL ps[k] = none → itemsL ps = none := by
  intro ps
  induction ps with
  | nil => intro k h; simp at h
  | cons p r ih =>
    intro k h hx
    unfold itemsL
    cases k with
    | zero => simp only [List.getElem_cons_zero] at hx; rw [hx]
    | succ k =>
      simp only [List.getElem_cons_succ] at hx
      cases itemL p with
      | none => rfl
      | some y => simp only; rw [ih k (by simpa using h) hx]; rfl

theorem itemsL_len : ∀ (ps : PL) (xs : List (List UInt8)), itemsL ps = some xs → xs.length = ps.length := by
  intro ps
  induction ps with
  | nil => intro xs h; injection h with h; subst h; rfl
  | cons p r ih =>
    intro xs h
    unfold itemsL at h
    split at h
    · cases h
    · rw [Option.map_eq_some_iff] at h
      obtain ⟨ys, hy, rfl⟩ := h
      simp [ih ys hy]

theorem textL_none {ps : PL} {k : Nat} (h : k < ps.length) (hi : itemL ps[k] = none) : textL ps = none := by
  unfold textL
  split
  · rfl
  · rw [itemsL_none ps k h hi]; rfl

theorem joinB_L : ∀ xs : List (List UInt8), joinB (xs.map bs) [59] = joinL xs := by
  intro xs
  induction xs with
  | nil => rfl
  | cons x r ih =>
    cases r with
    | nil => exact joinB_one (bs x) _
    | cons y q =>
      show joinB (bs x :: bs y :: q.map bs) [59] = x ++ 59 :: joinL (y :: q)
      rw [← ih]
      unfold joinB
      simp only [List.map_cons]
      rw [Lib.join_cons, Lib.join_cons]
      simp [Lib.joinTail, bs]

theorem joinL_snoc : ∀ (xs : List (List UInt8)) (x : List UInt8), xs ≠ [] → joinL (xs ++ [x]) = joinL xs ++ 59 :: x := by
  intro xs
  induction xs with
  | nil => intro x h; exact absurd rfl h
  | cons y r ih =>
    intro x _
    cases r with
    | nil => rfl
    | cons z q =>
      show y ++ 59 :: joinL ((z :: q) ++ [x]) = (y ++ 59 :: joinL (z :: q)) ++ 59 :: x
      rw [ih x (by simp)]; simp

theorem bytesOf_bs (xs : List (List UInt8)) (m : Nat) (h : ∀ x ∈ xs, x.length ≤ m) : (bytesOf (xs.map bs)).length ≤ xs.length * m := by
  induction xs with
  | nil => simp [bytesOf]
  | cons x r ih =>
    have h1 := ih (fun y hy => h y (List.mem_cons_of_mem _ hy))
    have h2 := h x (List.mem_cons_self ..)
    unfold bytesOf at h1 ⊢
    simp only [List.map_cons, List.flatten_cons, List.length_append, List.length_cons] at h1 ⊢
    have : (bs x).data.toList.length = x.length := rfl
    rw [Nat.add_mul, Nat.one_mul]
    omega

theorem itemL_len {p : List UInt8 × List UInt8} {x : List UInt8} (h : itemL p = some x) (h1 : p.1.length ≤ 1000) (h2 : p.2.length ≤ 1000) : x.length ≤ 3003 := by
  unfold itemL at h
  split at h
  · rw [Option.map_eq_some_iff] at h
    obtain ⟨v, hv, rfl⟩ := h
    have : v.length ≤ 2 * p.2.length + 2 := by
      unfold eitherL at hv
      split at hv
      · injection hv with hv; subst hv; omega
      · split at hv
        · injection hv with hv; subst hv; exact quoteL_len _
        · cases hv
    simp; omega
  · cases h

theorem bs_size (l : List UInt8) : (bs l).size = l.length := by rw [Lib.size_eq]; rfl

/-- Params that are few and short. -/
def PsOk (ps : PL) : Prop := ps.length ≤ 300 ∧ ∀ p ∈ ps, p.1.length ≤ 1000 ∧ p.2.length ≤ 1000

theorem item_bytes (a : List UInt8) (v : List UInt8) : (bs a ++ ⟨#[61]⟩ ++ bs v : ByteArray) = bs (a ++ 61 :: v) := by
  apply bytes_ext0
  rw [ByteArray.data_append, ByteArray.data_append]
  simp [bs]

set_option maxRecDepth 100000 in
set_option maxHeartbeats 2000000 in
theorem text_any (w : World) (a : Option Addr) (n cap : Nat) (ps : PL) (h : PsAt w a ps) (hn : n = ps.length) (hok : PsOk ps) :
    Calls Try.prog 88 #[.slice a n cap] w fun e w' => e = .returned (.tuple #[.string (tT (textL ps)), .int .i64 (tE (textL ps))]) ∧ Below w.heap.size w w' := by
  subst hn
  obtain ⟨hn, hsz⟩ := hok
  have HA := Lib.hid h; clear h
  have HSZ := Lib.hid hsz; clear hsz
  obtain ⟨B, hB⟩ : ∃ B, B = w.heap.size := ⟨_, rfl⟩
  have hinv : w.ownsRow B 9 1 (.slice none 0 0) 0 (strCells []) := World.ownsRow_nil _ _ _ _
  have HI := Lib.hid hinv; clear hinv
  have hBw : B ≤ w.heap.size := by omega
  have HBB := Lib.hid hB; clear hB
  go_enter Try.func88, Try.ntmps88
  go_wp2_with fail
  go_loopw [4, 6, 7, 8, 11] (fun out _ _ _ i wr => ∃ (k : Nat) (xs : List (List UInt8)), k ≤ ps.length ∧ i = .int .i64 k ∧ Hid (itemsL (ps.take k) = some xs) ∧ Hid (wr.ownsRow B 9 1 out k (strCells (xs.map bs))) ∧ Hid (Below w.heap.size w wr) ∧ B ≤ wr.heap.size ∧ xs.length = k ∧ Hid (∀ x ∈ xs, x.length ≤ 3003)) (fun _ _ _ _ i _ => ps.length - (intOf i).toNat)
  case atStart => exact ⟨0, [], Nat.zero_le _, rfl, rfl, HI.out, Below.refl _ _, hBw, rfl, by intro x hx; simp at hx⟩
  case round =>
    obtain ⟨k, xs, hk, rfl, hit, hown, hbl, hBl, hxl, hxs⟩ := hrel
    clear HI
    by_cases hlt : k < ps.length
    · obtain ⟨b, o, rfl, hbs, x0, x1⟩ := psAt_at (psAt_below HA.out hbl.out) k hlt
      obtain ⟨z1, z2⟩ := HSZ.out _ (List.getElem_mem hlt)
      have hst := itemsL_take ps k hlt xs hit.out
      have hno := fun h : itemL ps[k] = none => textL_none hlt h
      have hil := fun x (h : itemL ps[k] = some x) => itemL_len h z1 z2
      have hdef : itemL ps[k] = if tokenL ps[k].1 = true then (eitherL ps[k].2).map fun v => ps[k].1 ++ 61 :: v else none := rfl
      generalize ps[k] = p at *
      have HST := Lib.hid hst; clear hst
      have HNO := Lib.hid hno; clear hno
      have HIL := Lib.hid hil; clear hil
      have hp1 : (bs p.1).size ≤ 1000 := by rw [bs_size]; exact z1
      have hp2 : (bs p.2).size ≤ 1000 := by rw [bs_size]; exact z2
      have EI := Lib.hid (fun w => either_any (bs p.2) w (by omega))
      have TK := Lib.hid (fun w => token_any (bs p.1) w (by unfold maxLen; omega))
      simp only [bs_data] at EI TK
      have hal := (Below.refl wr.heap.size wr).alloc (Nat.le_refl _) (.cells #[.string (bs p.1), .string (bs p.2)] 85)
      have hb1 := hbl.out.trans (hal.mono hbl.out.size)
      have ho1 := own_below hown.out hal
      have c0 : (wr.alloc (.cells #[.string (bs p.1), .string (bs p.2)] 85)).cell? ⟨wr.heap.size, 0, none⟩ = some (.string (bs p.1)) := by simp
      have hz : wr.heap.size < (wr.alloc (.cells #[.string (bs p.1), .string (bs p.2)] 85)).heap.size := by simp
      have HO1 := Lib.hid ho1; clear ho1
      have HB1 := Lib.hid hb1; clear hb1 hal
      have C0 := Lib.hid c0; clear c0
      have HZ := Lib.hid hz; clear hz
      cases he : eitherL p.2 with
      | none =>
        rw [he] at EI
        rw [he] at hdef
        have hi0 : itemL p = none := by rw [hdef]; split <;> rfl
        have HN := Lib.hid (HNO.out hi0)
        clear hi0 hdef he
        go_wp2_with fail
        refine (EI.out _).mono ?_
        rintro e w2 ⟨rfl, hb2⟩
        simp only [tT, tE]
        have HB2 := Lib.hid (HB1.out.trans (hb2.mono HB1.out.size)); clear hb2
        go_wp2_with fail
        go_ret2
        rw [HN.out]
        exact ⟨ret_si rfl rfl, HB2.out⟩
      | some v =>
        rw [he] at EI
        rw [he] at hdef
        have hvl : v.length ≤ 2002 := by
          unfold eitherL at he
          split at he
          · injection he with he; subst he; omega
          · split at he
            · injection he with he; subst he; have := quoteL_len p.2; omega
            · cases he
        have hvs : (bs v).size ≤ 2002 := by rw [bs_size]; exact hvl
        go_wp2_with fail
        refine (EI.out _).mono ?_
        rintro e w2 ⟨rfl, hb2⟩
        simp only [tT, tE]
        rw [show (⟨v.toArray⟩ : ByteArray) = bs v from rfl]
        have c0 : w2.cell? ⟨wr.heap.size, 0, none⟩ = some (.string (bs p.1)) := by rw [hb2.cell (by exact HZ.out)]; exact C0.out
        have HO2 := Lib.hid (own_below HO1.out hb2)
        have HB2 := Lib.hid (HB1.out.trans (hb2.mono HB1.out.size))
        have hz2 : wr.heap.size < w2.heap.size := Nat.lt_of_lt_of_le HZ.out hb2.size
        clear hb2 HO1 HB1 C0 HZ EI
        go_wp2_with fail
        refine (TK.out _).mono ?_
        rintro e w3 ⟨rfl, hb3⟩
        have c0 : w3.cell? ⟨wr.heap.size, 0, none⟩ = some (.string (bs p.1)) := by rw [hb3.cell (by exact hz2)]; assumption
        have HO3 := Lib.hid (own_below HO2.out hb3)
        have HB3 := Lib.hid (HB2.out.trans (hb3.mono HB2.out.size))
        have hz3 : wr.heap.size < w3.heap.size := Nat.lt_of_lt_of_le hz2 hb3.size
        clear hb3 HO2 HB2 TK
        by_cases ht : tokenL p.1 = true
        · rw [if_pos ht] at hdef
          simp only [Option.map_some] at hdef
          rw [ht]
          have hst := HST.out
          rw [hdef] at hst
          have hxl2 := HIL.out _ hdef
          have HST2 := Lib.hid hst; clear hst
          clear ht HST HNO HIL hdef
          have hib := item_bytes p.1 v
          have HIB := Lib.hid hib; clear hib
          go_wp2_with (at_builtin; refine app_one 26 9 (.string ByteArray.empty) 16 Try.underlying26 info_str rfl (by rfl) (.tmp 29) (.tmp 35) (by rfl) w3 B _ k (strCells (xs.map bs)) (.string (bs p.1 ++ (ByteArray.mk #[61]) ++ bs v)) (by rfl) HO3.out (by rfl) rfl ?_ ?_ ?_ ?_)
          · omega
          · unfold maxLen; omega
          · omega
          intro g cp w4 hown4 hg4 hat4 hbg4 hgl4
          have hb4 : Below w.heap.size w w4 := app_below HB3.out HO3.out hg4 (by rw [HBB.out]; exact Nat.le_refl _) (by have := HB3.out.size; omega)
          rw [HIB.out, strCells_snoc] at hown4
          have HB4 := Lib.hid hb4; clear hb4
          have hB4 : B ≤ w4.heap.size := by have := HB4.out.size; have := HBB.out; omega
          have HO4 := Lib.hid hown4; clear hown4 hg4 hat4
          go_wp2_with fail
          go_roundw
          case rel =>
            refine ⟨k + 1, xs ++ [p.1 ++ 61 :: v], by omega, by go_num, HST2.out, ?_, HB4.out, hB4, by simp [hxl], ?_⟩
            · rw [List.map_append]; exact HO4.out
            · intro x hx
              rcases List.mem_append.1 hx with h | h
              · exact hxs.out x h
              · simp at h; subst h; exact hxl2
          case measure => simp [intOf]; omega
        · rw [if_neg ht] at hdef
          rw [Bool.not_eq_true] at ht
          rw [ht]
          have HN := Lib.hid (HNO.out hdef)
          clear ht hdef
          go_wp2_with fail
          go_ret2
          rw [HN.out]
          exact ⟨ret_si rfl rfl, HB3.out⟩
    · obtain rfl : k = ps.length := by omega
      have hit2 := hit.out
      rw [List.take_length] at hit2
      by_cases h0 : ps = []
      · have h00 : ((ps.length : Int) == 0) = true := by rw [h0]; rfl
        have hl0 : ps.length = 0 := by rw [h0]; rfl
        have HN : Hid (textL ps = none) := Lib.hid (by unfold textL; rw [if_pos h0])
        obtain ⟨sa, sc, hsa⟩ := own_form hown.out
        subst hsa
        clear h0 hit2
        go_wp2_with fail
        go_ret2
        rw [HN.out]
        exact ⟨ret_si rfl rfl, hbl.out⟩
      · have hl0 : 0 < ps.length := by cases ps with | nil => exact absurd rfl h0 | cons a b => simp
        have h00 : ((ps.length : Int) == 0) = false := by rw [beq_eq_false_iff_ne]; omega
        have HT : Hid (textL ps = some (joinL xs)) := Lib.hid (by unfold textL; rw [if_neg h0, hit2]; rfl)
        have hown2 := hown.out
        rw [← hxl, show xs.length = (xs.map bs).length from by simp] at hown2
        obtain ⟨sa, sc, hsa, hsi, _, hsc⟩ := strsIn_own (B := B) hown2
        have hbo := bytesOf_bs xs 3003 hxs.out
        have JN := Lib.hid (fun n hn => quillJoin_any wr B sa n sc (xs.map bs) ⟨#[59]⟩ hn hsi (by rw [hn]; exact hsc) (by rw [hn]; simp; omega) (by simp only [List.length_map, List.length_cons, List.length_nil]; have : xs.length * 3003 ≤ 300 * 3003 := Nat.mul_le_mul_right _ (by omega); omega))
        rw [show (⟨#[59]⟩ : ByteArray).data.toList = [59] from rfl, joinB_L] at JN
        have hxm : (xs.map bs).length = ps.length := by simp; omega
        rw [hxm] at hsa
        subst hsa
        have J2 := Lib.hid (JN.out ps.length hxm.symm)
        clear JN hbo hsi hown2 hsc h0 hit2 hxm
        go_wp2_with fail
        refine J2.out.mono ?_
        rintro e w2 ⟨rfl, hb2⟩
        have HB2 := Lib.hid (hbl.out.trans (hb2.mono hbl.out.size)); clear hb2
        go_wp2_with fail
        go_ret2
        rw [HT.out]
        exact ⟨ret_si rfl rfl, HB2.out⟩

end Go.Proofs.Ythhpijmkhhdhhaa
