/- hostport.small, hostport.Four. -/
import Derived.Test.YthhpijmkhhdhhaaDoorHSeq
import Derived.Test.YthhpijmkhhdhhaaDoorFmt16
namespace Go.Proofs.YthhpijmkhhdhhaaDoor
open Go.RowKit
set_option linter.unusedVariables false
set_option linter.unusedSimpArgs false

/-- Is a text a number up to one, without noughts ahead? -/
def smallL (most : Int) (l : List UInt8) : Bool := (readE bDigit 10 most l == 0) && (textB 10 (readV bDigit 10 most l) == l)

theorem readV_range (most : Int) (l : List UInt8) (h : readE bDigit 10 most l = 0) : 0 ≤ readV bDigit 10 most l ∧ readV bDigit 10 most l ≤ most := by
  unfold readE at h
  unfold readV
  by_cases hc : (!l.isEmpty && allB bDigit l) = true
  · rw [if_pos hc] at h ⊢
    by_cases hn : numL 10 l ≤ most
    · rw [if_pos hn]
      simp only [Bool.and_eq_true] at hc
      exact ⟨numL_nonneg 10 (by decide) l (fun c hm => digit_hex _ (List.all_eq_true.1 hc.2 c hm)), hn⟩
    · rw [if_neg hn] at h; cases h
  · rw [if_neg hc] at h; cases h

theorem small_any (s : ByteArray) (most : Int) (w : World) (hs : s.size ≤ 1000000) (hm0 : -9223372036854775808 ≤ most) (hm1 : most ≤ 9223372036854775807) (hP : PowAt w) :
    Calls Tryd.prog 80 #[.string s, .int .i64 most] w fun e w' => e = .returned (.bool (smallL most s.data.toList)) ∧ Below w.heap.size w w' := by
  have DE := Lib.hid (decimal_any s most w hs hm0 hm1)
  have HP := Lib.hid hP
  have hr := readV_range most s.data.toList
  have hsl : smallL most s.data.toList = ((readE bDigit 10 most s.data.toList == 0) && (textB 10 (readV bDigit 10 most s.data.toList) == s.data.toList)) := rfl
  obtain ⟨ee, hee⟩ : ∃ ee, readE bDigit 10 most s.data.toList = ee := ⟨_, rfl⟩
  obtain ⟨v, hv⟩ : ∃ v, readV bDigit 10 most s.data.toList = v := ⟨_, rfl⟩
  rw [hee, hv] at DE hr hsl
  have HR := Lib.hid hr; have HSL := Lib.hid hsl; clear hr hsl hee hv hP
  by_cases h0 : ee = 0
  · subst h0
    obtain ⟨r0, r1⟩ := HR.out rfl
    have HE := Lib.hid (Lib.toList_data s)
    obtain ⟨T, hT⟩ : ∃ T, (⟨(textB 10 v).toArray⟩ : ByteArray) = T := ⟨_, rfl⟩
    have hTd : T.data.toList = textB 10 v := by rw [← hT]
    have TX := Lib.hid (fun w' h => numText_any v w' (by omega) (by omega) h)
    rw [hT] at TX
    have HV : Hid (smallL most s.data.toList = (T.toList == s.toList)) := Lib.hid (by rw [HSL.out, Lib.toList_data, Lib.toList_data, hTd]; simp)
    clear hT hTd
    go_enter Tryd.func80, Tryd.ntmps80
    go_wp2_with fail
    refine DE.out.mono ?_
    rintro e w1 ⟨rfl, hb1⟩
    have HB1 := Lib.hid hb1
    have HP1 := Lib.hid (powAt_below HP.out hb1); clear hb1
    go_wp2_with fail
    refine (TX.out _ HP1.out).mono ?_
    rintro e w2 ⟨rfl, hb2⟩
    have HB2 := Lib.hid (bseq HB1.out hb2); clear hb2
    go_wp2_with fail
    go_ret
    exact ⟨ret_bool HV.out.symm, HB2.out⟩
  · have h0' : (ee == 0) = false := by simpa using h0
    have HV : Hid (smallL most s.data.toList = false) := Lib.hid (by rw [HSL.out, h0']; rfl)
    go_enter Tryd.func80, Tryd.ntmps80
    go_wp2_with fail
    refine DE.out.mono ?_
    rintro e w1 ⟨rfl, hb1⟩
    have HB1 := Lib.hid hb1; clear hb1
    go_wp2_with fail
    go_ret
    exact ⟨ret_bool HV.out.symm, HB1.out⟩

/-- Is a text an address of four? -/
def fourL (l : List UInt8) : Bool := (partsL 46 l).all (smallL 255) && (partsL 46 l).length == 4

theorem splitSeq_call (s sep : ByteArray) (w : World) :
    Calls Tryd.prog 79 #[.string s, .string sep] w fun e w' => e = .returned (.func (.func 118) #[] #[.pointer (some ⟨w.heap.size + 1, 0, none⟩), .pointer (some ⟨w.heap.size, 0, none⟩), .pointer (some ⟨w.heap.size + 2, 0, none⟩)]) ∧
      ((w.alloc (.cells #[.string s] 9)).alloc (.cells #[.string sep] 9)).alloc (.cells #[.int .i64 0] 3) = w' := by
  have IN : Calls Tryd.prog 107 #[.string s, .string sep, .int .i64 0] w fun e w' => e = .returned (.func (.func 118) #[] #[.pointer (some ⟨w.heap.size + 1, 0, none⟩), .pointer (some ⟨w.heap.size, 0, none⟩), .pointer (some ⟨w.heap.size + 2, 0, none⟩)]) ∧
      ((w.alloc (.cells #[.string s] 9)).alloc (.cells #[.string sep] 9)).alloc (.cells #[.int .i64 0] 3) = w' := by
    go_enter Tryd.func107, Tryd.ntmps107
    go_wp2_with fail
    go_ret
    exact ⟨rfl, rfl⟩
  have HIN := Lib.hid IN; clear IN
  go_enter Tryd.func79, Tryd.ntmps79
  go_wp2_with fail
  refine HIN.out.mono ?_
  rintro e w1 ⟨rfl, hw1⟩
  go_wp2_with fail
  go_ret
  exact ⟨rfl, hw1⟩

/-- Where hostport.Four stands between two rounds. -/
structure FourSt (w : World) (rec : Loop) (n : Nat) (rest : ByteArray) (W : World) : Prop where
  below : Below w.heap.size w W
  res : W.heap[w.heap.size]? = some (.cells #[.bool false] 4 (0, 0))
  cnt : W.heap[w.heap.size + 1]? = some (.cells #[.int .i64 n] 3 (0, 0))
  str : W.heap[w.heap.size + 2]? = some (.cells #[.string rest] 9 (0, 0))
  sep : W.heap[w.heap.size + 3]? = some (.cells #[.string ⟨#[46]⟩] 9 (0, 0))
  sav : W.heap[w.heap.size + 4]? = some (.cells #[.int .i64 0] 3 (0, 0))
  dfr : W.heap[w.heap.size + 5]? = some (.deferred (some []))
  rcd : W.heap[w.heap.size + 6]? = some (.loop rec)

theorem FourSt.put {w W : World} {rec : Loop} {n : Nat} {rest : ByteArray} (h : FourSt w rec n rest W) (rec' : Loop) : FourSt w rec' n rest (W.putObj (w.heap.size + 6) (.loop rec')) := by
  have hlt : w.heap.size + 6 < W.heap.size := (Array.getElem?_eq_some_iff.1 h.rcd).1
  refine ⟨⟨h.below.os, h.below.tape, h.below.output, by simpa using h.below.size, fun k hk => ?_⟩, ?_, ?_, ?_, ?_, ?_, ?_, World.putObj_heap_same hlt⟩
  · exact (World.putObj_heap_other (by omega)).trans (h.below.block k hk)
  · exact (World.putObj_heap_other (by omega)).trans h.res
  · exact (World.putObj_heap_other (by omega)).trans h.cnt
  · exact (World.putObj_heap_other (by omega)).trans h.str
  · exact (World.putObj_heap_other (by omega)).trans h.sep
  · exact (World.putObj_heap_other (by omega)).trans h.sav
  · exact (World.putObj_heap_other (by omega)).trans h.dfr
theorem FourSt.call {w W W' : World} {rec : Loop} {n : Nat} {rest : ByteArray} (h : FourSt w rec n rest W) (hb : Below W.heap.size W W') : FourSt w rec n rest W' := by
  have hlt : w.heap.size + 6 < W.heap.size := (Array.getElem?_eq_some_iff.1 h.rcd).1
  exact ⟨bseq h.below hb, (hb.block _ (by omega)).trans h.res, (hb.block _ (by omega)).trans h.cnt, (hb.block _ (by omega)).trans h.str, (hb.block _ (by omega)).trans h.sep, (hb.block _ (by omega)).trans h.sav, (hb.block _ (by omega)).trans h.dfr, (hb.block _ (by omega)).trans h.rcd⟩
theorem FourSt.store {w W : World} {rec : Loop} {n : Nat} {rest : ByteArray} (h : FourSt w rec n rest W) (r2 : ByteArray) : FourSt w rec n r2 (W.setCell ⟨w.heap.size + 2, 0, none⟩ (.string r2)) := by
  refine ⟨h.below.setCell (by simp) _, ?_, ?_, heap_setCell_at h.str 0 _, ?_, ?_, ?_, ?_⟩
  · exact (Below.heap_setCell _ _ _ _ (by simp)).trans h.res
  · exact (Below.heap_setCell _ _ _ _ (by simp)).trans h.cnt
  · exact (Below.heap_setCell _ _ _ _ (by simp)).trans h.sep
  · exact (Below.heap_setCell _ _ _ _ (by simp)).trans h.sav
  · exact (Below.heap_setCell _ _ _ _ (by simp)).trans h.dfr
  · exact (Below.heap_setCell _ _ _ _ (by simp)).trans h.rcd
theorem FourSt.count {w W : World} {rec : Loop} {n : Nat} {rest : ByteArray} (h : FourSt w rec n rest W) (k : Nat) : FourSt w rec k rest (W.setCell ⟨w.heap.size + 1, 0, none⟩ (.int .i64 k)) := by
  refine ⟨h.below.setCell (by simp) _, ?_, heap_setCell_at h.cnt 0 _, ?_, ?_, ?_, ?_, ?_⟩
  · exact (Below.heap_setCell _ _ _ _ (by simp)).trans h.res
  · exact (Below.heap_setCell _ _ _ _ (by simp)).trans h.str
  · exact (Below.heap_setCell _ _ _ _ (by simp)).trans h.sep
  · exact (Below.heap_setCell _ _ _ _ (by simp)).trans h.sav
  · exact (Below.heap_setCell _ _ _ _ (by simp)).trans h.dfr
  · exact (Below.heap_setCell _ _ _ _ (by simp)).trans h.rcd
theorem FourSt.answer {w W : World} {rec : Loop} {n : Nat} {rest : ByteArray} (h : FourSt w rec n rest W) : FourSt w rec n rest (W.setCell ⟨w.heap.size, 0, none⟩ (.bool false)) := by
  refine ⟨h.below.setCell (by simp) _, heap_setCell_at h.res 0 _, ?_, ?_, ?_, ?_, ?_, ?_⟩
  · exact (Below.heap_setCell _ _ _ _ (by simp)).trans h.cnt
  · exact (Below.heap_setCell _ _ _ _ (by simp)).trans h.str
  · exact (Below.heap_setCell _ _ _ _ (by simp)).trans h.sep
  · exact (Below.heap_setCell _ _ _ _ (by simp)).trans h.sav
  · exact (Below.heap_setCell _ _ _ _ (by simp)).trans h.dfr
  · exact (Below.heap_setCell _ _ _ _ (by simp)).trans h.rcd

def FourJ (w : World) (rec : Loop) (pre : List (List UInt8)) (rest : ByteArray) (W : World) : Prop := FourSt w rec pre.length rest W ∧ pre.all (smallL 255) = true
def FourX (w : World) (rec : Loop) (x : List UInt8) (W : World) : Prop := (∃ n rest, FourSt w { { rec with state := .busy } with state := .done, pending := some .ret } n rest W) ∧ smallL 255 x = false

/-- A range over a function that is a closure of the program's, at the fence that asks nothing: what its one call must achieve, from the world behind the record. -/
theorem rangeFunc_own {n : Nat} {P : Program} {g : Operand} {ps : Array Tmp} {assign body : Code} {Q : Exit → Act → World → Prop} {a : Act} {W : World} {gf : Nat} {lb : Array Value}
    (hg : a.eval g = .func (.func gf) #[] lb) (eg : ∀ args w, (callFunc gf args).run P w = .ok (.enter gf args) w)
    (h : ∀ rec : Loop, rec.state = .ready → rec.pending = none → rec.tmps = a.tmps → rec.params = ps → rec.assign = assign → rec.body = body →
      CallsIn Fence.wide (n - 1) P gf (#[.func (.yield (W.heap.size + 1)) #[] #[]] ++ lb) ((W.alloc (.deferred (some []))).alloc (.loop rec)) (rangePost Fence.wide n P (W.heap.size + 1) Q { a with defers := { target := .collected W.heap.size, args := #[] } :: a.defers })) :
    (Code.rangeFunc g ps assign body).wpIn Fence.wide n P Q a W := by
  refine wpIn_rangeFunc ?_
  intro fn hfn
  have hc := h { state := .ready, pending := none, fn, tmps := a.tmps, params := ps, assign, body, defers := W.heap.size } rfl rfl rfl rfl rfl rfl
  have he := run_enterLoop_outer (P := P) (w := W) fn a.tmps ps assign body
  revert hc he
  generalize (W.alloc (.deferred (some []))).alloc (.loop { state := .ready, pending := none, fn, tmps := a.tmps, params := ps, assign, body, defers := W.heap.size }) = W1
  intro hc he
  refine ⟨W.heap.size + 1, [{ target := .collected W.heap.size, args := #[] }], W1, { target := .fn (.func gf) lb, args := #[.func (.yield (W.heap.size + 1)) #[] #[]] }, W1, gf, #[.func (.yield (W.heap.size + 1)) #[] #[]] ++ lb, W1, he, ?_, ?_, ?_, ?_, ?_⟩
  · simp only [resolve, hg]
    simp [go_sem]
  · intro f' _; exact trivial
  · simp [invoke, go_sem, eg]
  · intro hd; cases hd
  · exact hc

theorem push5 (h : Array Obj) (o0 o1 o2 o3 o4 : Obj) : (((((h.push o0).push o1).push o2).push o3).push o4) = h ++ #[o0, o1, o2, o3, o4] := Array.ext' (by simp)
theorem push5_at (h : Array Obj) (o0 o1 o2 o3 o4 : Obj) : (((((h.push o0).push o1).push o2).push o3).push o4)[h.size]? = some o0 ∧ (((((h.push o0).push o1).push o2).push o3).push o4)[h.size + 1]? = some o1 ∧ (((((h.push o0).push o1).push o2).push o3).push o4)[h.size + 2]? = some o2 ∧ (((((h.push o0).push o1).push o2).push o3).push o4)[h.size + 3]? = some o3 ∧ (((((h.push o0).push o1).push o2).push o3).push o4)[h.size + 4]? = some o4 := by
  rw [push5]
  refine ⟨?_, ?_, ?_, ?_, ?_⟩
  all_goals
    rw [Array.getElem?_append_right (by omega)]
    simp

attribute [local go_sem] Oper.semAt_some
set_option maxRecDepth 100000 in
set_option maxHeartbeats 4000000 in
theorem four_any (s : ByteArray) (w : World) (hs : s.size ≤ 1000000) (hP : PowAt w) :
    Calls Tryd.prog 49 #[.string s] w fun e w' => e = .returned (.bool (fourL s.data.toList)) ∧ Below w.heap.size w w' := by
  have HP := Lib.hid hP; clear hP
  refine (callsIn_wide (n := 9)).1 ?_
  refine callsIn_of_wp_marks Tryd.func49 rfl trivial ?_ rfl
  simp only [Tryd.ntmps49, List.size_toArray, List.length_cons, List.length_nil, Nat.reduceAdd, Nat.reduceSub, Array.replicate_succ, Array.replicate_zero, List.push_toArray, List.append_toArray, List.nil_append, List.cons_append]
  gi_wp2_with (refine ⟨trivial, ?_⟩; gi_at_call 79; refine (callsIn_wide.2 (splitSeq_call s ⟨#[46]⟩ _)).mono ?_; rintro e w1 ⟨rfl, hw1⟩)
  simp only [Nat.add_assoc, Nat.reduceAdd]
  have hz1 : w1.heap.size = w.heap.size + 5 := by rw [← hw1]; simp
  have hbs : w1.heap[w.heap.size]? = some (.cells #[.bool false] 4 (0, 0)) ∧ w1.heap[w.heap.size + 1]? = some (.cells #[.int .i64 0] 3 (0, 0)) ∧ w1.heap[w.heap.size + 2]? = some (.cells #[.string s] 9 (0, 0)) ∧ w1.heap[w.heap.size + 3]? = some (.cells #[.string ⟨#[46]⟩] 9 (0, 0)) ∧ w1.heap[w.heap.size + 4]? = some (.cells #[.int .i64 0] 3 (0, 0)) := by
    rw [← hw1]; exact push5_at w.heap _ _ _ _ _
  obtain ⟨b0, b1, b2, b3, b4⟩ := hbs
  have hbw : Below w.heap.size w w1 := by
    rw [← hw1]
    exact (((((Below.refl _ _).alloc (Nat.le_refl _) _).alloc (by simp <;> omega) _).alloc (by simp <;> omega) _).alloc (by simp <;> omega) _).alloc (by simp <;> omega) _
  clear hw1
  have SM := Lib.hid (fun (x : ByteArray) W (hx : x.size ≤ 1000000) (h : PowAt W) => small_any x 255 W hx (by decide) (by decide) h)
  refine rangeFunc_own rfl (enters_of Tryd.func118 (by kernel_rfl) rfl) ?_
  intro rec e1 e2 e3 e4 e5 e6
  obtain ⟨W1, hW1⟩ : ∃ W1, (w1.alloc (.deferred (some []))).alloc (.loop rec) = W1 := ⟨_, rfl⟩
  have st0 : FourSt w rec 0 s W1 := by
    rw [← hW1]
    have a5 : (w1.alloc (.deferred (some []))).heap.size = w.heap.size + 6 := by simp [hz1]
    refine ⟨(hbw.alloc (by omega) _).alloc (by omega) _, ?_, ?_, ?_, ?_, ?_, ?_, ?_⟩
    · exact (Below.heap_alloc _ _ _ (by omega)).trans ((Below.heap_alloc _ _ _ (by omega)).trans b0)
    · exact (Below.heap_alloc _ _ _ (by omega)).trans ((Below.heap_alloc _ _ _ (by omega)).trans b1)
    · exact (Below.heap_alloc _ _ _ (by omega)).trans ((Below.heap_alloc _ _ _ (by omega)).trans b2)
    · exact (Below.heap_alloc _ _ _ (by omega)).trans ((Below.heap_alloc _ _ _ (by omega)).trans b3)
    · exact (Below.heap_alloc _ _ _ (by omega)).trans ((Below.heap_alloc _ _ _ (by omega)).trans b4)
    · refine (Below.heap_alloc _ _ _ (by omega)).trans ?_
      have := World.alloc_heap_new w1 (.deferred (some []))
      rw [hz1] at this
      exact this
    · have := World.alloc_heap_new (w1.alloc (.deferred (some []))) (.loop rec)
      rw [a5] at this
      exact this
  have ST0 := Lib.hid st0; clear st0 b0 b1 b2 b3 b4 hbw
  rw [hW1, hz1]
  clear hW1
  have hrec : rec = { { rec with state := .busy } with state := .ready, pending := none } := by
    cases rec; simp only at e1 e2; subst e1 e2; rfl
  have HREC := Lib.hid hrec; clear hrec
  refine CallsIn.mono (splitSeq1_in 8 (w.heap.size + 6) (w.heap.size + 3) (w.heap.size + 2) (w.heap.size + 4) (by decide) 46
    (FourJ w rec) (FourX w rec)
    ?_ ?_ s hs ?_ W1 ⟨ST0.out, rfl⟩) ?_
  · rintro pre rest W ⟨st, _⟩
    exact ⟨by rw [cell_of_row W _ 0 _ _ _ st.sep]; rfl, by rw [cell_of_row W _ 0 _ _ _ st.str]; rfl, frozen_of_row W _ 0 _ _ st.str, by rw [cell_of_row W _ 0 _ _ _ st.sav]; rfl⟩
  · rintro pre rest W r2 ⟨st, h⟩
    exact ⟨st.store r2, h⟩
  · rintro pre rest x W hx hlt ⟨st, hall⟩
    have hpl : pre.length ≤ 2000000 := by
      have := partsL_len (c := 46) s.data.toList
      rw [← Lib.size_eq] at this
      omega
    clear hlt
    have HX := Lib.hid hx; clear hx
    have HALL := Lib.hid hall; clear hall
    have hxs : x.size ≤ 1000000 := by
      have := partsL_size _ _ HX.out
      rw [← Lib.size_eq, ← Lib.size_eq] at this
      omega
    refine ⟨_, _, _, _, run_yield st.rcd (by rw [e4]; rfl), ?_⟩
    have ST2 := Lib.hid (st.put { rec with state := .busy })
    have BR := Lib.hid (run_beginRound (P := Tryd.prog) st.rcd e1)
    have hpw : PowAt (W.putObj (w.heap.size + 6) (.loop { rec with state := .busy })) := powAt_below HP.out ST2.out.below
    have SMX := Lib.hid (SM.out x _ hxs hpw)
    obtain ⟨b, hb⟩ : ∃ b, smallL 255 x.data.toList = b := ⟨_, rfl⟩
    rw [hb] at SMX
    have HB := Lib.hid hb; clear hb hpw hxs st
    rw [e3, e4, e5, e6]
    refine roundIn_of_wpIn trivial ?_
    obtain ⟨W2, hW2⟩ : ∃ W2, W.putObj (w.heap.size + 6) (.loop { rec with state := .busy }) = W2 := ⟨_, rfl⟩
    obtain ⟨rb, hrb⟩ : ∃ rb, ({ rec with state := .busy } : Loop) = rb := ⟨_, rfl⟩
    rw [hW2] at BR SMX ST2
    rw [hrb] at ST2 HREC
    have HRB := Lib.hid hrb
    clear hW2 hrb e3 e4 e5 e6 e2 e1
    gi_wp2
    refine ⟨_, BR.out, ?_⟩
    clear BR
    have r0 : W2.cell? ⟨w.heap.size, 0, none⟩ = some (.bool false) := by rw [cell_of_row W2 _ 0 _ _ _ ST2.out.res]; rfl
    have r1 : W2.cell? ⟨w.heap.size + 1, 0, none⟩ = some (.int .i64 pre.length) := by rw [cell_of_row W2 _ 0 _ _ _ ST2.out.cnt]; rfl
    gi_wp2
    refine ⟨trivial, ?_⟩
    gi_at_call 80
    refine (CallsIn.inRound (w.heap.size + 6) (callsIn_wide.2 SMX.out)).mono ?_
    rintro e w3 ⟨rfl, hw3⟩
    have ST3 := Lib.hid (ST2.out.call hw3)
    have s0 : w3.cell? ⟨w.heap.size, 0, none⟩ = some (.bool false) := by rw [cell_of_row w3 _ 0 _ _ _ ST3.out.res]; rfl
    have t0 := frozen_of_row w3 w.heap.size 0 _ _ ST3.out.res
    have s1 : w3.cell? ⟨w.heap.size + 1, 0, none⟩ = some (.int .i64 pre.length) := by rw [cell_of_row w3 _ 0 _ _ _ ST3.out.cnt]; rfl
    have t1 := frozen_of_row w3 (w.heap.size + 1) 0 _ _ ST3.out.cnt
    clear hw3 r0 r1 SMX
    have g4 : IntKind.i64.wrap ((pre.length : Int) + 1) = ((pre.length + 1 : Nat) : Int) := by rw [wrap_small _ (by omega) (by omega)]; omega
    cases b with
    | true =>
      gi_wp2
      have st4 := ST3.out.count (pre.length + 1)
      refine ⟨_, _, run_endRound none st4.rcd, .inl ⟨rfl, ?_, ?_⟩⟩
      · show FourSt w rec (pre ++ [x.data.toList]).length rest (World.putObj _ _ (.loop { rb with state := .ready, pending := none }))
        rw [← HREC.out, List.length_append]
        exact st4.put rec
      · rw [List.all_append, HALL.out]
        simp [HB.out]
    | false =>
      gi_wp2
      have st4 := ST3.out.answer
      have e : ({ { rec with state := .busy } with state := .done, pending := some .ret } : Loop) = { rb with state := .done, pending := some .ret } := by rw [← HRB.out]
      refine ⟨_, _, run_endRound (some .ret) st4.rcd, .inr ⟨rfl, ⟨pre.length, rest, ?_⟩, HB.out⟩⟩
      exact Eq.mpr (congrArg (fun r => FourSt w r pre.length rest _) e) (st4.put _)
  · rintro e W2 ⟨⟨v, rfl⟩, (⟨rest, st, hall⟩ | ⟨x, hx, ⟨n, rest, st⟩, hsm⟩)⟩
    · refine ⟨none, W2.putObj (w.heap.size + 6) (.loop { rec with state := .exhausted, pending := none }), by have := run_endLoop (P := Tryd.prog) st.rcd (by rw [e1]; simp); rw [e2] at this; exact this, ?_⟩
      have st4 := st.put { rec with state := .exhausted, pending := none }
      obtain ⟨W4, hW4⟩ : ∃ W4, W2.putObj (w.heap.size + 6) (.loop { rec with state := .exhausted, pending := none }) = W4 := ⟨_, rfl⟩
      rw [hW4] at st4
      rw [hW4]
      have ST4 := Lib.hid st4; have HALL := Lib.hid hall
      clear hW4 st hall st4
      have s0 : W4.cell? ⟨w.heap.size, 0, none⟩ = some (.bool false) := by rw [cell_of_row W4 _ 0 _ _ _ ST4.out.res]; rfl
      have t0 := frozen_of_row W4 w.heap.size 0 _ _ ST4.out.res
      have s1 : W4.cell? ⟨w.heap.size + 1, 0, none⟩ = some (.int .i64 (partsL 46 s.data.toList).length) := by rw [cell_of_row W4 _ 0 _ _ _ ST4.out.cnt]; rfl
      have t1 := frozen_of_row W4 (w.heap.size + 1) 0 _ _ ST4.out.cnt
      show Exit.inBlock 0 _ .normal _ W4
      gi_wp2
      obtain ⟨bb, hbb⟩ : ∃ bb, (((partsL 46 s.data.toList).length : Int) == 4) = bb := ⟨_, rfl⟩
      rw [hbb]
      have hd5 : (W4.setCell ⟨w.heap.size, 0, none⟩ (.bool bb)).heap[w.heap.size + 5]? = some (.deferred (some [])) := (Below.heap_setCell _ _ _ _ (by simp)).trans ST4.out.dfr
      have hr5 : (W4.setCell ⟨w.heap.size, 0, none⟩ (.bool bb)).heap[w.heap.size]? = some (.cells #[.bool bb] 4 (0, 0)) := heap_setCell_at ST4.out.res 0 _
      have hb5 : Below w.heap.size w (W4.setCell ⟨w.heap.size, 0, none⟩ (.bool bb)) := ST4.out.below.setCell (Nat.le_refl _) _
      refine ⟨by simp, .inl ⟨_, _, rfl, run_takeDeferred hd5, ?_⟩⟩
      obtain ⟨W5, hW5⟩ : ∃ W5, W4.setCell ⟨w.heap.size, 0, none⟩ (.bool bb) = W5 := ⟨_, rfl⟩
      rw [hW5] at hr5 hb5 ⊢
      refine ⟨.bool bb, ?_, ?_, ?_⟩
      · have hc : (W5.putObj (w.heap.size + 5) (.deferred none)).cell? ⟨w.heap.size, 0, none⟩ = some (.bool bb) := by
          rw [cell_of_row _ w.heap.size 0 _ _ _ ((World.putObj_heap_other (by omega)).trans hr5)]; rfl
        simp [results, Tryd.f49, go_sem, hc]
      · rw [← hbb]
        unfold fourL
        rw [HALL.out, Bool.true_and]
        congr 2
        rw [Bool.eq_iff_iff]
        simp only [beq_iff_eq]
        omega
      · exact ⟨hb5.os, hb5.tape, hb5.output, by simpa using hb5.size, fun k hk => (World.putObj_heap_other (by omega)).trans (hb5.block k hk)⟩
    · refine ⟨some .ret, _, run_endLoop (P := Tryd.prog) st.rcd (by simp), ?_⟩
      have st4 := st.put { { { rec with state := .busy } with state := .done, pending := some .ret } with state := .exhausted }
      have ST4 := Lib.hid st4
      show Code.wpIn _ _ _ _ _ _ _
      obtain ⟨W4, hW4⟩ : ∃ W4, W2.putObj (w.heap.size + 6) (.loop { { { rec with state := .busy } with state := .done, pending := some .ret } with state := .exhausted }) = W4 := ⟨_, rfl⟩
      rw [hW4] at ST4 ⊢
      have hrng : Hid (fourL s.data.toList = false) := Lib.hid (by
        unfold fourL
        rw [Bool.and_eq_false_iff]
        left
        rw [List.all_eq_false]
        exact ⟨x, hx, by rw [hsm]; simp⟩)
      have hd5 := Lib.hid ST4.out.dfr
      have hr5 := Lib.hid ST4.out.res
      have hb5 := Lib.hid ST4.out.below
      clear hW4 st st4 e3 e4 e5 e6 ST4
      gi_wp2
      refine ⟨by simp, .inl ⟨_, _, rfl, run_takeDeferred hd5.out, ?_⟩⟩
      refine ⟨.bool false, ?_, ?_, ?_⟩
      · have hc : (W4.putObj (w.heap.size + 5) (.deferred none)).cell? ⟨w.heap.size, 0, none⟩ = some (.bool false) := by
          rw [cell_of_row _ w.heap.size 0 _ _ _ ((World.putObj_heap_other (by omega)).trans hr5.out)]; rfl
        simp [results, Tryd.f49, go_sem, hc]
      · rw [hrng.out]
      · exact ⟨hb5.out.os, hb5.out.tape, hb5.out.output, by simpa using hb5.out.size, fun k hk => (World.putObj_heap_other (by omega)).trans (hb5.out.block k hk)⟩

end Go.Proofs.YthhpijmkhhdhhaaDoor
