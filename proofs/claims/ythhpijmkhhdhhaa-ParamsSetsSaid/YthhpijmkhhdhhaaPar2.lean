/- params.Parse. -/
import Derived.Test.YthhpijmkhhdhhaaPar
namespace Go.Proofs.Ythhpijmkhhdhhaa
open Go.RowKit
set_option linter.unusedVariables false
set_option linter.unusedSimpArgs false

theorem info_par : (Try.prog.info? 85).map (fun i => (i.zero, i.size, i.bytes)) = some (some (.agg #[.string ByteArray.empty, .string ByteArray.empty]), 2, 32) := by kernel_rfl

/-- append(s, x) of one param, which the walk has just laid into a block of its own. -/
theorem app_par {ops : Array Oper} {rest : List Oper} {o : Oper} {a : Act} {Q : Exit → Act → World → Prop}
    (hgd : o.guard = none) (s x : Operand) (ho : o.op = .call { callee := .builtin .append, args := #[s, x], argTypes := #[72, 72] })
    (w : World) (base : Nat) (v : Value) (n : Nat) (xs : List Value) (u1 u2 : ByteArray) (hs : a.eval s = v) (hown : w.ownsRow base 85 2 v n xs)
    (hx : a.eval x = .slice (some ⟨w.heap.size, 0, none⟩) 1 1) (hn : n + 1 ≤ 1000000) (hbase : base ≤ w.heap.size)
    (h : ∀ g cap w', w'.ownsRow base 85 2 (.slice (some ⟨g, 0, none⟩) (n + 1) cap) (n + 1) (xs ++ [.string u1, .string u2]) → w.grownBy w' v.ownBlock → base ≤ g → g < w'.heap.size →
      wpList Try.prog ops Q rest (a.put o.dst (.slice (some ⟨g, 0, none⟩) (n + 1) cap)) w') : wpList Try.prog ops Q (o :: rest) a (w.alloc (.cells #[.string u1, .string u2] 85)) := by
  obtain ⟨i, hi, hz0, hz1, hz2⟩ := info_parts info_par
  refine wpList_append_lies (w.alloc (.cells #[.string u1, .string u2] 85)) hgd s x 72 ho base 85 i _ 2 32 Try.underlying72 hi hz0 hz1 hz2 (by decide) (by decide) v n xs hs (hown.alloc _) ⟨w.heap.size, 0, none⟩ 1 1 [.string u1, .string u2] hx rfl ?_ ?_ (by decide) (by unfold maxLen; omega) (by omega) (by simp; omega) (w.heap.size + 1) (by simp) ?_
  · exact World.news_of_block (heap_alloc_new w _)
  · intro u' hu'; simp at hu'; rcases hu' with rfl | rfl <;> rfl
  · intro g cap w' ho' hg hat hlt
    have hbg : base ≤ g := by
      rcases ho'.2 with ⟨h0, _⟩ | ⟨g', _, _, h0, hb, _⟩
      · cases h0
      · injection h0 with h0; injection h0 with h0; injection h0 with h0; omega
    have hg2 : w.grownBy w' v.ownBlock := ⟨hg.os, hg.tape, hg.output, by have := hg.size; simp at this; omega, fun k hk hne => by
      rw [hg.block k (by simp; omega) hne]; exact Below.heap_alloc _ _ _ hk⟩
    exact h g cap w' ho' hg2 hbg hlt

abbrev PL := List (List UInt8 × List UInt8)
def pCells (ps : PL) : List Value := ps.flatMap fun p => [.string ⟨p.1.toArray⟩, .string ⟨p.2.toArray⟩]
theorem pCells_snoc (ps : PL) (p : List UInt8 × List UInt8) : pCells (ps ++ [p]) = pCells ps ++ [.string ⟨p.1.toArray⟩, .string ⟨p.2.toArray⟩] := by unfold pCells; rw [List.flatMap_append]; simp

def oPs (o : Option PL) : PL := o.getD []
def pE (o : Option PL) : Int := if o.isSome then 0 else 2

def ParsePost (w : World) (o : Option PL) (e : Ending) (w' : World) : Prop :=
  ∃ v, e = .returned (.tuple #[v, .int .i64 (pE o)]) ∧ Below w.heap.size w w' ∧ w'.ownsRow w.heap.size 85 2 v (oPs o).length (pCells (oPs o))

theorem own_frC_par {w w' : World} {base size : Nat} {v : Value} {n c : Nat} {xs : List Value} {s : ByteArray} {i : Nat} (h : w.ownsRow base 85 size v n xs) (hs : ScanAt w c s i) (hf : FrC c w w') : w'.ownsRow base 85 size v n xs :=
  h.kept (row := some c) ⟨hf.os, hf.tape, hf.output, hf.size, fun k hk hne => hf.block k hk fun e => hne (by rw [e])⟩ (.inr (own_ne h hs.1 (by decide)))

theorem ret_vi {a c : Value} {b d : Int} (h : a = c) (h2 : b = d) : Ending.returned (.tuple #[a, .int .i64 b]) = .returned (.tuple #[c, .int .i64 d]) := by rw [h, h2]

/-- What the loop of Parse keeps. -/
def ParL (w : World) (c : Nat) (s : ByteArray) (j : Nat) (ps : PL) (out : Value) (wr : World) : Prop :=
  ScanAt wr c s j ∧ BoxAt wr (c + 1) c ∧ Below w.heap.size w wr ∧ wr.ownsRow w.heap.size 85 2 out ps.length (pCells ps) ∧ parseL s.data.toList = (parseL (ahead s j)).map (ps ++ ·) ∧ ps.length ≤ j

theorem parse_none1 {s : ByteArray} {j : Nat} {ps : PL} (h : parseL s.data.toList = (parseL (ahead s j)).map (ps ++ ·)) (h1 : oneL (ahead s j) = none) : parseL s.data.toList = none := by
  rw [h, parseL_step, h1]; rfl
theorem parse_none2 {s : ByteArray} {j n : Nat} {ps : PL} {p : List UInt8 × List UInt8} (h : parseL s.data.toList = (parseL (ahead s j)).map (ps ++ ·)) (h1 : oneL (ahead s j) = some (p, n)) (h2 : j + n < s.size) (h3 : moreL (ahead s (j + n)) = none) : parseL s.data.toList = none := by
  rw [h, parseL_step, h1]
  simp only [ahead_drop]
  rw [if_neg (by rw [ahead_cons s (j + n) h2]; simp), h3]; rfl
theorem parse_end {s : ByteArray} {j n : Nat} {ps : PL} {p : List UInt8 × List UInt8} (h : parseL s.data.toList = (parseL (ahead s j)).map (ps ++ ·)) (h1 : oneL (ahead s j) = some (p, n)) (h2 : s.size ≤ j + n) : parseL s.data.toList = some (ps ++ [p]) := by
  rw [h, parseL_step, h1]
  simp only [ahead_drop]
  rw [if_pos (ahead_end s (j + n) h2)]; rfl
theorem parse_next {s : ByteArray} {j n m : Nat} {ps : PL} {p : List UInt8 × List UInt8} (h : parseL s.data.toList = (parseL (ahead s j)).map (ps ++ ·)) (h1 : oneL (ahead s j) = some (p, n)) (h2 : j + n < s.size) (h3 : moreL (ahead s (j + n)) = some m) : parseL s.data.toList = (parseL (ahead s (j + n + m))).map ((ps ++ [p]) ++ ·) := by
  rw [h, parseL_step, h1]
  simp only [ahead_drop]
  rw [if_neg (by rw [ahead_cons s (j + n) h2]; simp), h3]
  simp only [Option.map_map]
  rw [show j + (n + m) = j + n + m from by omega]
  congr 1
  funext q
  simp

set_option maxRecDepth 100000 in
set_option maxHeartbeats 2000000 in
theorem parse_any (s : ByteArray) (w : World) (hs : s.size ≤ 900000) :
    Calls Try.prog 85 #[.string s] w (ParsePost w (parseL s.data.toList)) := by
  have SA := scanAt_new s w (by omega)
  have hal1 : Below w.heap.size w (w.alloc (.cells #[.string s, .int .i64 0] 109)) := (Below.refl _ _).alloc (Nat.le_refl _) _
  have hz1 : (w.alloc (.cells #[.string s, .int .i64 0] 109)).heap.size = w.heap.size + 1 := by simp
  go_enter Try.func85, Try.ntmps85
  go_wp2_with fail
  refine (scan_new s w).mono ?_
  rintro e w1 ⟨rfl, hw1⟩
  rw [hw1] at SA hal1 hz1
  clear hw1
  have hBX : BoxAt (w1.alloc (.cells #[.pointer (some ⟨w.heap.size, 0, none⟩)] 122)) (w.heap.size + 1) w.heap.size := by
    have h2 := heap_alloc_new w1 (.cells #[.pointer (some ⟨w.heap.size, 0, none⟩)] 122)
    rw [hz1] at h2; exact h2
  have hb2 : Below w.heap.size w (w1.alloc (.cells #[.pointer (some ⟨w.heap.size, 0, none⟩)] 122)) := hal1.alloc hal1.size _
  have hs2 := scanAt_block SA ((Below.refl w1.heap.size w1).alloc (Nat.le_refl _) (.cells #[.pointer (some ⟨w.heap.size, 0, none⟩)] 122))
  have hinv : ParL w w.heap.size s 0 [] (.slice none 0 0) (w1.alloc (.cells #[.pointer (some ⟨w.heap.size, 0, none⟩)] 122)) :=
    ⟨hs2, hBX, hb2, World.ownsRow_nil _ _ _ _, by rw [ahead0]; simp, Nat.zero_le _⟩
  have HZ1 := Lib.hid hz1
  have HI := Lib.hid hinv; clear hinv hs2 hb2 hBX SA hal1 hz1
  go_wp2_with fail
  rw [HZ1.out]
  generalize w1.alloc (.cells #[.pointer (some ⟨w.heap.size, 0, none⟩)] 122) = w2 at HI
  clear HZ1
  obtain ⟨c, hc⟩ : ∃ c, w.heap.size = c := ⟨_, rfl⟩
  have HI : Hid (ParL w c s 0 [] (.slice none 0 0) w2) := by rw [← hc]; exact HI
  rw [hc]
  have HC := Lib.hid hc; clear hc
  go_loopg [5, 6, 7] s.size (fun g out _ _ wr => ∃ (j : Nat) (ps : PL), j ≤ s.size ∧ g = s.size - j ∧ Hid (ParL w c s j ps out wr))
  case atStart => exact ⟨0, [], Nat.zero_le _, rfl, HI.out⟩
  case round =>
    obtain ⟨j, ps, hj, hg, hinv⟩ := hrel
    clear HI
    obtain ⟨hsc, hbx, hbl, hown, hpar, hpl⟩ := hinv.out
    clear hinv
    obtain ⟨r0, hbs⟩ := box_cells hbx
    have hcw := (scan_cells hsc).2.2.2
    have ON := Lib.hid (reader_one wr c s j hsc)
    have HG := Lib.hid hg; clear hg
    have HS := Lib.hid hsc; clear hsc
    have HX := Lib.hid hbx; clear hbx
    have HB := Lib.hid hbl; clear hbl
    have HO := Lib.hid hown; clear hown
    have HP := Lib.hid hpar; clear hpar
    go_wp2_with fail
    refine ON.out.mono ?_
    rintro e w3 ⟨ok, P, V, rfl, hf3, hcase⟩
    clear ON
    have hcB : w.heap.size ≤ c := by rw [HC.out]; exact Nat.le_refl _
    have hwr := HB.out.size
    have hb3 : Below w.heap.size w w3 := HB.out.trans (hf3.below hcB hwr)
    have hx3 := box_frC HX.out hf3 (by omega)
    have ho3 := own_frC_par HO.out HS.out hf3
    have hz3 := hf3.size
    rcases hcase with ⟨rfl, p, n, h1, rfl, rfl, hs3⟩ | ⟨rfl, h1⟩
    · have hfit := (oneL_fits h1)
      have H1 := Lib.hid h1; clear h1
      have hal := (Below.refl w3.heap.size w3).alloc (Nat.le_refl _) (.cells #[.string ⟨p.1.toArray⟩, .string ⟨p.2.toArray⟩] 85)
      have hb4 := hb3.trans (hal.mono (by omega))
      have hx4 : BoxAt _ (c + 1) c := (hal.block _ (lt_of_block hx3)).trans hx3
      have ho4 := own_below ho3 hal
      have hs4 := scanAt_block hs3 hal
      have hz4 : w3.heap.size < (w3.alloc (.cells #[.string ⟨p.1.toArray⟩, .string ⟨p.2.toArray⟩] 85)).heap.size := by simp
      have HZ4 : Hid ((w3.alloc (.cells #[.string ⟨p.1.toArray⟩, .string ⟨p.2.toArray⟩] 85)).heap.size = w3.heap.size + 1) := Lib.hid (by simp)
      have HS4 := Lib.hid hs4; clear hs4 hs3
      have HX4 := Lib.hid hx4; clear hx4 hx3
      have HB4 := Lib.hid hb4; clear hb4 hb3 hal
      have HO4 := Lib.hid ho4; clear ho4 ho3
      have hc0 : (w3.alloc (.cells #[.string ⟨p.1.toArray⟩, .string ⟨p.2.toArray⟩] 85)).cell? ⟨w3.heap.size, 0, none⟩ = some (.string ⟨p.1.toArray⟩) := by simp
      have hc1 : (w3.alloc (.cells #[.string ⟨p.1.toArray⟩, .string ⟨p.2.toArray⟩] 85)).cell? ⟨w3.heap.size, 1, none⟩ = some (.string ⟨p.2.toArray⟩) := by simp
      have hjs := HS4.out.2.1
      clear r0 hbs HO HX HS HB hf3
      go_wp2_with (at_builtin; refine app_par (by rfl) (.tmp 18) (.tmp 20) (by rfl) (w3.alloc (.cells #[.string ⟨p.1.toArray⟩, .string ⟨p.2.toArray⟩] 85)) w.heap.size _ ps.length (pCells ps) _ _ (by rfl) HO4.out (by rw [HZ4.out]; rfl) ?_ ?_ ?_)
      · omega
      · omega
      intro g5 cp5 w5 hown5 hg5 hbg5 hgl5
      have hb5 : Below w.heap.size w w5 := app_below HB4.out HO4.out hg5 (Nat.le_refl _) (by omega)
      have hs5 : ScanAt w5 c s (j + n) := ⟨by rw [hg5.block c (scan_cells HS4.out).2.2.2 (fun e => own_ne HO4.out HS4.out.1 (by decide) e.symm)]; exact HS4.out.1, HS4.out.2⟩
      have hx5 : BoxAt w5 (c + 1) c := by
        have := hg5.block (c + 1) (lt_of_block HX4.out) (fun e => own_ne HO4.out HX4.out (by decide) e.symm)
        exact this.trans HX4.out
      have ho5 : w5.ownsRow w.heap.size 85 2 (.slice (some ⟨g5, 0, none⟩) (ps.length + 1) cp5) (ps ++ [p]).length (pCells (ps ++ [p])) := by
        rw [pCells_snoc, List.length_append]; exact hown5
      obtain ⟨r0, hbs⟩ := box_cells hx5
      have EN := Lib.hid (scan_end w5 c s (j + n) hs5)
      have HS5 := Lib.hid hs5; clear hs5 HS4
      have HX5 := Lib.hid hx5; clear hx5 HX4
      have HB5 := Lib.hid hb5; clear hb5 HB4
      have HO5 := Lib.hid ho5; clear ho5 HO4 hown5 hg5 hc0 hc1
      by_cases hend : s.size ≤ j + n
      · have hpe := parse_end HP.out H1.out hend
        have hd : decide (s.size ≤ j + n) = true := decide_eq_true hend
        have HPE := Lib.hid hpe; clear hpe hend
        have HD := Lib.hid hd; clear hd
        go_wp2_with fail
        refine EN.out.mono ?_
        rintro e w6 ⟨rfl, nd, rfl⟩
        rw [HD.out]
        go_wp2_with fail
        go_ret2
        rw [HPE.out]
        exact ⟨_, rfl, below_drewN' HB5.out nd, HO5.out⟩
      · have hlt : j + n < s.size := by omega
        have hd : decide (s.size ≤ j + n) = false := decide_eq_false hend
        have HD := Lib.hid hd; clear hd hend
        go_wp2_with fail
        refine EN.out.mono ?_
        rintro e w6 ⟨rfl, nd, rfl⟩
        rw [HD.out]
        clear EN
        have MO := Lib.hid (reader_more (w5.drewN nd) c s (j + n) HS5.out)
        have r0' : (w5.drewN nd).cell? ⟨c + 1, 0, none⟩ = some (.pointer (some ⟨c, 0, none⟩)) := r0
        go_wp2_with fail
        refine MO.out.mono ?_
        rintro e w7 ⟨ok, rfl, hf7, hcase⟩
        have hf7' : FrC c w5 w7 := FrC.trans (w1 := w5.drewN nd) ⟨rfl, rfl, rfl, Nat.le_refl _, fun _ _ _ => rfl⟩ hf7
        have hw5 := HB5.out.size
        have hb7 : Below w.heap.size w w7 := HB5.out.trans (hf7'.below hcB hw5)
        have hx7 := box_frC HX5.out hf7' (by omega)
        have ho7 := own_frC_par HO5.out HS5.out hf7'
        rcases hcase with ⟨rfl, m, hm, hs7⟩ | ⟨rfl, hm⟩
        · have hpn := parse_next HP.out H1.out hlt hm
          have hjs7 := hs7.2.1
          have hinv : ParL w c s (j + n + m) (ps ++ [p]) (.slice (some ⟨g5, 0, none⟩) (ps.length + 1) cp5) w7 := ⟨hs7, hx7, hb7, ho7, hpn, by rw [List.length_append, List.length_singleton]; omega⟩
          have HI := Lib.hid hinv; clear hinv hs7 hx7 hb7 ho7 hpn hm hf7 hf7' MO r0 r0'
          go_wp2_with fail
          go_roundg (s.size - (j + n + m))
          case measure => have := HG.out; omega
          case rel => exact ⟨j + n + m, ps ++ [p], hjs7, rfl, HI.out⟩
        · have hn := parse_none2 HP.out H1.out hlt hm
          have HN := Lib.hid hn; clear hn hm
          have HB7 := Lib.hid hb7; clear hb7 hx7 ho7 hf7 hf7' MO r0 r0'
          go_wp2_with fail
          go_ret2
          rw [HN.out]
          exact ⟨_, rfl, HB7.out, World.ownsRow_nil _ _ _ _⟩
    · have hn := parse_none1 HP.out h1
      have HN := Lib.hid hn; clear hn h1
      have HB3 := Lib.hid (hb3.alloc hb3.size (.cells #[.string P, .string V] 85)); clear hb3
      clear hf3 hx3 ho3
      go_wp2_with fail
      go_ret2
      rw [HN.out]
      exact ⟨_, rfl, HB3.out, World.ownsRow_nil _ _ _ _⟩

end Go.Proofs.Ythhpijmkhhdhhaa
