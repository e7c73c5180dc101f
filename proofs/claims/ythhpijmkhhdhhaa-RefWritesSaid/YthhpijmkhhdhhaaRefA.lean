/- A reference's eight cells; uriref.parts. -/
import Derived.Test.YthhpijmkhhdhhaaUri2
import Derived.Test.YthhpijmkhhdhhaaAppend
import Derived.Test.YthhpijmkhhdhhaaTool
import Derived.Deep.Cut
import Derived.Deep.CutRange
import Derived.Deep.DeepCutAuto
import Derived.StillTailTactics
namespace Go.Proofs.Ythhpijmkhhdhhaa
open Go.RowKit
set_option linter.unusedVariables false
set_option linter.unusedSimpArgs false

/-- A reference's parts, as texts. -/
structure RefB where
  S : ByteArray
  A : ByteArray
  Pa : ByteArray
  Q : ByteArray
  F : ByteArray
  ha : Bool
  hq : Bool
  hf : Bool
def RefB.cells (r : RefB) : Array Value := #[.string r.S, .string r.A, .string r.Pa, .string r.Q, .string r.F, .bool r.ha, .bool r.hq, .bool r.hf]
def RefB.val (r : RefB) : Value := .agg r.cells
def RefB.toV (r : RefB) : RefV := ⟨r.S.data.toList, r.A.data.toList, r.Pa.data.toList, r.Q.data.toList, r.F.data.toList, r.ha, r.hq, r.hf⟩
def RefB.zero : RefB := ⟨⟨#[]⟩, ⟨#[]⟩, ⟨#[]⟩, ⟨#[]⟩, ⟨#[]⟩, false, false, false⟩
def RefAt (w : World) (b : Nat) (r : RefB) : Prop := w.heap[b]? = some (.cells r.cells 95 (0, 0))

theorem refAt_below {B b : Nat} {w w1 : World} {r : RefB} (h : RefAt w b r) (hb : Below B w w1) (hlt : b < B) : RefAt w1 b r := (hb.block b hlt).trans h
theorem refAt_lt {b : Nat} {w : World} {r : RefB} (h : RefAt w b r) : b < w.heap.size := lt_of_block h
theorem refAt_drew {b : Nat} {w : World} {r : RefB} (h : RefAt w b r) : RefAt w.drew b r := h
theorem refAt_drewN {b : Nat} {w : World} {r : RefB} (h : RefAt w b r) (n : Nat) : RefAt (w.drewN n) b r := h
theorem refAt_other {b c i : Nat} {w : World} {r : RefB} (h : RefAt w b r) (hc : b ≠ c) (u : Value) : RefAt (w.setCell ⟨c, i, none⟩ u) b r := by
  unfold RefAt
  rw [Below.heap_setCell _ _ _ _ hc]
  exact h
theorem refAt_alloc {b : Nat} {w : World} {r : RefB} (h : RefAt w b r) (o : Obj) : RefAt (w.alloc o) b r := by
  unfold RefAt
  rw [Below.heap_alloc _ _ _ (lt_of_block h)]
  exact h
theorem refAt_new (w : World) (r : RefB) : RefAt (w.alloc (.cells r.cells 95)) w.heap.size r := heap_alloc_new w _
theorem ref_cells {b : Nat} {w : World} {r : RefB} (h : RefAt w b r) :
    w.cell? ⟨b, 0, none⟩ = some (.string r.S) ∧ w.cell? ⟨b, 1, none⟩ = some (.string r.A) ∧ w.cell? ⟨b, 2, none⟩ = some (.string r.Pa) ∧ w.cell? ⟨b, 3, none⟩ = some (.string r.Q) ∧ w.cell? ⟨b, 4, none⟩ = some (.string r.F) ∧ w.cell? ⟨b, 5, none⟩ = some (.bool r.ha) ∧ w.cell? ⟨b, 6, none⟩ = some (.bool r.hq) ∧ w.cell? ⟨b, 7, none⟩ = some (.bool r.hf) := by
  refine ⟨?_, ?_, ?_, ?_, ?_, ?_, ?_, ?_⟩
  all_goals (rw [cell_of_row w b _ _ _ _ h]; rfl)
theorem ref_frozen {b : Nat} {w : World} {r : RefB} (h : RefAt w b r) (i : Nat) : w.frozen? ⟨b, i, none⟩ = false := frozen_of_row w b i _ _ h
theorem ref_set0 {b : Nat} {w : World} {r : RefB} (h : RefAt w b r) (x : ByteArray) : RefAt (w.setCell ⟨b, 0, none⟩ (.string x)) b { r with S := x } := heap_setCell_at h 0 _
theorem ref_set1 {b : Nat} {w : World} {r : RefB} (h : RefAt w b r) (x : ByteArray) : RefAt (w.setCell ⟨b, 1, none⟩ (.string x)) b { r with A := x } := heap_setCell_at h 1 _
theorem ref_set2 {b : Nat} {w : World} {r : RefB} (h : RefAt w b r) (x : ByteArray) : RefAt (w.setCell ⟨b, 2, none⟩ (.string x)) b { r with Pa := x } := heap_setCell_at h 2 _
theorem ref_set3 {b : Nat} {w : World} {r : RefB} (h : RefAt w b r) (x : ByteArray) : RefAt (w.setCell ⟨b, 3, none⟩ (.string x)) b { r with Q := x } := heap_setCell_at h 3 _
theorem ref_set4 {b : Nat} {w : World} {r : RefB} (h : RefAt w b r) (x : ByteArray) : RefAt (w.setCell ⟨b, 4, none⟩ (.string x)) b { r with F := x } := heap_setCell_at h 4 _
theorem ref_set5 {b : Nat} {w : World} {r : RefB} (h : RefAt w b r) (x : Bool) : RefAt (w.setCell ⟨b, 5, none⟩ (.bool x)) b { r with ha := x } := heap_setCell_at h 5 _
theorem ref_set6 {b : Nat} {w : World} {r : RefB} (h : RefAt w b r) (x : Bool) : RefAt (w.setCell ⟨b, 6, none⟩ (.bool x)) b { r with hq := x } := heap_setCell_at h 6 _
theorem ref_set7 {b : Nat} {w : World} {r : RefB} (h : RefAt w b r) (x : Bool) : RefAt (w.setCell ⟨b, 7, none⟩ (.bool x)) b { r with hf := x } := heap_setCell_at h 7 _

def mkB (l : List UInt8) : ByteArray := ⟨l.toArray⟩
theorem mkB_data (l : List UInt8) : (mkB l).data.toList = l := by simp [mkB]
theorem mkB_size (l : List UInt8) : (mkB l).size = l.length := by rw [Lib.size_eq, mkB_data]
theorem mkB_of (s : ByteArray) : mkB s.data.toList = s := bytes_extX (mkB_data _)
theorem mkB_eq {s : ByteArray} {l : List UInt8} (h : s.data.toList = l) : s = mkB l := by rw [← h, mkB_of]
theorem extract_mkB (s : ByteArray) (k : Nat) : s.extract k s.size = mkB (s.data.toList.drop k) := mkB_eq (extract_tail s k)
theorem extract_mkB0 (s : ByteArray) (k : Nat) : s.extract 0 k = mkB (s.data.toList.take k) := mkB_eq (by rw [Lib.extract_data, List.drop_zero, Nat.sub_zero])
def RefV.toB (r : RefV) : RefB := ⟨mkB r.scheme, mkB r.auth, mkB r.path, mkB r.query, mkB r.frag, r.hasAuth, r.hasQuery, r.hasFrag⟩
theorem toB_toV (r : RefB) : r.toV.toB = r := by
  unfold RefB.toV RefV.toB
  simp only [mkB_of]
theorem toV_toB (r : RefV) : r.toB.toV = r := by
  unfold RefB.toV RefV.toB
  simp only [mkB_data]

theorem indexByte_markN (c : UInt8) : ∀ l : List UInt8, Lib.indexByte l c = if markN c l < l.length then (markN c l : Int) else -1
  | [] => rfl
  | x :: r => by
    rw [Lib.indexByte, indexByte_markN c r, markN_cons, List.length_cons]
    by_cases h : x = c
    · rw [if_pos (by simpa using h), if_pos h, if_pos (by omega)]; rfl
    · rw [if_neg (by simpa using h), if_neg h]
      by_cases h2 : markN c r < r.length
      · rw [if_pos h2, if_pos (show markN c r + 1 < r.length + 1 by omega), if_neg (by rw [beq_iff_eq]; omega)]
        omega
      · rw [if_neg h2, if_neg (show ¬ markN c r + 1 < r.length + 1 by omega), if_pos (by rfl)]

theorem upto_mk (s m : ByteArray) (w : World) (hs : s.size ≤ 1000000) (h1 : 1 ≤ m.size) (hcs : m.size ≤ 1000) (hascii : ∀ b ∈ m.data.toList, b.toNat < 128) :
    Calls Try.prog 139 #[.string s, .string m] w fun e w' => e = .returned (.tuple #[.string (mkB (uptoL m.data.toList s.data.toList).1), .string (mkB (uptoL m.data.toList s.data.toList).2)]) ∧ Below w.heap.size w w' := by
  refine (upto_any s m w hs h1 hcs hascii).mono ?_
  rintro e w' ⟨⟨a, b, rfl, h2, h3⟩, hb⟩
  rw [mkB_eq h2, mkB_eq h3]
  exact ⟨rfl, hb⟩

def partsQ (S l1 : List UInt8) : RefV :=
  let b := authP [47, 63, 35] l1
  let p := uptoL [63, 35] b.2.2
  let q := queryP p.2
  { scheme := S, auth := b.2.1, path := p.1, query := q.2.1, frag := q.2.2.drop 1, hasAuth := b.1, hasQuery := q.1, hasFrag := !q.2.2.isEmpty }

def partsQ2 (S A : List UInt8) (ha : Bool) (l2 : List UInt8) : RefV :=
  let p := uptoL [63, 35] l2
  let q := queryP p.2
  { scheme := S, auth := A, path := p.1, query := q.2.1, frag := q.2.2.drop 1, hasAuth := ha, hasQuery := q.1, hasFrag := !q.2.2.isEmpty }
def partsQ3 (S A : List UInt8) (ha : Bool) (Pa l3 : List UInt8) : RefV :=
  let q := queryP l3
  { scheme := S, auth := A, path := Pa, query := q.2.1, frag := q.2.2.drop 1, hasAuth := ha, hasQuery := q.1, hasFrag := !q.2.2.isEmpty }

theorem ref_result {fn : Func} {t : Tmp} (h : fn.results = #[.cell t 95]) {b : Nat} {w : World} {r : RefB} (hr : RefAt w b r) (tmps : Array Value) (ht : tmps.getD t undef = .pointer (some ⟨b, 0, none⟩)) :
    (results fn tmps).run Try.prog w = .ok r.val w := by
  obtain ⟨c0, c1, c2, c3, c4, c5, c6, c7⟩ := ref_cells hr
  have ht' : tmps[t]?.getD undef = .pointer (some ⟨b, 0, none⟩) := by simpa using ht
  simp [results, h, ht', go_sem, c0, c1, c2, c3, c4, c5, c6, c7]
  rfl
theorem ref_result2 {fn : Func} {t u : Tmp} (h : fn.results = #[.cell t 95, .tmp u]) {b : Nat} {w : World} {r : RefB} (hr : RefAt w b r) (tmps : Array Value) (ht : tmps.getD t undef = .pointer (some ⟨b, 0, none⟩)) :
    (results fn tmps).run Try.prog w = .ok (.tuple #[r.val, tmps.getD u undef]) w := by
  obtain ⟨c0, c1, c2, c3, c4, c5, c6, c7⟩ := ref_cells hr
  have ht' : tmps[t]?.getD undef = .pointer (some ⟨b, 0, none⟩) := by simpa using ht
  simp [results, h, ht', go_sem, c0, c1, c2, c3, c4, c5, c6, c7]
  rfl
theorem ref_all {w : World} {b : Nat} {q : RefB} (h : RefAt w b q) (r : RefB) :
    RefAt ((((((((w.setCell ⟨b, 0, none⟩ (.string r.S)).setCell ⟨b, 1, none⟩ (.string r.A)).setCell ⟨b, 2, none⟩ (.string r.Pa)).setCell ⟨b, 3, none⟩ (.string r.Q)).setCell ⟨b, 4, none⟩ (.string r.F)).setCell ⟨b, 5, none⟩ (.bool r.ha)).setCell ⟨b, 6, none⟩ (.bool r.hq)).setCell ⟨b, 7, none⟩ (.bool r.hf)) b r :=
  ref_set7 (ref_set6 (ref_set5 (ref_set4 (ref_set3 (ref_set2 (ref_set1 (ref_set0 h r.S) r.A) r.Pa) r.Q) r.F) r.ha) r.hq) r.hf

theorem hasPrefixW (s p : ByteArray) (w : World) : Calls Try.prog 116 #[.string s, .string p] w fun e w' => e = .returned (.bool (Lib.hasPrefix s.data.toList p.data.toList)) ∧ w = w' :=
  (Try.strings_HasPrefix s p w).mono fun _ _ ⟨h, g⟩ => ⟨h, g.symm⟩

set_option maxHeartbeats 4000000 in
set_option maxRecDepth 1000000 in
theorem parts_any (s : ByteArray) (w : World) (hs : s.size ≤ 100000) :
    Calls Try.prog 124 #[.string s] w fun e w' => e = .returned (partsP s.data.toList).toB.val ∧ Below w.heap.size w w' := by
  obtain ⟨i, hi⟩ : ∃ i, markN 58 s.data.toList = i := ⟨_, rfl⟩
  obtain ⟨x, hx⟩ : ∃ x, Lib.indexByte s.data.toList 58 = x := ⟨_, rfl⟩
  have hxi := indexByte_markN 58 s.data.toList
  rw [hx, hi, ← Lib.size_eq] at hxi
  have HXI := Lib.hid hxi; clear hxi
  obtain ⟨sc, hsc⟩ : ∃ sc, (decide (0 < i) && decide (i < s.size) && schemeL (s.data.toList.take i)) = sc := ⟨_, rfl⟩
  have IB := Lib.hid (fun w => stringsIndexByte_any s 58 w)
  rw [show ((58 : Int)).toNat.toUInt8 = 58 from rfl, hx] at IB
  have SC := Lib.hid (fun w => scheme_any (s.extract 0 i) w (by rw [extract_mkB0, mkB_size, List.length_take, ← Lib.size_eq]; omega))
  rw [extract_mkB0, mkB_data, ← extract_mkB0] at SC
  go_enter Try.func124, Try.ntmps124
  go_upto_region 3 with (go_at_call 122; refine (IB.out _).mono ?_; rintro e w2 ⟨rfl, hw2⟩; subst hw2)
  obtain ⟨W0, hW0⟩ : ∃ W0, ((w.alloc (.cells RefB.zero.cells 95)).alloc (.cells RefB.zero.cells 95)) = W0 := ⟨_, rfl⟩
  have r0 : RefAt W0 w.heap.size RefB.zero := by rw [← hW0]; exact refAt_alloc (refAt_new w _) _
  have r1 : RefAt W0 (w.heap.size + 1) RefB.zero := by
    rw [← hW0]
    have := refAt_new (w.alloc (.cells RefB.zero.cells 95)) RefB.zero
    rw [show (w.alloc (.cells RefB.zero.cells 95)).heap.size = w.heap.size + 1 by simp] at this
    exact this
  have hb0 : Below w.heap.size w W0 := by rw [← hW0]; exact ((Below.refl _ _).alloc (Nat.le_refl _) _).alloc (by simp) _
  have hs0 : W0.heap.size = w.heap.size + 2 := by rw [← hW0]; simp
  change Code.wp _ _ _ _ ((w.alloc (.cells RefB.zero.cells 95)).alloc (.cells RefB.zero.cells 95))
  rw [hW0]
  have HSC := Lib.hid hsc; clear hsc
  have HX := Lib.hid hx; clear hx
  have HI := Lib.hid hi; clear hi
  have R0 := Lib.hid r0; have R1 := Lib.hid r1; have HB0 := Lib.hid hb0; have HS0 := Lib.hid hs0
  clear r0 r1 hb0 hs0 hW0
  go_cut [14] (fun c wx => c = .bool sc ∧ Below W0.heap.size W0 wx)
  case first =>
    by_cases hp : 0 < i ∧ i < s.size
    · have hxv : x = (i : Int) := by rw [HXI.out, if_pos hp.2]
      subst hxv
      have g0 : 0 < i := hp.1
      have g1 : (0 : Int) < (i : Int) := by omega
      have g2 : i ≤ s.size := by omega
      have g3 : (i : Int) ≤ (s.size : Int) := by omega
      have HV : Hid (schemeL (s.data.toList.take i) = sc) := Lib.hid (by rw [← HSC.out, decide_eq_true hp.1, decide_eq_true hp.2]; rfl)
      rw [HV.out] at SC
      clear hp
      go_wp2_with (go_at_call 138; refine (SC.out _).mono ?_; rintro e w2 ⟨rfl, hw2⟩)
      go_meet
      exact ⟨rfl, hw2⟩
    · have g1 : decide ((0 : Int) < x) = false := decide_eq_false (by rw [HXI.out]; split <;> omega)
      have HV : Hid (sc = false) := Lib.hid (by
        rw [← HSC.out]
        rcases Nat.lt_or_ge 0 i with h | h
        · rw [decide_eq_false (show ¬ i < s.size by omega)]; simp
        · rw [decide_eq_false (show ¬ 0 < i by omega)]; rfl)
      clear hp
      go_wp2_with fail
      go_meet
      exact ⟨by rw [HV.out], Below.refl _ _⟩
  case rest =>
    obtain ⟨rfl, hbc⟩ := hcut
    have R0c := Lib.hid (refAt_below R0.out hbc (refAt_lt R0.out))
    have R1c := Lib.hid (refAt_below R1.out hbc (refAt_lt R1.out))
    have HBc := Lib.hid (bseq HB0.out hbc)
    clear hbc R0 R1 HB0 HS0
    go_upto_if 14 with fail
    go_cut [0] (fun s0 wx => s0 = .string (mkB (schP s.data.toList).2) ∧ Below w.heap.size w wx ∧ RefAt wx w.heap.size RefB.zero ∧ RefAt wx (w.heap.size + 1) ⟨mkB (schP s.data.toList).1, ⟨#[]⟩, ⟨#[]⟩, ⟨#[]⟩, ⟨#[]⟩, false, false, false⟩)
    case first =>
      have HSP1 : Hid (sc = true → schP s.data.toList = (s.data.toList.take i, s.data.toList.drop (i + 1))) := Lib.hid (by
        intro h
        unfold schP
        rw [HI.out, ← Lib.size_eq, HSC.out, if_pos h])
      have HSP0 : Hid (sc = false → schP s.data.toList = ([], s.data.toList)) := Lib.hid (by
        intro h
        unfold schP
        rw [HI.out, ← Lib.size_eq, HSC.out, if_neg (by rw [h]; simp)])
      cases sc with
      | true =>
        have hp : 0 < i ∧ i < s.size := by
          have := HSC.out
          simp only [Bool.and_eq_true, decide_eq_true_eq] at this
          exact this.1
        have hxv : x = (i : Int) := by rw [HXI.out, if_pos hp.2]
        subst hxv
        obtain ⟨j, hj⟩ : ∃ j : Nat, i + 1 = j := ⟨_, rfl⟩
        have g2 : i ≤ s.size := by omega
        have g3 : (i : Int) ≤ (s.size : Int) := by omega
        have g4 : IntKind.i64.wrap ((i : Int) + 1) = (j : Int) := by rw [wrap_small _ (by omega) (by omega)]; omega
        have g5 : j ≤ s.size := by omega
        have g6 : (j : Int) ≤ (s.size : Int) := by omega
        have HJ := Lib.hid hj; clear hj hp
        obtain ⟨c0, c1, c2, c3, c4, c5, c6, c7⟩ := ref_cells R1c.out
        have f0 := ref_frozen R1c.out 0
        clear c1 c2 c3 c4 c5 c6 c7
        go_wp2_with fail
        go_region
        all_goals go_wp2_with fail
        all_goals go_meet
        rw [HSP1.out (by first | rfl | trivial), extract_mkB, ← HJ.out, extract_mkB0]
        exact ⟨rfl, (HBc.out.setCell (by simp) _).drew, refAt_drew (refAt_other R0c.out (by simp) _), refAt_drew (ref_set0 R1c.out _)⟩
      | false =>
        go_wp2_with fail
        go_meet
        rw [HSP0.out (by first | rfl | trivial)]
        exact ⟨by rw [mkB_of], HBc.out, R0c.out, R1c.out⟩
    case rest =>
      obtain ⟨rfl, hbc, r0, r1⟩ := hcut
      have HP : Hid ((schP s.data.toList).2.length ≤ 100000) := Lib.hid (by
        have : (schP s.data.toList).2.length ≤ s.data.toList.length := by
          unfold schP
          split
          · rw [List.length_drop]; omega
          · exact Nat.le_refl _
        rw [← Lib.size_eq] at this
        omega)
      have HPT : Hid (partsP s.data.toList = partsQ (schP s.data.toList).1 (schP s.data.toList).2) := Lib.hid rfl
      obtain ⟨S, hS⟩ : ∃ S, (schP s.data.toList).1 = S := ⟨_, rfl⟩
      obtain ⟨l1, hl1⟩ : ∃ l1, (schP s.data.toList).2 = l1 := ⟨_, rfl⟩
      rw [hS] at HPT r1
      rw [hl1] at HPT HP ⊢
      clear hS hl1 HI HX HSC HXI SC IB R0c R1c HBc
      have HPX := Lib.hid (fun W => hasPrefixW (mkB l1) ⟨#[47, 47]⟩ W)
      rw [mkB_data, show (⟨#[47, 47]⟩ : ByteArray).data.toList = [47, 47] from rfl] at HPX
      obtain ⟨ha, hha⟩ : ∃ ha, Lib.hasPrefix l1 [47, 47] = ha := ⟨_, rfl⟩
      rw [hha] at HPX
      have HHA := Lib.hid hha; clear hha
      have RR0 := Lib.hid r0; have RR1 := Lib.hid r1; have HBB := Lib.hid hbc; clear r0 r1 hbc
      go_upto_if 24 with (go_at_call 116; refine (HPX.out _).mono ?_; rintro e w2 ⟨rfl, hw2⟩; subst hw2)
      go_cut [0] (fun s0 wx => s0 = .string (mkB (authP [47, 63, 35] l1).2.2) ∧ Below w.heap.size w wx ∧ RefAt wx w.heap.size RefB.zero ∧ RefAt wx (w.heap.size + 1) ⟨mkB S, mkB (authP [47, 63, 35] l1).2.1, ⟨#[]⟩, ⟨#[]⟩, ⟨#[]⟩, (authP [47, 63, 35] l1).1, false, false⟩)
      case first =>
        cases ha with
        | true =>
          have hap : authP [47, 63, 35] l1 = (true, (l1.drop 2).take (firstN [47, 63, 35] (l1.drop 2)), (l1.drop 2).drop (firstN [47, 63, 35] (l1.drop 2))) := by unfold authP; rw [if_pos HHA.out]
          have hl : 2 ≤ l1.length := by obtain ⟨r, hr⟩ := hasPrefix_two HHA.out; rw [hr]; simp
          have UP := Lib.hid (fun W => upto_mk ((mkB l1).extract 2 (mkB l1).size) ⟨#[47, 63, 35]⟩ W (by rw [extract_mkB, mkB_size, mkB_data, List.length_drop]; have := HP.out; omega) (by decide) (by decide) (by decide))
          rw [show (uptoL (⟨#[47, 63, 35]⟩ : ByteArray).data.toList ((mkB l1).extract 2 (mkB l1).size).data.toList) = (uptoL [47, 63, 35] (l1.drop 2)) by rw [extract_mkB, mkB_data, mkB_data]] at UP
          have hsz := mkB_size l1
          have HAP := Lib.hid hap; clear hap
          obtain ⟨L1, hL1⟩ : ∃ L1, mkB l1 = L1 := ⟨_, rfl⟩
          rw [hL1] at UP hsz
          have g1 : 2 ≤ L1.size := by omega
          have g2 : (2 : Int) ≤ (L1.size : Int) := by omega
          have HL1 := Lib.hid hL1; clear hsz hl hL1
          obtain ⟨c0, c1, c2, c3, c4, c5, c6, c7⟩ := ref_cells RR1.out
          have f1 := ref_frozen RR1.out 1
          have f5 := ref_frozen RR1.out 5
          clear c0 c2 c3 c4 c6 c7
          rw [HL1.out]
          go_wp2_with fail
          refine (UP.out _).mono ?_
          rintro e w2 ⟨rfl, hw2⟩
          have r5 := ref_set5 RR1.out true
          have z2 := Lib.hid (refAt_below (refAt_other (c := w.heap.size + 1) (i := 5) RR0.out (by omega) (.bool true)) hw2 (refAt_lt (refAt_other RR0.out (by omega) _)))
          have r2 := Lib.hid (refAt_below r5 hw2 (refAt_lt r5))
          have hb2 := Lib.hid (bseq (HBB.out.setCell (p := ⟨w.heap.size + 1, 5, none⟩) (by simp) _) hw2)
          clear r5 hw2 c1 c5 f1 f5
          obtain ⟨c0, c1, c2, c3, c4, c5, c6, c7⟩ := ref_cells r2.out
          have f1 := ref_frozen r2.out 1
          clear c0 c2 c3 c4 c5 c6 c7
          go_wp2_with fail
          go_meet
          rw [HAP.out]
          exact ⟨rfl, hb2.out.setCell (by simp) _, refAt_other z2.out (by omega) _, ref_set1 r2.out _⟩
        | false =>
          have hap : authP [47, 63, 35] l1 = (false, [], l1) := by unfold authP; rw [if_neg (by rw [HHA.out]; simp)]
          have HAP := Lib.hid hap; clear hap
          go_wp2_with fail
          go_meet
          rw [HAP.out]
          exact ⟨rfl, HBB.out, RR0.out, RR1.out⟩
      case rest =>
        obtain ⟨rfl, hbc, r0, r1⟩ := hcut
        obtain ⟨A, hA⟩ : ∃ A, (authP [47, 63, 35] l1).2.1 = A := ⟨_, rfl⟩
        obtain ⟨l2, hl2⟩ : ∃ l2, (authP [47, 63, 35] l1).2.2 = l2 := ⟨_, rfl⟩
        obtain ⟨aa, haa⟩ : ∃ aa, (authP [47, 63, 35] l1).1 = aa := ⟨_, rfl⟩
        have HP2 : Hid (l2.length ≤ 100000) := Lib.hid (by
          have h1 := HP.out
          rw [← hl2]
          unfold authP
          split
          · rw [List.length_drop, List.length_drop]; omega
          · exact h1)
        have HPT2 : Hid (partsP s.data.toList = partsQ2 S A aa l2) := Lib.hid (by rw [HPT.out, ← hA, ← hl2, ← haa]; rfl)
        rw [hA, haa] at r1
        rw [hl2]
        have UP := Lib.hid (fun W => upto_mk (mkB l2) ⟨#[63, 35]⟩ W (by rw [mkB_size]; have := HP2.out; omega) (by decide) (by decide) (by decide))
        rw [mkB_data, show (⟨#[63, 35]⟩ : ByteArray).data.toList = [63, 35] from rfl] at UP
        have z1 := Lib.hid r0; have r1 := Lib.hid r1; have hbb := Lib.hid hbc
        clear hA hl2 haa hbc r0 HP HPT RR0 RR1 HBB HPX HHA
        go_wp2_with fail
        refine (UP.out _).mono ?_
        rintro e w2 ⟨rfl, hw2⟩
        have z2 := Lib.hid (refAt_below z1.out hw2 (refAt_lt z1.out))
        have r2 := Lib.hid (refAt_below r1.out hw2 (refAt_lt r1.out))
        have hb2 := Lib.hid (bseq hbb.out hw2)
        clear hw2 z1 r1 hbb
        obtain ⟨c0, c1, c2, c3, c4, c5, c6, c7⟩ := ref_cells r2.out
        have f2 := ref_frozen r2.out 2
        clear c0 c1 c3 c4 c5 c6 c7
        obtain ⟨Pa, hPa⟩ : ∃ Pa, (uptoL [63, 35] l2).1 = Pa := ⟨_, rfl⟩
        obtain ⟨l3, hl3⟩ : ∃ l3, (uptoL [63, 35] l2).2 = l3 := ⟨_, rfl⟩
        have HP3 : Hid (l3.length ≤ 100000) := Lib.hid (by
          have h1 := HP2.out
          rw [← hl3]
          unfold uptoL
          rw [List.length_drop]; omega)
        have HPT3 : Hid (partsP s.data.toList = partsQ3 S A aa Pa l3) := Lib.hid (by rw [HPT2.out, ← hPa, ← hl3]; rfl)
        rw [hPa, hl3]
        clear hPa hl3 HP2 HPT2 UP
        have HPX := Lib.hid (fun W => hasPrefixW (mkB l3) ⟨#[63]⟩ W)
        rw [mkB_data, show (⟨#[63]⟩ : ByteArray).data.toList = [63] from rfl] at HPX
        obtain ⟨hq, hhq⟩ : ∃ hq, Lib.hasPrefix l3 [63] = hq := ⟨_, rfl⟩
        rw [hhq] at HPX
        have HHQ := Lib.hid hhq; clear hhq
        go_upto_if 40 with (go_at_call 116; refine (HPX.out _).mono ?_; rintro e w2 ⟨rfl, hw2⟩; subst hw2)
        have z3 : RefAt (w2.setCell ⟨w.heap.size + 1, 2, none⟩ (.string (mkB Pa))) w.heap.size RefB.zero := refAt_other z2.out (by omega) _
        have r3 := ref_set2 r2.out (mkB Pa)
        have hb3 : Below w.heap.size w (w2.setCell ⟨w.heap.size + 1, 2, none⟩ (.string (mkB Pa))) := hb2.out.setCell (by simp) _
        obtain ⟨w3, hw3⟩ : ∃ w3, w2.setCell ⟨w.heap.size + 1, 2, none⟩ (.string (mkB Pa)) = w3 := ⟨_, rfl⟩
        rw [hw3] at z3 r3 hb3 ⊢
        clear hw3 z2 r2 hb2 c2 f2
        have Z3 := Lib.hid z3; have R3 := Lib.hid r3; have B3 := Lib.hid hb3; clear z3 r3 hb3
        go_cut [0] (fun s0 wx => s0 = .string (mkB (queryP l3).2.2) ∧ Below w.heap.size w wx ∧ RefAt wx w.heap.size RefB.zero ∧ RefAt wx (w.heap.size + 1) ⟨mkB S, mkB A, mkB Pa, mkB (queryP l3).2.1, ⟨#[]⟩, aa, (queryP l3).1, false⟩)
        case first =>
          cases hq with
          | true =>
            have hap : queryP l3 = (true, (l3.drop 1).take (firstN [35] (l3.drop 1)), (l3.drop 1).drop (firstN [35] (l3.drop 1))) := by unfold queryP; rw [if_pos HHQ.out]
            have hl : 1 ≤ l3.length := by
              have h := HHQ.out
              cases l3 with
              | nil => simp [Lib.hasPrefix] at h
              | cons c r => simp
            have UP := Lib.hid (fun W => upto_mk ((mkB l3).extract 1 (mkB l3).size) ⟨#[35]⟩ W (by rw [extract_mkB, mkB_size, mkB_data, List.length_drop]; have := HP3.out; omega) (by decide) (by decide) (by decide))
            rw [show (uptoL (⟨#[35]⟩ : ByteArray).data.toList ((mkB l3).extract 1 (mkB l3).size).data.toList) = (uptoL [35] (l3.drop 1)) by rw [extract_mkB, mkB_data, mkB_data]] at UP
            have hsz := mkB_size l3
            obtain ⟨d3, hd3⟩ : ∃ d3, l3.drop 1 = d3 := ⟨_, rfl⟩
            rw [hd3] at hap UP
            clear hd3
            have HAP := Lib.hid hap; clear hap
            obtain ⟨L1, hL1⟩ : ∃ L1, mkB l3 = L1 := ⟨_, rfl⟩
            rw [hL1] at UP hsz
            have g1 : 1 ≤ L1.size := by omega
            have g2 : (1 : Int) ≤ (L1.size : Int) := by omega
            have HL1 := Lib.hid hL1; clear hsz hl hL1
            obtain ⟨c0, c1, c2, c3, c4, c5, c6, c7⟩ := ref_cells R3.out
            have f3 := ref_frozen R3.out 3
            have f6 := ref_frozen R3.out 6
            clear c0 c1 c2 c4 c5 c7
            rw [HL1.out]
            go_wp2_with fail
            refine (UP.out _).mono ?_
            rintro e w2 ⟨rfl, hw2⟩
            have r5 := ref_set6 R3.out true
            have z2 := Lib.hid (refAt_below (refAt_other (c := w.heap.size + 1) (i := 6) Z3.out (by omega) (.bool true)) hw2 (refAt_lt (refAt_other Z3.out (by omega) _)))
            have r2 := Lib.hid (refAt_below r5 hw2 (refAt_lt r5))
            have hb2 := Lib.hid (bseq (B3.out.setCell (p := ⟨w.heap.size + 1, 6, none⟩) (by simp) _) hw2)
            clear r5 hw2 c3 c6 f3 f6
            obtain ⟨c0, c1, c2, c3, c4, c5, c6, c7⟩ := ref_cells r2.out
            have f3 := ref_frozen r2.out 3
            clear c0 c1 c2 c4 c5 c6 c7
            go_wp2_with fail
            go_meet
            rw [HAP.out]
            exact ⟨rfl, hb2.out.setCell (by simp) _, refAt_other z2.out (by omega) _, ref_set3 r2.out _⟩
          | false =>
            have hap : queryP l3 = (false, [], l3) := by unfold queryP; rw [if_neg (by rw [HHQ.out]; simp)]
            have HAP := Lib.hid hap; clear hap
            go_wp2_with fail
            go_meet
            rw [HAP.out]
            exact ⟨rfl, B3.out, Z3.out, R3.out⟩
        case rest =>
          obtain ⟨rfl, hbc, r0, r1⟩ := hcut
          obtain ⟨Q, hQ⟩ : ∃ Q, (queryP l3).2.1 = Q := ⟨_, rfl⟩
          obtain ⟨l4, hl4⟩ : ∃ l4, (queryP l3).2.2 = l4 := ⟨_, rfl⟩
          obtain ⟨qq, hqq⟩ : ∃ qq, (queryP l3).1 = qq := ⟨_, rfl⟩
          have HPT4 : Hid (partsP s.data.toList = ⟨S, A, Pa, Q, l4.drop 1, aa, qq, !l4.isEmpty⟩) := Lib.hid (by rw [HPT3.out, ← hQ, ← hl4, ← hqq]; rfl)
          rw [hQ, hqq] at r1
          rw [hl4]
          have Z4 := Lib.hid r0; have R4 := Lib.hid r1; have B4 := Lib.hid hbc
          clear hQ hl4 hqq hbc r0 r1 HPT3 HHQ HPX Z3 R3 B3 HP3
          cases l4 with
          | nil =>
            have he : (mkB []).toList.isEmpty = true := by rw [Lib.toList_data, mkB_data]; rfl
            obtain ⟨z0, z1, z2, z3, z4, z5, z6, z7⟩ := ref_cells Z4.out
            obtain ⟨c0, c1, c2, c3, c4, c5, c6, c7⟩ := ref_cells R4.out
            have f0 := ref_frozen Z4.out 0
            have f1 := ref_frozen Z4.out 1
            have f2 := ref_frozen Z4.out 2
            have f3 := ref_frozen Z4.out 3
            have f4 := ref_frozen Z4.out 4
            have f5 := ref_frozen Z4.out 5
            have f6 := ref_frozen Z4.out 6
            have f7 := ref_frozen Z4.out 7
            go_wp2_with fail
            refine bodyPost_ret (ref_result rfl (ref_all Z4.out ⟨mkB S, mkB A, mkB Pa, mkB Q, ⟨#[]⟩, aa, qq, false⟩) _ rfl) rfl ?_
            refine ⟨?_, ?_⟩
            · rw [HPT4.out]; rfl
            · exact (((((((B4.out.setCell (Nat.le_refl _) _).setCell (Nat.le_refl _) _).setCell (Nat.le_refl _) _).setCell (Nat.le_refl _) _).setCell (Nat.le_refl _) _).setCell (Nat.le_refl _) _).setCell (Nat.le_refl _) _).setCell (Nat.le_refl _) _
          | cons x r =>
            have he : (mkB (x :: r)).toList.isEmpty = false := by rw [Lib.toList_data, mkB_data]; rfl
            have hsz : 1 ≤ (mkB (x :: r)).size := by rw [mkB_size]; simp
            have hex : (mkB (x :: r)).extract 1 (mkB (x :: r)).size = mkB r := by rw [extract_mkB, mkB_data]; rfl
            obtain ⟨L1, hL1⟩ : ∃ L1, mkB (x :: r) = L1 := ⟨_, rfl⟩
            rw [hL1] at he hsz hex ⊢
            have g2 : (1 : Int) ≤ (L1.size : Int) := by omega
            clear hL1
            have HEX := Lib.hid hex; clear hex
            obtain ⟨c0, c1, c2, c3, c4, c5, c6, c7⟩ := ref_cells R4.out
            have f4 := ref_frozen R4.out 4
            have f7 := ref_frozen R4.out 7
            go_wp2_with fail
            go_region
            have r5 := refAt_drew (ref_set4 (ref_set7 R4.out true) (L1.extract 1 L1.size))
            have z5 : RefAt ((wc.setCell ⟨w.heap.size + 1, 7, none⟩ (.bool true)).setCell ⟨w.heap.size + 1, 4, none⟩ (.string (L1.extract 1 L1.size))).drew w.heap.size RefB.zero := refAt_drew (refAt_other (refAt_other Z4.out (by omega) _) (by omega) _)
            have b5 : Below w.heap.size w ((wc.setCell ⟨w.heap.size + 1, 7, none⟩ (.bool true)).setCell ⟨w.heap.size + 1, 4, none⟩ (.string (L1.extract 1 L1.size))).drew := ((B4.out.setCell (by simp) _).setCell (by simp) _).drew
            obtain ⟨w5, hw5⟩ : ∃ w5, ((wc.setCell ⟨w.heap.size + 1, 7, none⟩ (.bool true)).setCell ⟨w.heap.size + 1, 4, none⟩ (.string (L1.extract 1 L1.size))).drew = w5 := ⟨_, rfl⟩
            rw [hw5] at r5 z5 b5 ⊢
            have R5 := Lib.hid r5; have Z5 := Lib.hid z5; have B5 := Lib.hid b5
            clear hw5 r5 z5 b5 c0 c1 c2 c3 c4 c5 c6 c7 f4 f7 R4 Z4 B4 g2 hsz
            obtain ⟨z0, z1, z2, z3, z4, z5, z6, z7⟩ := ref_cells Z5.out
            obtain ⟨c0, c1, c2, c3, c4, c5, c6, c7⟩ := ref_cells R5.out
            have f0 := ref_frozen Z5.out 0
            have f1 := ref_frozen Z5.out 1
            have f2 := ref_frozen Z5.out 2
            have f3 := ref_frozen Z5.out 3
            have f4 := ref_frozen Z5.out 4
            have f5 := ref_frozen Z5.out 5
            have f6 := ref_frozen Z5.out 6
            have f7 := ref_frozen Z5.out 7
            go_wp2_with fail
            refine bodyPost_ret (ref_result rfl (ref_all Z5.out ⟨mkB S, mkB A, mkB Pa, mkB Q, L1.extract 1 L1.size, aa, qq, true⟩) _ rfl) rfl ?_
            refine ⟨?_, ?_⟩
            · rw [HPT4.out, HEX.out]; rfl
            · exact (((((((B5.out.setCell (Nat.le_refl _) _).setCell (Nat.le_refl _) _).setCell (Nat.le_refl _) _).setCell (Nat.le_refl _) _).setCell (Nat.le_refl _) _).setCell (Nat.le_refl _) _).setCell (Nat.le_refl _) _).setCell (Nat.le_refl _) _

end Go.Proofs.Ythhpijmkhhdhhaa
