/- A host's three cells; hostport.of, the reference's of. -/
import Derived.Test.YthhpijmkhhdhhaaDoorHSixR
import Derived.Test.YthhpijmkhhdhhaaDoorHName2
import Derived.Deep.Cut
import Derived.Deep.CutRange
import Derived.Deep.DeepCutAuto
import Derived.StillTailTactics
namespace Go.Proofs.YthhpijmkhhdhhaaDoor
open Go.RowKit
set_option linter.unusedVariables false
set_option linter.unusedSimpArgs false

structure HostB where
  K : Int
  Nm : ByteArray
  Po : Int
def HostB.cells (h : HostB) : Array Value := #[.int .i64 h.K, .string h.Nm, .int .i64 h.Po]
def HostB.val (h : HostB) : Value := .agg h.cells
def HostB.zero : HostB := ⟨0, ⟨#[]⟩, 0⟩
def HostAt (w : World) (b : Nat) (h : HostB) : Prop := w.heap[b]? = some (.cells h.cells 69 (0, 0))
theorem hostAt_lt {b : Nat} {w : World} {h : HostB} (k : HostAt w b h) : b < w.heap.size := lt_of_block k
theorem hostAt_below {B b : Nat} {w w1 : World} {h : HostB} (k : HostAt w b h) (hb : Below B w w1) (hlt : b < B) : HostAt w1 b h := (hb.block b hlt).trans k
theorem hostAt_call {b : Nat} {w w1 : World} {h : HostB} (k : HostAt w b h) (hb : Below w.heap.size w w1) : HostAt w1 b h := hostAt_below k hb (hostAt_lt k)
theorem hostAt_drew {b : Nat} {w : World} {h : HostB} (k : HostAt w b h) : HostAt w.drew b h := k
theorem hostAt_other {b c i : Nat} {w : World} {h : HostB} (k : HostAt w b h) (hc : b ≠ c) (u : Value) : HostAt (w.setCell ⟨c, i, none⟩ u) b h := by
  unfold HostAt
  rw [Below.heap_setCell _ _ _ _ hc]
  exact k
theorem hostAt_alloc {b : Nat} {w : World} {h : HostB} (k : HostAt w b h) (o : Obj) : HostAt (w.alloc o) b h := by
  unfold HostAt
  rw [Below.heap_alloc _ _ _ (lt_of_block k)]
  exact k
theorem hostAt_new (w : World) (h : HostB) : HostAt (w.alloc (.cells h.cells 69)) w.heap.size h := heap_alloc_new w _
theorem host_cells {b : Nat} {w : World} {h : HostB} (k : HostAt w b h) :
    w.cell? ⟨b, 0, none⟩ = some (.int .i64 h.K) ∧ w.cell? ⟨b, 1, none⟩ = some (.string h.Nm) ∧ w.cell? ⟨b, 2, none⟩ = some (.int .i64 h.Po) := by
  refine ⟨?_, ?_, ?_⟩
  all_goals (rw [cell_of_row w b _ _ _ _ k]; rfl)
theorem host_frozen {b : Nat} {w : World} {h : HostB} (k : HostAt w b h) (i : Nat) : w.frozen? ⟨b, i, none⟩ = false := frozen_of_row w b i _ _ k
theorem host_set0 {b : Nat} {w : World} {h : HostB} (k : HostAt w b h) (x : Int) : HostAt (w.setCell ⟨b, 0, none⟩ (.int .i64 x)) b { h with K := x } := heap_setCell_at k 0 _
theorem host_set1 {b : Nat} {w : World} {h : HostB} (k : HostAt w b h) (x : ByteArray) : HostAt (w.setCell ⟨b, 1, none⟩ (.string x)) b { h with Nm := x } := heap_setCell_at k 1 _
theorem host_set2 {b : Nat} {w : World} {h : HostB} (k : HostAt w b h) (x : Int) : HostAt (w.setCell ⟨b, 2, none⟩ (.int .i64 x)) b { h with Po := x } := heap_setCell_at k 2 _
theorem host_all {w : World} {b : Nat} {q : HostB} (k : HostAt w b q) (h : HostB) : HostAt (((w.setCell ⟨b, 0, none⟩ (.int .i64 h.K)).setCell ⟨b, 1, none⟩ (.string h.Nm)).setCell ⟨b, 2, none⟩ (.int .i64 h.Po)) b h :=
  host_set2 (host_set1 (host_set0 k h.K) h.Nm) h.Po
theorem host_result {fn : Func} {t : Tmp} (h : fn.results = #[.cell t 69]) {b : Nat} {w : World} {r : HostB} (hr : HostAt w b r) (tmps : Array Value) (ht : tmps.getD t undef = .pointer (some ⟨b, 0, none⟩)) :
    (results fn tmps).run Tryd.prog w = .ok r.val w := by
  obtain ⟨c0, c1, c2⟩ := host_cells hr
  have ht' : tmps[t]?.getD undef = .pointer (some ⟨b, 0, none⟩) := by simpa using ht
  simp [results, h, ht', go_sem, c0, c1, c2]
  rfl
theorem host_result2 {fn : Func} {t u : Tmp} (h : fn.results = #[.cell t 69, .tmp u]) {b : Nat} {w : World} {r : HostB} (hr : HostAt w b r) (tmps : Array Value) (ht : tmps.getD t undef = .pointer (some ⟨b, 0, none⟩)) :
    (results fn tmps).run Tryd.prog w = .ok (.tuple #[r.val, tmps.getD u undef]) w := by
  obtain ⟨c0, c1, c2⟩ := host_cells hr
  have ht' : tmps[t]?.getD undef = .pointer (some ⟨b, 0, none⟩) := by simpa using ht
  simp [results, h, ht', go_sem, c0, c1, c2]
  rfl

/-- A text between brackets that is an address of six. -/
def inB (s : ByteArray) : ByteArray := s.extract 1 (s.size - 1)
def brkB (s : ByteArray) : Bool := decide (2 < s.size) && (s.data.toList.head? == some 91) && (s.data.toList[s.size - 1]? == some 93) && sixL (inB s).data.toList
def ofB (s : ByteArray) : HostB := if brkB s then ⟨3, inB s, -1⟩ else if fourL s.data.toList then ⟨2, s, -1⟩ else if nameL s.data.toList then ⟨1, s, -1⟩ else HostB.zero
def ofP (s : ByteArray) : HostB := if brkB s then ⟨3, inB s, -1⟩ else if fourL s.data.toList then ⟨2, s, -1⟩ else if nameL s.data.toList then ⟨1, s, -1⟩ else ⟨0, s, -1⟩
def ofOk (s : ByteArray) : Bool := brkB s || fourL s.data.toList || nameL s.data.toList

theorem byteAt_eq (c : UInt8) (n : UInt8) : ((c.toNat : Int) == (n.toNat : Int)) = (c == n) := by
  rw [Bool.eq_iff_iff]
  simp only [beq_iff_eq]
  constructor
  · intro h; exact UInt8.toNat_inj.1 (by omega)
  · intro h; rw [h]
theorem brk_long (s : ByteArray) (h : 2 < s.size) : brkB s = (((s[0].toNat : Int) == 91) && ((s[s.size - 1].toNat : Int) == 93) && sixL (inB s).data.toList) := by
  unfold brkB
  have h0 : s.data.toList.head? = some s[0] := by
    have := drop_cons s 0 (by omega)
    rw [List.drop_zero] at this
    rw [this]; rfl
  have h1 : s.data.toList[s.size - 1]? = some s[s.size - 1] := by
    rw [Lib.data_getElem? s (s.size - 1) (by omega)]
  rw [decide_eq_true h, h0, h1, Bool.true_and]
  have e0 := byteAt_eq s[0] 91
  have e1 := byteAt_eq s[s.size - 1] 93
  rw [show ((91 : UInt8).toNat : Int) = 91 from rfl] at e0
  rw [show ((93 : UInt8).toNat : Int) = 93 from rfl] at e1
  rw [e0, e1]
  rfl
theorem brk_short (s : ByteArray) (h : ¬ 2 < s.size) : brkB s = false := by unfold brkB; rw [decide_eq_false h]; rfl

set_option maxRecDepth 100000 in
set_option maxHeartbeats 2000000 in
theorem pOfH_any (s : ByteArray) (w : World) (hs : s.size ≤ 10000) (hM : MaxAt w) (hP : PowAt w) :
    Calls Tryd.prog 87 #[.string s] w fun e w' => e = .returned (.tuple #[(ofP s).val, .bool (ofOk s)]) ∧ Below w.heap.size w w' := by
  have HM := Lib.hid hM; have HP := Lib.hid hP; clear hM hP
  have his : (inB s).size ≤ 10000 := by unfold inB; rw [Lib.size_eq, Lib.extract_data, List.length_take, List.length_drop, ← Lib.size_eq]; omega
  have SX := Lib.hid (fun W h1 h2 => pSix_any (inB s) W (by omega) h1 h2)
  have FO := Lib.hid (fun W h => four_any s W (by omega) h)
  have NA := Lib.hid (fun W => pName_any s W (by omega))
  go_enter Tryd.func87, Tryd.ntmps87
  go_upto_region 2 with fail
  have hz1 : (w.alloc (.cells HostB.zero.cells 69)).heap.size = w.heap.size + 1 := by simp
  have n1 := hostAt_new (w.alloc (.cells HostB.zero.cells 69)) ⟨0, s, -1⟩
  rw [hz1] at n1
  have n0 := hostAt_alloc (hostAt_new w HostB.zero) (.cells (⟨0, s, -1⟩ : HostB).cells 69)
  have hb0 : Below w.heap.size w ((w.alloc (.cells HostB.zero.cells 69)).alloc (.cells (⟨0, s, -1⟩ : HostB).cells 69)) := ((Below.refl _ _).alloc (Nat.le_refl _) _).alloc (by simp) _
  obtain ⟨W0, hW0⟩ : ∃ W0, (w.alloc (.cells HostB.zero.cells 69)).alloc (.cells (⟨0, s, -1⟩ : HostB).cells 69) = W0 := ⟨_, rfl⟩
  rw [hW0] at n0 n1 hb0
  change Code.wp _ _ _ _ ((w.alloc (.cells HostB.zero.cells 69)).alloc (.cells (⟨0, s, -1⟩ : HostB).cells 69))
  rw [hW0]
  have N0 := Lib.hid n0; have N1 := Lib.hid n1; have HB0 := Lib.hid hb0
  clear hW0 hz1 n0 n1 hb0
  obtain ⟨j, hj⟩ : ∃ j, s.size - 1 = j := ⟨_, rfl⟩
  have hin : s.extract 1 j = inB s := by rw [← hj]; rfl
  obtain ⟨I, hI⟩ : ∃ I, inB s = I := ⟨_, rfl⟩
  obtain ⟨bk, hbk⟩ : ∃ bk, brkB s = bk := ⟨_, rfl⟩
  have hop : ofP s = if bk then ⟨3, I, -1⟩ else if fourL s.data.toList then ⟨2, s, -1⟩ else if nameL s.data.toList then ⟨1, s, -1⟩ else ⟨0, s, -1⟩ := by unfold ofP; rw [hbk, hI]
  have hok : ofOk s = (bk || fourL s.data.toList || nameL s.data.toList) := by unfold ofOk; rw [hbk]
  obtain ⟨f, hf⟩ : ∃ f, fourL s.data.toList = f := ⟨_, rfl⟩
  obtain ⟨nm, hnm⟩ : ∃ nm, nameL s.data.toList = nm := ⟨_, rfl⟩
  rw [hf, hnm] at hop hok
  rw [hf] at FO
  rw [hnm] at NA
  rw [hI] at SX hin his
  have HOP := Lib.hid hop; have HOK := Lib.hid hok; have HBK := Lib.hid hbk; have HJ := Lib.hid hj
  have HII := Lib.hid hI
  clear hop hok hbk hf hnm hj hI
  go_cut [7] (fun t wx => t = .bool bk ∧ Below w.heap.size w wx ∧ HostAt wx w.heap.size HostB.zero ∧ HostAt wx (w.heap.size + 1) ⟨0, s, -1⟩)
  case first =>
    by_cases h2 : 2 < s.size
    · have g1 : (2 : Int) < (s.size : Int) := by omega
      have hjl : j < s.size := by have := HJ.out; omega
      have hj0 : j = s.size - 1 := HJ.out.symm
      have g2 : IntKind.i64.wrap ((s.size : Int) - 1) = (j : Int) := by rw [IntWalk.i64_in _ (by omega)]; omega
      have g3 : (j : Int) < (s.size : Int) := by omega
      have g4 : (1 : Int) ≤ (j : Int) := by omega
      have g5 : 1 ≤ j := by omega
      have g6 : (j : Int) ≤ (s.size : Int) := by omega
      have g7 : 0 < s.size := by omega
      have g8 : (0 : Int) < (s.size : Int) := by omega
      have g9 : j ≤ s.size := by omega
      have hl := brk_long s h2
      have hsj : s[s.size - 1] = s[j] := by congr 1
      rw [HBK.out, hsj, HII.out] at hl
      obtain ⟨p, hp⟩ : ∃ p, ((s[0].toNat : Int) == 91) = p := ⟨_, rfl⟩
      obtain ⟨q, hq⟩ : ∃ q, ((s[j].toNat : Int) == 93) = q := ⟨_, rfl⟩
      obtain ⟨x, hx⟩ : ∃ x, sixL I.data.toList = x := ⟨_, rfl⟩
      rw [hp, hq, hx] at hl
      rw [hx] at SX
      have HL := Lib.hid hl
      clear hl hj0 hx hsj h2
      cases p with
      | false =>
        have HV : Hid (bk = false) := Lib.hid (by rw [HL.out]; rfl)
        go_wp2_with fail
        go_meet
        exact ⟨by rw [HV.out], HB0.out, N0.out, N1.out⟩
      | true =>
        cases q with
        | false =>
          have HV : Hid (bk = false) := Lib.hid (by rw [HL.out]; rfl)
          go_wp2_with fail
          go_meet
          exact ⟨by rw [HV.out], HB0.out, N0.out, N1.out⟩
        | true =>
          have HV : Hid (bk = x) := Lib.hid (by rw [HL.out]; rfl)
          go_wp2_with fail
          refine (SX.out _ (maxAt_below HM.out HB0.out) (powAt_below HP.out HB0.out)).mono ?_
          rintro e w2 ⟨rfl, hw2⟩
          have HB2 := Lib.hid (bseq HB0.out hw2)
          have M0 := Lib.hid (hostAt_call N0.out hw2); have M1 := Lib.hid (hostAt_call N1.out hw2)
          clear hw2
          go_wp2_with fail
          go_meet
          exact ⟨by rw [HV.out], HB2.out, M0.out, M1.out⟩
    · have g1 : decide ((2 : Int) < (s.size : Int)) = false := decide_eq_false (by omega)
      have HV : Hid (bk = false) := Lib.hid (by rw [← HBK.out]; exact brk_short s h2)
      go_wp2_with fail
      go_meet
      exact ⟨by rw [HV.out], HB0.out, N0.out, N1.out⟩
  case rest =>
    obtain ⟨rfl, hbc, m0, m1⟩ := hcut
    clear N0 N1 HB0 SX
    have M0 := Lib.hid m0; have M1 := Lib.hid m1; have HB1 := Lib.hid hbc; clear m0 m1 hbc
    obtain ⟨d0, d1, d2⟩ := host_cells M0.out
    have e0 := host_frozen M0.out 0
    have e1 := host_frozen M0.out 1
    have e2 := host_frozen M0.out 2
    obtain ⟨c0, c1, c2⟩ := host_cells M1.out
    have f0 := host_frozen M1.out 0
    have f1 := host_frozen M1.out 1
    cases bk with
    | true =>
      have h2 : 2 < s.size := by
        rcases Nat.lt_or_ge 2 s.size with h | h
        · exact h
        · have := brk_short s (by omega)
          rw [HBK.out] at this; exact absurd this (by simp)
      have hj0 : j = s.size - 1 := HJ.out.symm
      have g2 : IntKind.i64.wrap ((s.size : Int) - 1) = (j : Int) := by rw [IntWalk.i64_in _ (by omega)]; omega
      have g4 : (1 : Int) ≤ (j : Int) := by omega
      have g5 : 1 ≤ j := by omega
      have g6 : (j : Int) ≤ (s.size : Int) := by omega
      have g9 : j ≤ s.size := by omega
      clear hj0
      go_wp2_with fail
      go_region
      go_wp2_with fail
      have k0 : HostAt ((wc.setCell ⟨w.heap.size + 1, 0, none⟩ (.int .i64 3)).setCell ⟨w.heap.size + 1, 1, none⟩ (.string I)).drew w.heap.size HostB.zero := hostAt_drew (hostAt_other (hostAt_other M0.out (by omega) _) (by omega) _)
      have k1 : HostAt ((wc.setCell ⟨w.heap.size + 1, 0, none⟩ (.int .i64 3)).setCell ⟨w.heap.size + 1, 1, none⟩ (.string I)).drew (w.heap.size + 1) ⟨3, I, -1⟩ := hostAt_drew (host_set1 (host_set0 M1.out 3) I)
      have kb : Below w.heap.size w ((wc.setCell ⟨w.heap.size + 1, 0, none⟩ (.int .i64 3)).setCell ⟨w.heap.size + 1, 1, none⟩ (.string I)).drew := ((HB1.out.setCell (by simp) _).setCell (by simp) _).drew
      obtain ⟨W5, hW5⟩ : ∃ W5, ((wc.setCell ⟨w.heap.size + 1, 0, none⟩ (.int .i64 3)).setCell ⟨w.heap.size + 1, 1, none⟩ (.string I)).drew = W5 := ⟨_, rfl⟩
      rw [hW5] at k0 k1 kb ⊢
      have K0 := Lib.hid k0; have K1 := Lib.hid k1; have KB := Lib.hid kb
      clear hW5 k0 k1 kb d0 d1 d2 c0 c1 c2 e0 e1 e2 f0 f1
      obtain ⟨d0, d1, d2⟩ := host_cells K0.out
      have e0 := host_frozen K0.out 0
      have e1 := host_frozen K0.out 1
      have e2 := host_frozen K0.out 2
      obtain ⟨c0, c1, c2⟩ := host_cells K1.out
      dsimp only at c0 c1 c2
      go_region
      all_goals go_wp2_with fail
      all_goals
        refine bodyPost_ret (host_result2 rfl (hostAt_drew (host_all K0.out ⟨3, I, -1⟩)) _ rfl) rfl ?_
        exact ⟨by rw [HOP.out, HOK.out]; rfl, (((KB.out.setCell (p := ⟨w.heap.size, 0, none⟩) (Nat.le_refl _) _).setCell (p := ⟨w.heap.size, 1, none⟩) (Nat.le_refl _) _).setCell (p := ⟨w.heap.size, 2, none⟩) (Nat.le_refl _) _).drew⟩
    | false =>
      go_wp2_with fail
      refine (FO.out _ (powAt_below HP.out HB1.out)).mono ?_
      rintro e w3 ⟨rfl, hw3⟩
      have HB3 := Lib.hid (bseq HB1.out hw3)
      have L0 := Lib.hid (hostAt_call M0.out hw3); have L1 := Lib.hid (hostAt_call M1.out hw3)
      clear hw3 d0 d1 d2 c0 c1 c2 e0 e1 e2 f0 f1
      obtain ⟨d0, d1, d2⟩ := host_cells L0.out
      have e0 := host_frozen L0.out 0
      have e1 := host_frozen L0.out 1
      have e2 := host_frozen L0.out 2
      obtain ⟨c0, c1, c2⟩ := host_cells L1.out
      have f0 := host_frozen L1.out 0
      have f1 := host_frozen L1.out 1
      cases f with
      | true =>
        go_wp2_with fail
        have k0 : HostAt (w3.setCell ⟨w.heap.size + 1, 0, none⟩ (.int .i64 2)) w.heap.size HostB.zero := hostAt_other L0.out (by omega) _
        have k1 : HostAt (w3.setCell ⟨w.heap.size + 1, 0, none⟩ (.int .i64 2)) (w.heap.size + 1) ⟨2, s, -1⟩ := host_set0 L1.out 2
        have kb : Below w.heap.size w (w3.setCell ⟨w.heap.size + 1, 0, none⟩ (.int .i64 2)) := HB3.out.setCell (by simp) _
        obtain ⟨W5, hW5⟩ : ∃ W5, (w3.setCell ⟨w.heap.size + 1, 0, none⟩ (.int .i64 2)) = W5 := ⟨_, rfl⟩
        rw [hW5] at k0 k1 kb ⊢
        have K0 := Lib.hid k0; have K1 := Lib.hid k1; have KB := Lib.hid kb
        clear hW5 k0 k1 kb d0 d1 d2 c0 c1 c2 e0 e1 e2 f0 f1
        obtain ⟨d0, d1, d2⟩ := host_cells K0.out
        have e0 := host_frozen K0.out 0
        have e1 := host_frozen K0.out 1
        have e2 := host_frozen K0.out 2
        obtain ⟨c0, c1, c2⟩ := host_cells K1.out
        dsimp only at c0 c1 c2
        go_region
        all_goals go_wp2_with fail
        all_goals
          refine bodyPost_ret (host_result2 rfl (hostAt_drew (host_all K0.out ⟨2, s, -1⟩)) _ rfl) rfl ?_
          exact ⟨by rw [HOP.out, HOK.out]; rfl, (((KB.out.setCell (p := ⟨w.heap.size, 0, none⟩) (Nat.le_refl _) _).setCell (p := ⟨w.heap.size, 1, none⟩) (Nat.le_refl _) _).setCell (p := ⟨w.heap.size, 2, none⟩) (Nat.le_refl _) _).drew⟩
      | false =>
        go_wp2_with fail
        refine (NA.out _).mono ?_
        rintro e w4 ⟨rfl, hw4⟩
        have HB4 := Lib.hid (bseq HB3.out hw4)
        have J0 := Lib.hid (hostAt_call L0.out hw4); have J1 := Lib.hid (hostAt_call L1.out hw4)
        clear hw4 d0 d1 d2 c0 c1 c2 e0 e1 e2 f0 f1
        obtain ⟨d0, d1, d2⟩ := host_cells J0.out
        have e0 := host_frozen J0.out 0
        have e1 := host_frozen J0.out 1
        have e2 := host_frozen J0.out 2
        obtain ⟨c0, c1, c2⟩ := host_cells J1.out
        have f0 := host_frozen J1.out 0
        have f1 := host_frozen J1.out 1
        cases nm with
        | true =>
          go_wp2_with fail
          have k0 : HostAt (w4.setCell ⟨w.heap.size + 1, 0, none⟩ (.int .i64 1)) w.heap.size HostB.zero := hostAt_other J0.out (by omega) _
          have k1 : HostAt (w4.setCell ⟨w.heap.size + 1, 0, none⟩ (.int .i64 1)) (w.heap.size + 1) ⟨1, s, -1⟩ := host_set0 J1.out 1
          have kb : Below w.heap.size w (w4.setCell ⟨w.heap.size + 1, 0, none⟩ (.int .i64 1)) := HB4.out.setCell (by simp) _
          obtain ⟨W5, hW5⟩ : ∃ W5, (w4.setCell ⟨w.heap.size + 1, 0, none⟩ (.int .i64 1)) = W5 := ⟨_, rfl⟩
          rw [hW5] at k0 k1 kb ⊢
          have K0 := Lib.hid k0; have K1 := Lib.hid k1; have KB := Lib.hid kb
          clear hW5 k0 k1 kb d0 d1 d2 c0 c1 c2 e0 e1 e2 f0 f1
          obtain ⟨d0, d1, d2⟩ := host_cells K0.out
          have e0 := host_frozen K0.out 0
          have e1 := host_frozen K0.out 1
          have e2 := host_frozen K0.out 2
          obtain ⟨c0, c1, c2⟩ := host_cells K1.out
          dsimp only at c0 c1 c2
          go_region
          all_goals go_wp2_with fail
          all_goals
            refine bodyPost_ret (host_result2 rfl (hostAt_drew (host_all K0.out ⟨1, s, -1⟩)) _ rfl) rfl ?_
            exact ⟨by rw [HOP.out, HOK.out]; rfl, (((KB.out.setCell (p := ⟨w.heap.size, 0, none⟩) (Nat.le_refl _) _).setCell (p := ⟨w.heap.size, 1, none⟩) (Nat.le_refl _) _).setCell (p := ⟨w.heap.size, 2, none⟩) (Nat.le_refl _) _).drew⟩
        | false =>
          go_wp2_with fail
          have k0 : HostAt w4 w.heap.size HostB.zero := J0.out
          have k1 : HostAt w4 (w.heap.size + 1) ⟨0, s, -1⟩ := J1.out
          have kb : Below w.heap.size w w4 := HB4.out
          obtain ⟨W5, hW5⟩ : ∃ W5, w4 = W5 := ⟨_, rfl⟩
          rw [hW5] at k0 k1 kb ⊢
          have K0 := Lib.hid k0; have K1 := Lib.hid k1; have KB := Lib.hid kb
          clear hW5 k0 k1 kb d0 d1 d2 c0 c1 c2 e0 e1 e2 f0 f1
          obtain ⟨d0, d1, d2⟩ := host_cells K0.out
          have e0 := host_frozen K0.out 0
          have e1 := host_frozen K0.out 1
          have e2 := host_frozen K0.out 2
          obtain ⟨c0, c1, c2⟩ := host_cells K1.out
          dsimp only at c0 c1 c2
          go_region
          all_goals go_wp2_with fail
          all_goals
            refine bodyPost_ret (host_result2 rfl (hostAt_drew (host_all K0.out ⟨0, s, -1⟩)) _ rfl) rfl ?_
            exact ⟨by rw [HOP.out, HOK.out]; rfl, (((KB.out.setCell (p := ⟨w.heap.size, 0, none⟩) (Nat.le_refl _) _).setCell (p := ⟨w.heap.size, 1, none⟩) (Nat.le_refl _) _).setCell (p := ⟨w.heap.size, 2, none⟩) (Nat.le_refl _) _).drew⟩
end Go.Proofs.YthhpijmkhhdhhaaDoor
