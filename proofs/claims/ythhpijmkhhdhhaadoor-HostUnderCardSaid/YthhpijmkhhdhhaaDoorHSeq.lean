/- Contract: strings.SplitSeq at a separator of one byte: an iterator that keeps its state in a cell. -/
import Derived.Test.YthhpijmkhhdhhaaDoorParts
import Derived.Test.YthhpijmkhhdhhaaDoorShelf
import Derived.RangeFuncNested
import Derived.RangeFuncBound
import Derived.RangeFuncCalls
import Derived.RangeFuncLeaves
import Derived.Shelf.Abstract
import Derived.Shelf.RegionOpen
import Derived.WalkKit
import Derived.OwnWalkIn
import Derived.TacticsInMore
import Derived.LoopNIn
import Derived.LoopIn
namespace Go.Proofs.YthhpijmkhhdhhaaDoor
open Go.RowKit Go.Shelf
set_option linter.unusedVariables false
set_option linter.unusedSimpArgs false
attribute [local go_sem] Oper.semAt_some

theorem index_hit (c : UInt8) : ∀ (l : List UInt8), Lib.indexByte l c ≠ -1 → ∃ A r, l = A ++ c :: r ∧ (∀ x ∈ A, x ≠ c) ∧ Lib.indexByte l c = (A.length : Int)
  | [], h => absurd rfl h
  | x :: l, h => by
    by_cases hx : x = c
    · subst hx
      exact ⟨[], l, rfl, by simp, by simp [Lib.indexByte]⟩
    · have hx' : (x == c) = false := by simpa using hx
      have h1 : Lib.indexByte (x :: l) c = if Lib.indexByte l c == -1 then -1 else Lib.indexByte l c + 1 := by
        show (if x == c then (0 : Int) else _) = _
        rw [hx']; rfl
      by_cases hm : Lib.indexByte l c = -1
      · rw [h1, hm] at h; exact absurd rfl h
      · obtain ⟨A, r, e, hA, hi⟩ := index_hit c l hm
        refine ⟨x :: A, r, by rw [e]; rfl, ?_, ?_⟩
        · intro y hy
          rcases List.mem_cons.1 hy with rfl | hy
          · exact hx
          · exact hA y hy
        · rw [h1, if_neg (by simpa using hm), hi]; simp
theorem index_miss (c : UInt8) : ∀ (l : List UInt8), Lib.indexByte l c = -1 → ∀ x ∈ l, x ≠ c
  | [], _, x, hx => by simp at hx
  | y :: l, h, x, hx => by
    have h1 : Lib.indexByte (y :: l) c = if y == c then 0 else if Lib.indexByte l c == -1 then -1 else Lib.indexByte l c + 1 := rfl
    have hg := Lib.indexByte_ge l c
    rw [h1] at h
    by_cases hy : y = c
    · rw [if_pos (by simpa using hy)] at h; omega
    · rw [if_neg (by simpa using hy)] at h
      by_cases hm : Lib.indexByte l c = -1
      · rcases List.mem_cons.1 hx with rfl | hx
        · exact hy
        · exact index_miss c l hm x hx
      · rw [if_neg (by simpa using hm)] at h; omega

/-- How much the iterator has left. -/
def seqLeft (b : Nat) (w : World) : Nat := match w.cell? ⟨b, 0, none⟩ with
  | some (.string r) => r.size
  | _ => 0
theorem seqLeft_eq {b : Nat} {w : World} {r : ByteArray} (h : w.cell? ⟨b, 0, none⟩ = some (.string r)) : seqLeft b w = r.size := by unfold seqLeft; rw [h]

set_option maxRecDepth 100000 in
set_option maxHeartbeats 4000000 in
theorem splitSeq1_in (n l bp bs bv : Nat) (hn : 1 ≤ n) (c : UInt8) (J : List (List UInt8) → ByteArray → World → Prop) (Jx : List UInt8 → World → Prop)
    (hc : ∀ pre rest W, J pre rest W → W.cell? ⟨bp, 0, none⟩ = some (.string ⟨#[c]⟩) ∧ W.cell? ⟨bs, 0, none⟩ = some (.string rest) ∧ W.frozen? ⟨bs, 0, none⟩ = false ∧ W.cell? ⟨bv, 0, none⟩ = some (.int .i64 0))
    (hst : ∀ pre rest W r2, J pre rest W → J pre r2 (W.setCell ⟨bs, 0, none⟩ (.string r2)))
    (s : ByteArray) (hs : s.size ≤ 1000000)
    (hY : ∀ pre rest (x : ByteArray) W, x.data.toList ∈ partsL c s.data.toList → pre.length < (partsL c s.data.toList).length → J pre rest W → YieldAt Fence.wide (n - 1) Tryd.prog l #[.string x] W fun e W' => (e = .returned (.bool true) ∧ J (pre ++ [x.data.toList]) rest W') ∨ (e = .returned (.bool false) ∧ Jx x.data.toList W'))
    (W : World) (h0 : J [] s W) :
    CallsIn Fence.wide n Tryd.prog 118 #[.func (.yield l) #[] #[], .pointer (some ⟨bp, 0, none⟩), .pointer (some ⟨bs, 0, none⟩), .pointer (some ⟨bv, 0, none⟩)] W fun e W' =>
      (∃ v, e = .returned v) ∧ ((∃ rest, J (partsL c s.data.toList) rest W') ∨ (∃ x, x ∈ partsL c s.data.toList ∧ Jx x W')) := by
  have HC := Lib.hid hc; have HST := Lib.hid hst; have HY := Lib.hid hY
  clear hc hst hY
  refine callsIn_of_wp Tryd.func118 rfl trivial ?_ rfl
  simp only [Tryd.ntmps118, List.size_toArray, List.length_cons, List.length_nil, Nat.reduceAdd, Nat.reduceSub, Array.replicate_succ, Array.replicate_zero, List.push_toArray, List.append_toArray, List.nil_append, List.cons_append]
  obtain ⟨p0, p1, p2, p3⟩ := HC.out _ _ _ h0
  gi_wp2
  clear p0 p1 p2 p3
  gi_loopw [7, 8] (fun _ _ wr => ∃ pre rest, Hid (J pre rest wr) ∧ Hid (partsL c s.data.toList = pre ++ partsL c rest.data.toList) ∧ rest.size ≤ s.size) (fun _ _ wr => seqLeft bs wr)
  case atStart => exact ⟨[], s, h0, rfl, Nat.le_refl _⟩
  case round =>
    obtain ⟨pre, rest, hj, hp, hsz⟩ := hrel
    obtain ⟨q0, q1, q2, q3⟩ := HC.out _ _ _ hj.out
    have IX := Lib.hid (fun W => Tryd.strings_Index_one rest c W)
    obtain ⟨i, hi⟩ : ∃ i, Lib.indexByte rest.data.toList c = i := ⟨_, rfl⟩
    rw [hi] at IX
    by_cases hm : i = -1
    · subst hm
      have hall := partsL_all rest.data.toList (index_miss c _ hi)
      have hpe : Hid (partsL c s.data.toList = pre ++ [rest.data.toList]) := Lib.hid (by rw [hp.out, hall])
      obtain ⟨fn, tmps, assign, body, hy, hR⟩ := HY.out pre rest rest wr (by rw [hpe.out]; simp) (by rw [hpe.out]; simp) hj.out
      clear hi hall
      gi_wp2_with (refine ⟨trivial, ?_⟩; gi_at_call 114; refine (callsIn_wide.2 (IX.out _)).mono ?_; rintro e w' ⟨rfl, rfl⟩)
      refine hR.mono ?_
      rintro e W1 (⟨rfl, hJ1⟩ | ⟨rfl, hx1⟩)
      · have HJ1 := Lib.hid hJ1; clear hJ1
        gi_wp2
        go_end0
        exact ⟨⟨_, rfl⟩, .inl ⟨rest, by rw [hpe.out]; exact HJ1.out⟩⟩
      · have HX1 := Lib.hid hx1; clear hx1
        gi_wp2
        go_end0
        exact ⟨⟨_, rfl⟩, .inr ⟨rest.data.toList, by rw [hpe.out]; simp, HX1.out⟩⟩
    · obtain ⟨A, r, e1, hA, hi2⟩ := index_hit c rest.data.toList (by rw [hi]; exact hm)
      rw [hi] at hi2
      subst hi2
      have hpe : Hid (partsL c s.data.toList = pre ++ A :: partsL c r) := Lib.hid (by rw [hp.out, e1, partsL_hit A r hA])
      have hlen : rest.size = A.length + 1 + r.length := by rw [Lib.size_eq, e1]; simp; omega
      obtain ⟨x, hx⟩ : ∃ x, rest.extract 0 A.length = x := ⟨_, rfl⟩
      have hxd : x.data.toList = A := by rw [← hx, Lib.extract_data, e1]; simp
      obtain ⟨r2, hr2⟩ : ∃ r2, rest.extract (A.length + 1) rest.size = r2 := ⟨_, rfl⟩
      have hrd : r2.data.toList = r := by
        rw [← hr2, Lib.extract_data, e1, List.take_of_length_le (by simp [hlen])]
        rw [List.drop_append, List.drop_of_length_le (by omega)]
        simp
      obtain ⟨fn, tmps, assign, body, hy, hR⟩ := HY.out pre rest x wr (by rw [hxd, hpe.out]; simp) (by rw [hpe.out]; simp) hj.out
      have g0 : ¬ ((A.length : Int) < 0) := by omega
      have g1 : A.length ≤ rest.size := by omega
      have g2 : (A.length : Int) ≤ (rest.size : Int) := by omega
      have g3 : IntKind.i64.wrap ((A.length : Int) + 0) = (A.length : Int) := by rw [wrap_small _ (by omega) (by omega)]; omega
      have g4 : IntKind.i64.wrap ((A.length : Int) + 1) = ((A.length + 1 : Nat) : Int) := by rw [wrap_small _ (by omega) (by omega)]; omega
      have g4' : IntKind.i64.wrap ((A.length : Int)) = (A.length : Int) := by rw [wrap_small _ (by omega) (by omega)]
      have g5 : A.length + 1 ≤ rest.size := by omega
      have g6 : ((A.length + 1 : Nat) : Int) ≤ (rest.size : Int) := by omega
      have HXD := Lib.hid hxd; have HRD := Lib.hid hrd; have HL := Lib.hid hlen; have HE := Lib.hid e1
      clear hi hxd hrd hlen e1 hm
      gi_wp2_with (refine ⟨trivial, ?_⟩; gi_at_call 114; refine (callsIn_wide.2 (IX.out _)).mono ?_; rintro e w' ⟨rfl, rfl⟩)
      refine hR.mono ?_
      rintro e W1 (⟨rfl, hJ1⟩ | ⟨rfl, hx1⟩)
      · rw [HXD.out] at hJ1
        obtain ⟨t0, t1, t2, t3⟩ := HC.out _ _ _ hJ1
        have HN := Lib.hid (HST.out _ _ _ r2 hJ1)
        have q1' := Lib.hid q1
        clear hJ1 q0 q1 q2 q3 hy
        gi_wp2
        go_roundw
        case rel => exact ⟨pre ++ [A], r2, HN.out, Lib.hid (by rw [hpe.out, HRD.out]; simp), by rw [Lib.size_eq, HRD.out]; have := HL.out; omega⟩
        case measure =>
          rw [seqLeft_eq (HC.out _ _ _ HN.out).2.1, seqLeft_eq q1'.out, Lib.size_eq r2, HRD.out]
          have := HL.out
          omega
      · rw [HXD.out] at hx1
        have HX1 := Lib.hid hx1; clear hx1 hy
        gi_wp2
        refine bodyPost_ret (results_none rfl _ _ _) rfl ?_
        exact ⟨⟨_, rfl⟩, .inr ⟨A, by rw [hpe.out]; simp, HX1.out⟩⟩

end Go.Proofs.YthhpijmkhhdhhaaDoor
