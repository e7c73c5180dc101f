/- Contracts of the law package 04: few, awake; a nil quill. -/
import Derived.Test.YthhpijmkhhdhhaaQuill2
import Derived.Test.YthhpijmkhhdhhaaLaw1
import Derived.Deep.RegionHeld3
namespace Go.Proofs.Ythhpijmkhhdhhaa
open Go.RowKit
set_option linter.unusedVariables false
set_option linter.unusedSimpArgs false

theorem putNil (w : World) (a : Option Addr) (n cap : Nat) :
    Calls Try.prog 56 #[.pointer none, .slice a n cap] w fun e w' => e = .returned (.int .i64 5) ∧ w = w' := by
  go_enter Try.func56, Try.ntmps56
  go_wp2
  go_ret
  exact ⟨rfl, rfl⟩
theorem leftNil (w : World) : Calls Try.prog 60 #[.pointer none] w fun e w' => e = .returned (.int .i64 0) ∧ w = w' := by
  go_enter Try.func60, Try.ntmps60
  go_wp2
  go_ret
  exact ⟨rfl, rfl⟩
theorem lenNil (w : World) : Calls Try.prog 59 #[.pointer none] w fun e w' => e = .returned (.int .i64 0) ∧ w = w' := by
  go_enter Try.func59, Try.ntmps59
  go_wp2
  go_ret
  exact ⟨rfl, rfl⟩
theorem textNil (w : World) : Calls Try.prog 58 #[.pointer none] w fun e w' => e = .returned (.string ⟨#[]⟩) ∧ w = w' := by
  go_enter Try.func58, Try.ntmps58
  go_wp2
  go_ret
  exact ⟨rfl, rfl⟩
theorem takeNil (w : World) : Calls Try.prog 53 #[.pointer none] w fun e w' => e = .returned (.string ⟨#[]⟩) ∧ w = w' := by
  go_enter Try.func53, Try.ntmps53
  go_wp2
  go_ret
  exact ⟨rfl, rfl⟩

theorem ret_si {a b : ByteArray} {x y : Int} (h : a = b) (h2 : x = y) : Ending.returned (.tuple #[.string a, .int .i64 x]) = .returned (.tuple #[.string b, .int .i64 y]) := by rw [h, h2]
theorem cat_lists (a b : List UInt8) : (⟨a.toArray⟩ ++ ⟨b.toArray⟩ : ByteArray) = ⟨(a ++ b).toArray⟩ := by
  apply ByteArray.ext; rw [ByteArray.data_append]; simp

def few4 (ss : List ByteArray) : List ByteArray := (ss.take 6).map (cutS 40)

def FewPost (w : World) (ss : List ByteArray) (e : Ending) (w' : World) : Prop :=
  ∃ v, e = .returned v ∧ w'.ownsRow w.heap.size 9 1 v (few4 ss).length (strCells (few4 ss)) ∧ Below w.heap.size w w'

set_option maxRecDepth 100000 in
theorem few4_any (w : World) (a : Option Addr) (len cap : Nat) (ss : List ByteArray) (h : StrsArg w a len ss) :
    Calls Try.prog 54 #[.slice a len cap] w (FewPost w ss) := by
  obtain ⟨hlen, hmax, hsz, harg⟩ := h
  unfold maxLen at hmax
  have HL := Lib.hid hlen; clear hlen
  have HS := Lib.hid hsz; clear hsz
  have HA := Lib.hid harg; clear harg
  go_enter Try.func54, Try.ntmps54
  go_wp2_with fail
  go_loopw [3, 4] (fun m i wr => ∃ k : Nat, k ≤ (few4 ss).length ∧ i = .int .i64 k ∧ Hid (wr.ownsRow w.heap.size 9 1 m k (strCells ((few4 ss).take k))) ∧ Hid (Below w.heap.size w wr)) (fun _ i _ => 6 - (intOf i).toNat)
  case atStart => exact ⟨0, Nat.zero_le _, rfl, World.ownsRow_nil _ _ _ _, Below.refl _ _⟩
  case round =>
    obtain ⟨k, hk, rfl, hown, hbl⟩ := hrel
    have hln : (few4 ss).length = min 6 len := by rw [← HL.out]; simp [few4]
    by_cases hlt : k < len ∧ k < 6
    · obtain ⟨hlt1, hlt2⟩ := hlt
      have hks : k < ss.length := by have := HL.out; omega
      have hcell : ∃ b o, a = some ⟨b, o, none⟩ ∧ wr.cell? ⟨b, o + k, none⟩ = some (.string ss[k]) := by
        rcases HA.out with h0 | ⟨b, o, ha, hbs, hc⟩
        · omega
        · exact ⟨b, o, ha, (hbl.out.cell (by exact hbs)).trans (hc k hks)⟩
      obtain ⟨b, o, rfl, hcell⟩ := hcell
      have hsk := HS.out _ (List.getElem_mem hks)
      unfold maxLen at hsk
      have HLN := Lib.hid hln; clear hln
      go_wp2_with fail
      obtain ⟨s, hs⟩ : ∃ s, s = ss[k].extract 0 (min (ss[k].size : Int) 40).toNat := ⟨_, rfl⟩
      have hown2 : (wr.alloc (.cells #[.string s] 9)).drew.ownsRow w.heap.size 9 1 u3 k (strCells ((few4 ss).take k)) := World.ownsRow.alloc (w := wr) hown.out _
      have hbl2 : (wr.alloc (.cells #[.string s] 9)).drew.heap[wr.heap.size]? = some (.cells #[.string s] 9 (0, 0)) := heap_alloc_new wr _
      rw [hs] at hown2 hbl2
      have HO2 := Lib.hid hown2; clear hown2
      have HB2 := Lib.hid hbl2; clear hbl2
      have HSS := Lib.hid hs; clear hs
      have hm1 : (0 : Int) ≤ min (ss[k].size : Int) 40 := by omega
      have hm2 : min (ss[k].size : Int) 40 ≤ ss[k].size := by omega
      have hws : w.heap.size ≤ wr.heap.size := hbl.out.size
      have hcb := World.block_lt_of_cell? wr _ hcell
      have hbo : u3.ownBlock ≠ some b := by
        intro e
        have h1 := (hown.out.lt b e).1
        have h2 : b < w.heap.size := by
          rcases HA.out with h0 | ⟨b', o', ha, hbs, _⟩
          · omega
          · obtain ⟨rfl, _⟩ : b = b' ∧ True := by simpa using congrArg (fun x : Option Addr => (x.map (·.block)).getD 0) ha
            exact hbs
        omega
      go_region_held3 (fun w' => w'.cell? ⟨b, o + k, none⟩ = some (.string ss[k])) (first | go_keep | exact (hgrow.cell_far _ (by simp; simp at hcb; omega) (fun e => hbo e.symm)).trans (by go_keep))
        ((change if Region.wanted { dst := some 28, op := _, type := _, pos := _, after := _, guard := _ } _ = true then _ else _; refine step_app_one 26 9 (.string ByteArray.empty) 1 16 Try.underlying26 info_str rfl (by decide) (by rfl) (.tmp 15) (.tmp 27) (by rfl) _ w.heap.size u3 k (strCells ((few4 ss).take k)) [.string (ss[k].extract 0 (min (ss[k].size : Int) 40).toNat)] rfl (by rfl) HO2.out wr.heap.size (by rfl) HB2.out (by simp [Value.oneCell']) (by omega) (by unfold maxLen; omega) (by simp; omega) ?_; intro g cp w2 hown3 hgrow hat hgl))
      have HO3 := Lib.hid hown3; clear hown3
      have HG3 := Lib.hid hgrow; clear hgrow hat
      go_wp2
      go_roundw
      case rel =>
        obtain ⟨hkf, hfk⟩ : ∃ h : k < (few4 ss).length, (few4 ss)[k] = cutS 40 ss[k] := ⟨by have := HLN.out; omega, by simp [few4]⟩
        refine ⟨k + 1, by omega, by go_num, ?_, ?_⟩
        · have h1 := HO3.out
          rw [extract_cutS 40 ss[k] _ (by omega), ← hfk] at h1
          have h2 : strCells ((few4 ss).take (k + 1)) = strCells ((few4 ss).take k) ++ [.string (few4 ss)[k]] := by
            unfold strCells
            rw [List.take_succ_eq_append_getElem hkf, List.map_append]
            rfl
          rw [h2]; exact h1
        · exact app_below (((hbl.out.alloc (by omega) _).drew)) HO2.out HG3.out (Nat.le_refl _) (by simp; omega)
      case measure => simp [intOf]; omega
    · have hkk : k = (few4 ss).length := by omega
      subst hkk
      rw [List.take_length] at hown
      have hg : ((few4 ss).length < len ∧ 6 ≤ (few4 ss).length) ∨ len ≤ (few4 ss).length := by omega
      have HLN := Lib.hid hln; clear hln
      clear hlt hk
      rcases hg with ⟨hl1, hl2⟩ | hl1
      all_goals
        go_wp2
        go_ret
        exact ⟨_, rfl, hown.out, hbl.out⟩

theorem lineNil (w : World) (B : Nat) (a : Option Addr) (cap : Nat) (ss : List ByteArray) (hs : StrsIn w B a ss) (hcap : a = none → cap = 0) (hn : ss.length ≤ 100000) :
    Calls Try.prog 55 #[.pointer none, .slice a ss.length cap] w fun e w' => e = .returned (.int .i64 5) ∧ Below w.heap.size w w' := by
  have hal : Below w.heap.size w (w.alloc (.cells #[] 9)) := (Below.refl _ _).alloc (Nat.le_refl _) _
  have hs1 : StrsIn (w.alloc (.cells #[] 9)) B a ss := strsIn_below hs hal
  have hown : (w.alloc (.cells #[] 9)).ownsRow w.heap.size 9 1 (.slice (some ⟨w.heap.size, 0, none⟩) 0 0) 0 (strCells []) :=
    World.ownsRow_made w #[] 0 (Nat.le_refl _) (by decide) rfl
  have HS := Lib.hid hs1; clear hs hs1
  have HO := Lib.hid hown; clear hown
  have HAL := Lib.hid hal; clear hal
  have HCAP := Lib.hid hcap; clear hcap
  go_enter Try.func55, Try.ntmps55
  go_wp2_with (at_builtin; refine app_strs (by rfl) (.tmp 6) (.tmp 7) (by rfl) _ w.heap.size _ 0 [] (by rfl) HO.out B a cap ss (by rfl) HS.out HCAP.out (by omega) (by simp) ?_)
  intro v1 w1 hown1 hg1
  have HO1 := Lib.hid hown1; clear hown1
  have HG1 := Lib.hid hg1; clear hg1
  have hz1 : w.heap.size ≤ w1.heap.size := by have := HG1.out.size; simp at this; omega
  go_wp2_with (at_builtin; refine app_one 26 9 (.string ByteArray.empty) 16 Try.underlying26 info_str rfl (by rfl) (.tmp 8) (.tmp 9) (by rfl) w1 w.heap.size v1 ss.length (strCells ss) (.string crlf) (by rfl) HO1.out (by rfl) rfl ?_ ?_ ?_ ?_)
  · omega
  · unfold maxLen; omega
  · exact hz1
  intro g cp w2 hown2 hg2 hat hbg hgl
  have hA : Below w.heap.size w w2 := app_below (app_below HAL.out HO.out HG1.out (Nat.le_refl _) (by simp)) HO1.out hg2 (Nat.le_refl _) hz1
  have HA := Lib.hid hA; clear hA
  clear hown2 hg2 hat
  go_wp2_with fail
  (refine (putNil _ _ _ _).mono ?_; rintro e w' ⟨rfl, rfl⟩; go_wp2_with fail)
  go_ret
  exact ⟨rfl, HA.out⟩

theorem all4_any (w : World) (B : Nat) (a : Option Addr) (n cap : Nat) (ss : List ByteArray) (hnn : n = ss.length) (hs : StrsIn w B a ss) (hn : n ≤ 1000000) (hb : (bytesOf ss).length ≤ 1000000) :
    Calls Try.prog 61 #[.slice a n cap] w fun e w' => e = .returned (.string ⟨(bytesOf ss).toArray⟩) ∧ w = w' := by
  subst hnn
  have HS := Lib.hid hs; clear hs
  go_enter Try.func61, Try.ntmps61
  go_wp2_with fail
  go_loop [3, 4] (fun s i => ∃ k : Nat, k ≤ ss.length ∧ i = .int .i64 k ∧ s = .string ⟨(bytesOf (ss.take k)).toArray⟩) (fun _ i => ss.length - (intOf i).toNat)
  case atStart => exact ⟨0, Nat.zero_le _, rfl, rfl⟩
  case round =>
    obtain ⟨k, hk, rfl, rfl⟩ := hrel
    by_cases hlt : k < ss.length
    · have hcell : ∃ g o, a = some ⟨g, o, none⟩ ∧ w.cell? ⟨g, o + k, none⟩ = some (.string ss[k]) := by
        rcases HS.out with h | ⟨g, o, ha, _, _, hc⟩
        · rw [h] at hlt; simp at hlt
        · exact ⟨g, o, ha, hc k hlt⟩
      obtain ⟨g, o, rfl, hcell⟩ := hcell
      have hov : ¬ 9223372036854775807 < (bytesOf (ss.take k)).length + ss[k].size := by
        have h1 := bytesOf_take_le ss (k + 1)
        rw [bytesOf_take_succ ss k hlt, List.length_append, ← Lib.size_eq] at h1
        omega
      go_wp2_with fail
      go_round
      case rel => exact ⟨k + 1, by omega, by go_num, congrArg Value.string (bytesOf_concat _ k hlt)⟩
      case measure => simp [intOf]; omega
    · obtain rfl : k = ss.length := by omega
      go_wp2_with fail
      go_ret
      exact ⟨rfl, rfl⟩

set_option maxRecDepth 100000 in
theorem refPut4_any (w : World) (B : Nat) (s : List UInt8) (most : Int) (a : Option Addr) (n cap : Nat) (ss : List ByteArray) (hnn : n = ss.length) (hs : StrsIn w B a ss) (hn : n ≤ 1000000) (hb : s.length + (bytesOf ss).length ≤ 1000000) (h0 : -9223372036854775808 ≤ most) (h1 : most ≤ 9223372036854775807) (hl : (s.length : Int) ≤ max most 0) :
    Calls Try.prog 57 #[.string ⟨s.toArray⟩, .int .i64 most, .slice a n cap] w fun e w' => e = .returned (.tuple #[.string ⟨(putL s (max most 0) ss).toArray⟩, .int .i64 (putE s (max most 0) ss)]) ∧ w = w' := by
  have HA := Lib.hid (all4_any w B a n cap ss hnn hs hn (by omega))
  clear hnn hs
  have hov : ¬ 9223372036854775807 < s.length + (bytesOf ss).length := by omega
  by_cases hgt : max most 0 < ((s.length + (bytesOf ss).length : Nat) : Int)
  · have hpos : 0 < (bytesOf ss).length := by omega
    have hno : putOk s (max most 0) ss = false := by unfold putOk; simp; omega
    go_enter Try.func57, Try.ntmps57
    go_wp2_with fail
    (refine (HA.out).mono ?_; rintro e w' ⟨rfl, rfl⟩; go_wp2_with fail)
    (refine (HA.out).mono ?_; rintro e w' ⟨rfl, rfl⟩; go_wp2_with fail)
    go_ret2
    exact ⟨ret_si (by rw [putL, hno]; rfl) (by rw [putE, hno]; rfl), rfl⟩
  · have hno : putOk s (max most 0) ss = true := by unfold putOk; simp; omega
    go_enter Try.func57, Try.ntmps57
    go_wp2_with fail
    (refine (HA.out).mono ?_; rintro e w' ⟨rfl, rfl⟩; go_wp2_with fail)
    go_ret2
    exact ⟨ret_si (by rw [putL, hno, cat_lists]; rfl) (by rw [putE, hno]; rfl), rfl⟩

/-- A quill's Put, where what comes of it is known. -/
theorem put_known {w : World} {B b : Nat} {l : List UInt8} {most : Int} {ss : List ByteArray} {e : Ending} {w' : World} (h : PutPost w B b l most ss e w') (x : Int) (hx : putE l most ss = x) (l2 : List UInt8) (hl : putL l most ss = l2) :
    e = .returned (.int .i64 x) ∧ QuillAt w' B b l2 most ∧ FrT B b 5 w w' := by
  obtain ⟨h1, h2, h3⟩ := h
  rw [hx] at h1
  rw [hl] at h2
  exact ⟨h1, h2, h3⟩

/-- Texts that have just been laid into a block of their own. -/
theorem strsIn_new (w : World) (B : Nat) (ss : List ByteArray) (cs : Array Value) (hcs : cs = (strCells ss).toArray) (H : Nat) (hH : w.heap.size = H) : StrsIn (w.alloc (.cells cs 9)) B (some ⟨H, 0, none⟩) ss := by
  subst hcs hH
  refine .inr ⟨w.heap.size, 0, rfl, by simp, .inr ⟨_, _, heap_alloc_new w _⟩, fun j hj => ?_⟩
  rw [Nat.zero_add, cell_of_row _ _ j _ _ _ (heap_alloc_new w _)]
  simp [strCells, List.getElem?_eq_getElem hj]

/-- Put of texts that have just been laid, where what comes of it is known. -/
theorem put_lit (w : World) (B b : Nat) (l : List UInt8) (most : Int) (ss : List ByteArray) (cs : Array Value) (hcs : cs = (strCells ss).toArray) (n : Nat) (hn : n = ss.length) (x : Int) (l2 : List UInt8) (H : Nat) (hH : w.heap.size = H)
    (h : QuillAt w B b l most) (h0 : 0 ≤ most) (h1 : most ≤ 9223372036854775807) (hl : (l.length : Int) ≤ most) (hlt0 : l.length + (bytesOf ss).length ≤ 1000000) (hns : n ≤ maxLen) (hsz : ∀ s ∈ ss, s.size ≤ maxLen)
    (hx : putE l most ss = x) (hl2 : putL l most ss = l2) :
    Calls Try.prog 56 #[.pointer (some ⟨b, 0, none⟩), .slice (some ⟨H, 0, none⟩) n n] (w.alloc (.cells cs 9)) fun e w' => e = .returned (.int .i64 x) ∧ QuillAt w' B b l2 most ∧ FrT B b 5 w w' := by
  have hb : Below w.heap.size w (w.alloc (.cells cs 9)) := (Below.refl _ _).alloc (Nat.le_refl _) _
  refine (quill_put' _ B b l most _ n n ss hn (quillAt_frT h hb) h0 h1 hl hlt0 (strsIn_new w B ss cs hcs H hH) hns hsz).mono fun e w' hp => ?_
  obtain ⟨h1, h2, h3⟩ := put_known hp x hx l2 hl2
  exact ⟨h1, h2, (FrT.ofBelow hb).trans h3⟩

set_option maxRecDepth 100000 in
theorem awake4_any (w : World) :
    Calls Try.prog 51 #[] w fun e w' => e = .returned (.bool true) ∧ Below w.heap.size w w' := by
  have q0 := quillAt_new 5 w w.heap.size (Nat.le_refl _)
  have b0 : Below w.heap.size w (w.alloc (.cells #[.slice none 0 0, .int .i64 5] 106)) := (Below.refl _ _).alloc (Nat.le_refl _) _
  have p1 := put_lit _ w.heap.size w.heap.size [] 5 [⟨#[97, 98]⟩, ⟨#[99]⟩] #[.string ⟨#[97, 98]⟩, .string ⟨#[99]⟩] rfl 2 rfl 0 [97, 98, 99] (w.heap.size + 1) (by simp) q0 (by decide) (by decide) (by decide) (by decide +kernel) (by decide) (by decide +kernel) (by decide +kernel) (by decide +kernel)
  have B0 := Lib.hid b0; clear b0
  have P1 := Lib.hid p1; clear p1 q0
  go_enter Try.func51, Try.ntmps51
  go_wp2_with fail
  (refine (quill_new 5 _ (by decide) (by decide)).mono ?_; rintro e w' ⟨rfl, rfl⟩; go_wp2_with fail)
  refine P1.out.mono ?_
  rintro e w1 ⟨rfl, hq1, hf1⟩
  have p2 := fun H hH => put_lit w1 w.heap.size w.heap.size [97, 98, 99] 5 [⟨#[100, 101, 102]⟩] #[.string ⟨#[100, 101, 102]⟩] rfl 1 rfl 10 [97, 98, 99] H hH hq1 (by decide) (by decide) (by decide) (by decide +kernel) (by decide) (by decide +kernel) (by decide +kernel) (by decide +kernel)
  have P2 := Lib.hid (p2 w1.heap.size rfl); clear p2 hq1
  have F1 := Lib.hid hf1; clear hf1
  go_wp2_with fail
  refine P2.out.mono ?_
  rintro e w2 ⟨rfl, hq2, hf2⟩
  have p3 := quill_line w2 w.heap.size w.heap.size [97, 98, 99] 5 none 0 [] hq2 (by decide) (by decide) (by decide) (by decide +kernel) (.inl rfl) (fun _ => rfl) (by decide) (by simp)
  have P3 := Lib.hid p3; clear p3 hq2
  have F2 := Lib.hid hf2; clear hf2
  go_wp2_with fail
  refine P3.out.mono ?_
  intro e w3 hp
  obtain ⟨rfl, hq3, hf3⟩ := put_known hp 0 (by decide +kernel) [97, 98, 99, 13, 10] (by decide +kernel)
  have T3 := Lib.hid (quill_text w3 _ _ _ _ hq3)
  have L3 := Lib.hid (quill_len w3 _ _ _ _ hq3)
  have E3 := Lib.hid (quill_left w3 _ _ _ _ hq3 (by decide) (by decide) (by decide))
  have F3 := Lib.hid hf3
  clear hq3 hf3 hp
  go_wp2_with fail
  (refine (T3.out).mono ?_; rintro e w' ⟨rfl, rfl⟩; go_wp2_with fail)
  (refine (L3.out).mono ?_; rintro e w' ⟨rfl, rfl⟩; go_wp2_with fail)
  refine E3.out.mono ?_
  rintro e w4 ⟨rfl, n, rfl⟩
  go_wp2_with fail
  go_ret
  exact ⟨rfl, (((B0.out.trans (F1.out.below (by simp))).trans (F2.out.below (by have := F1.out.size; simp at this; omega))).trans (F3.out.below (by have := F1.out.size; have := F2.out.size; simp at *; omega))).trans (below_drewN (Below.refl _ _) _)⟩

end Go.Proofs.Ythhpijmkhhdhhaa
