/- The walk of the law OctetAll. -/
import Derived.Test.YthhpijmkhhdhhaaLaw1
import Derived.Test.YthhpijmkhhdhhaaAppend
import Derived.Deep.QuietTactic
import Derived.BigQuiet
namespace Go.Proofs.Ythhpijmkhhdhhaa
open Go.RowKit
set_option linter.unusedVariables false
set_option linter.unusedSimpArgs false

def u8cells (l : List UInt8) : List Value := l.map fun c => .int .u8 (c.toNat : Int)

/-- What a taker in block b holds: the bytes that it has seen. -/
def TakerAt (b B : Nat) (most : Int) (seen : List UInt8) (w : World) : Prop :=
  ∃ v, w.heap[b]? = some (.cells #[v, .int .i64 most] 31 (0, 0)) ∧ B ≤ b ∧ w.ownsRow B 5 1 v seen.length (u8cells seen) ∧ v.ownBlock ≠ some b

theorem taker_is (b B : Nat) (most : Int) (seen : List UInt8) (n : Int) (c : UInt8) (hc : n = (c.toNat : Int)) (w : World) (h : TakerAt b B most seen w) (hl : seen.length ≤ 1000000) :
    Calls Try.prog 29 #[.pointer (some ⟨b, 0, none⟩), .int .u8 n] w fun e w' => e = .returned (.bool (decide (((seen ++ [c]).length : Int) ≤ most))) ∧ TakerAt b B most (seen ++ [c]) w' ∧ Below B w w' := by
  obtain ⟨v, hb, hB, hown, hne⟩ := h
  have hbs : b < w.heap.size := (Array.getElem?_eq_some_iff.1 hb).1
  have c0 : w.cell? ⟨b, 0, none⟩ = some v := by rw [cell_of_row w b 0 _ _ _ hb]; rfl
  have c1 : w.cell? ⟨b, 1, none⟩ = some (.int .i64 most) := by rw [cell_of_row w b 1 _ _ _ hb]; rfl
  have HO := Lib.hid hown; clear hown
  have HN := Lib.hid hc; clear hc
  have HB := Lib.hid hb; clear hb
  go_enter Try.func29, Try.ntmps29
  go_wp2_with (at_builtin; refine app_one 29 5 (.int .u8 0) 1 Try.underlying29 info_u8 rfl (by rfl) (.tmp 9) (.tmp 11) (by rfl) w B v seen.length (u8cells seen) (.int .u8 n) (by rfl) HO.out (by rfl) rfl (by omega) (by unfold maxLen; omega) (by omega) ?_)
  intro g cap w1 hown1 hgrow hat hbg hlt
  have HO1 := Lib.hid hown1; clear hown1
  have hb1 : w1.heap[b]? = some (.cells #[v, .int .i64 most] 31 (0, 0)) := by rw [hgrow.block b hbs (fun e => hne e.symm)]; exact HB.out
  have d0 : w1.cell? ⟨b, 0, none⟩ = some v := by rw [cell_of_row w1 b 0 _ _ _ hb1]; rfl
  have d1 : w1.cell? ⟨b, 1, none⟩ = some (.int .i64 most) := by rw [cell_of_row w1 b 1 _ _ _ hb1]; rfl
  have d2 : w1.frozen? ⟨b, 0, none⟩ = false := frozen_of_row w1 b 0 _ _ hb1
  have HB1 := Lib.hid hb1; clear hb1
  have HG := Lib.hid hgrow; clear hgrow
  have HA := Lib.hid hat; clear hat
  clear c0 c1
  go_wp2
  go_quiet (fail)
  go_wp2
  go_ret
  refine ⟨ret_bool (by rw [List.length_append]; rfl), ⟨_, heap_setCell_at HB1.out 0 _, hB, ?_, ?_⟩, ?_⟩
  · have h := HO1.out
    rw [HN.out] at h
    have hu : u8cells (seen ++ [c]) = u8cells seen ++ [.int .u8 (c.toNat : Int)] := by simp [u8cells]
    rw [hu, List.length_append]
    refine ownsRow_setCell_other (w := w1) h ?_ _
    intro e
    rcases HA.out with h1 | h1
    · simp [Value.ownBlock] at e; subst e; exact hne h1
    · simp [Value.ownBlock] at e; omega
  · intro e
    rcases HA.out with h1 | h1
    · simp [Value.ownBlock] at e; subst e; exact hne h1
    · simp [Value.ownBlock] at e; omega
  · refine below_drewN (Below.setCell (Below.grown (Below.refl _ _) HG.out (by omega) ?_) hB _) _
    intro k hk
    rcases HO.out.2 with ⟨h0, _⟩ | ⟨g', _, _, h0, hbb, _⟩
    · rw [h0] at hk; simp [Value.ownBlock] at hk
    · rw [h0] at hk; simp [Value.ownBlock] at hk; omega

/-- The law's own texts: ten at most, each cut. -/
def fewOf (ss : List ByteArray) : List ByteArray := (ss.take 10).map (cutS 300)

def strCells (ss : List ByteArray) : List Value := ss.map Value.string

theorem seen_run (most : Int) (h0 : 0 ≤ most) (l : List UInt8) : ∀ seen : List UInt8, (seen.length : Int) ≤ most →
    allRun (fun l => decide ((l.length : Int) ≤ most)) seen l = (decide (((seen ++ l).length : Int) ≤ most), (seen ++ l).take (most.toNat + 1)) := by
  induction l with
  | nil => intro seen h; simp [allRun, h]; rw [List.take_of_length_le (by omega)]
  | cons c r ih =>
    intro seen h
    simp only [allRun]
    by_cases hc : (((seen ++ [c]).length : Nat) : Int) ≤ most
    · rw [if_pos (by simpa using hc), ih _ hc]
      simp
    · rw [if_neg (by simpa using hc)]
      simp only [List.length_append, List.length_cons, List.length_nil] at hc
      refine Prod.ext ?_ ?_
      · simp; omega
      · show seen ++ [c] = _
        have e : most.toNat + 1 = (seen ++ [c]).length := by simp; omega
        rw [e, show seen ++ c :: r = (seen ++ [c]) ++ r from by simp, List.take_left]

theorem fewOf_at (ss : List ByteArray) (k : Nat) (h1 : k < ss.length) (h2 : k < 10) : ∃ h : k < (fewOf ss).length, (fewOf ss)[k] = cutS 300 ss[k] := by
  have h : k < (fewOf ss).length := by simp [fewOf]; omega
  exact ⟨h, by simp [fewOf]⟩

theorem bytesOf_len (ss : List ByteArray) (k : Nat) : (bytesOf ((fewOf ss).take k)).length ≤ 3000 := by
  have h : ∀ l : List ByteArray, (∀ s ∈ l, s.size ≤ 300) → (bytesOf l).length ≤ 300 * l.length := by
    intro l
    induction l with
    | nil => intro _; simp [bytesOf]
    | cons s l ih =>
      intro hl
      have h1 := hl s (by simp)
      have h2 := ih fun s hs => hl s (by simp [hs])
      rw [Lib.size_eq] at h1
      simp only [bytesOf, List.map_cons, List.flatten_cons, List.length_append, List.length_cons] at h2 ⊢
      omega
  have h2 := h ((fewOf ss).take k) (by
    intro s hs
    have := List.mem_of_mem_take hs
    unfold fewOf at this
    obtain ⟨t, _, rfl⟩ := List.mem_map.1 this
    rw [cutS_size]; omega)
  have h3 : ((fewOf ss).take k).length ≤ 10 := by simp [fewOf]; omega
  omega

theorem strCells_succ (l : List ByteArray) (k : Nat) (h : k < l.length) : strCells (l.take (k + 1)) = strCells (l.take k) ++ [.string l[k]] := by
  unfold strCells
  rw [List.take_succ_eq_append_getElem h, List.map_append]
  rfl

theorem bytesOf_concat (l : List ByteArray) (k : Nat) (h : k < l.length) : (⟨(bytesOf (l.take k)).toArray⟩ ++ l[k] : ByteArray) = ⟨(bytesOf (l.take (k + 1))).toArray⟩ := by
  rw [bytesOf_take_succ l k h]
  apply ByteArray.ext
  rw [ByteArray.data_append]
  simp

/-- All at a taker in a new block and texts of the call's own. -/
theorem all_taker (wr : World) (B : Nat) (m : Value) (most : Int) (strs : List ByteArray) (hown : wr.ownsRow B 9 1 m strs.length (strCells strs)) (h0 : 0 ≤ most)
    (hs : ∀ s ∈ strs, s.size ≤ maxLen) (hl : (bytesOf strs).length ≤ 3000) (hn : strs.length ≤ maxLen) :
    Calls Try.prog 28 #[.func (.func 29) #[.pointer (some ⟨wr.heap.size, 0, none⟩)] #[], m] (wr.alloc (.cells #[.slice none 0 0, .int .i64 most] 31)) fun e w' =>
      e = .returned (.bool (decide (((bytesOf strs).length : Int) ≤ most))) ∧ TakerAt wr.heap.size wr.heap.size most ((bytesOf strs).take (most.toNat + 1)) w' ∧ Below wr.heap.size wr w' := by
  have hT0 : TakerAt wr.heap.size wr.heap.size most [] (wr.alloc (.cells #[.slice none 0 0, .int .i64 most] 31)) :=
    ⟨.slice none 0 0, heap_alloc_new wr _, Nat.le_refl _, World.ownsRow_nil _ _ _ _, by simp [Value.ownBlock]⟩
  have hB0 : Below wr.heap.size wr (wr.alloc (.cells #[.slice none 0 0, .int .i64 most] 31)) := (Below.refl _ _).alloc (Nat.le_refl _) _
  rcases hown.2 with ⟨rfl, hz⟩ | ⟨g, cp, cur, rfl, _, hg, hcp, _, _, htk⟩
  · have hnil : strs = [] := List.eq_nil_of_length_eq_zero hz
    subst hnil
    refine (all_nil _ _ _ _).mono ?_
    rintro e w' ⟨rfl, rfl⟩
    refine ⟨ret_bool (by simp [bytesOf, h0]), ?_, hB0⟩
    simpa [bytesOf] using hT0
  · have hgs : g < wr.heap.size := (Array.getElem?_eq_some_iff.1 hg).1
    have hk := enter_of_name Try.func29 (by kernel_rfl) (by kernel_rfl)
    have h := all_gen 29 #[.pointer (some ⟨wr.heap.size, 0, none⟩)] #[] g 0 cp strs (fun l => decide ((l.length : Int) ≤ most))
      (fun seen w' => TakerAt wr.heap.size wr.heap.size most seen w' ∧ Below wr.heap.size wr w') _ hk (fun j hj => hs _ (List.getElem_mem _)) hn ?_ ?_ ⟨hT0, hB0⟩
    · refine h.mono ?_
      rintro e w' ⟨rfl, h1, h2⟩
      rw [seen_run most h0 _ [] (by simpa using h0)] at h1 ⊢
      rw [List.nil_append] at h1 ⊢
      exact ⟨rfl, h1, h2⟩
    · rintro seen w' ⟨_, hb⟩ j hj
      rw [hb.cell (by exact hgs), Nat.zero_add, cell_of_row wr g j _ _ _ hg]
      have h3 : (strCells strs)[j]? = some (.string strs[j]) := by simp [strCells, List.getElem?_eq_getElem hj]
      rw [← htk, List.getElem?_take] at h3
      split at h3
      · simpa using h3
      · cases h3
    · rintro seen c w' ⟨r, hr⟩ ⟨ht, hb⟩
      have hsl : seen.length ≤ 1000000 := by
        have := congrArg List.length hr
        simp at this; omega
      refine (taker_is wr.heap.size wr.heap.size most seen _ c rfl w' ht hsl).mono ?_
      rintro e w2 ⟨rfl, h1, h2⟩
      exact ⟨rfl, h1, hb.trans h2⟩

/-- string(v) where v owns bytes. -/
theorem conv_own (w : World) (B : Nat) (v : Value) (l : List UInt8) (h : w.ownsRow B 5 1 v l.length (u8cells l)) :
    (convert 29 9 v).run Try.prog w = .ok (.string ⟨l.toArray⟩) w := by
  rcases h.2 with ⟨rfl, hz⟩ | ⟨g, cp, cur, rfl, _, hg, hcp, _, _, htk⟩
  · have hnil : l = [] := List.eq_nil_of_length_eq_zero hz
    subst hnil
    have hnull : (convert 29 9 (.slice none 0 0)).run Try.prog w = .ok (.string ⟨#[]⟩) w := by kernel_rfl
    exact hnull
  · refine string_of_bytes w g 0 cp l fun j hj => ?_
    rw [Nat.zero_add, cell_of_row w g j _ _ _ hg]
    have h3 : (u8cells l)[j]? = some (.int .u8 (l[j].toNat : Int)) := by simp [u8cells, List.getElem?_eq_getElem hj]
    rw [← htk, List.getElem?_take] at h3
    split at h3
    · simpa using h3
    · cases h3

theorem fewOf_small (ss : List ByteArray) : ∀ s ∈ fewOf ss, s.size ≤ maxLen := by
  intro s hs
  unfold fewOf at hs
  obtain ⟨t, _, rfl⟩ := List.mem_map.1 hs
  rw [cutS_size]; unfold maxLen; omega

theorem seen_cut (L : List UInt8) (most : Int) (h0 : 0 ≤ most) : (L.take (most.toNat + 1) == ((⟨L.toArray⟩ : ByteArray).extract 0 (min (L.length : Int) (most + 1)).toNat).toList) = true := by
  rw [Lib.toList_data, Lib.extract_data, beq_iff_eq]
  simp only [List.drop_zero, Nat.sub_zero]
  apply List.take_eq_take_iff.2
  omega

theorem octetAll_walk (a : Option Addr) (len cap : Nat) (ss : List ByteArray) (most : Int) (w : World) (h : StrsArg w a len ss) (h0 : 0 ≤ most) (h1 : most ≤ 255) :
    Calls Try.prog 4 #[.slice a len cap, .int .u8 most] w fun e w' => e = .returned (.bool true) ∧ Below w.heap.size w w' := by
  obtain ⟨hlen, hmax, hsz, harg⟩ := h
  have HL := Lib.hid hlen; clear hlen
  have HS := Lib.hid hsz; clear hsz
  unfold maxLen at hmax
  have hcells : ∀ wx, Below w.heap.size w wx → ∀ j (h : j < ss.length), ∃ b o, a = some ⟨b, o, none⟩ ∧ wx.cell? ⟨b, o + j, none⟩ = some (.string ss[j]) := by
    intro wx hb j hj
    rcases harg with h0 | ⟨b, o, ha, hbs, hc⟩
    · have := HL.out; omega
    · exact ⟨b, o, ha, (hb.cell (by exact hbs)).trans (hc j hj)⟩
  have HC := Lib.hid hcells; clear hcells harg
  go_enter Try.func4, Try.ntmps4
  go_wp2_with fail
  (refine (awake1_any _).mono ?_; rintro e w1 ⟨rfl, h1⟩; have H1 := Lib.hid h1; clear h1; go_wp2_with fail)
  obtain ⟨B, hB⟩ : ∃ B, B = w1.heap.size := ⟨_, rfl⟩
  have HB := Lib.hid hB; clear hB
  go_loopw [5, 6, 7, 8] (fun al m i _ wr => ∃ k : Nat, k ≤ (fewOf ss).length ∧ i = .int .i64 k ∧ al = .string ⟨(bytesOf ((fewOf ss).take k)).toArray⟩ ∧ Hid (wr.ownsRow B 9 1 m k (strCells ((fewOf ss).take k))) ∧ Hid (Below w.heap.size w wr) ∧ Hid (B ≤ wr.heap.size)) (fun _ _ i _ _ => 10 - (intOf i).toNat)
  case atStart => exact ⟨0, Nat.zero_le _, rfl, rfl, World.ownsRow_nil _ _ _ _, H1.out, by rw [HB.out]; exact Nat.le_refl _⟩
  case round =>
    obtain ⟨k, hk, rfl, rfl, hown, hbl, hsz⟩ := hrel
    have hln : (fewOf ss).length = min 10 len := by rw [← HL.out]; simp [fewOf]
    by_cases hlt : k < len ∧ k < 10
    · obtain ⟨hlt1, hlt2⟩ := hlt
      have hks : k < ss.length := by have := HL.out; omega
      obtain ⟨b, o, ha, hcell⟩ := HC.out wr hbl.out k hks
      subst ha
      obtain ⟨hkf, hfk⟩ := fewOf_at ss k hks hlt2
      obtain ⟨s, hs⟩ : ∃ s, s = (fewOf ss)[k] := ⟨_, rfl⟩
      have hf1 := fun wx => few1_any ss[k] wx (HS.out _ (List.getElem_mem _))
      rw [← hfk, ← hs] at hf1
      have hsz2 : s.size ≤ 300 := by rw [hs, hfk, cutS_size]; omega
      have hbl3 := bytesOf_len ss k
      have hov : ¬ 9223372036854775807 < (bytesOf ((fewOf ss).take k)).length + s.size := by omega
      have HF1 := Lib.hid hf1; clear hf1
      have HFK := Lib.hid hfk; clear hfk
      have HSS := Lib.hid hs; clear hs
      have HLN := Lib.hid hln; clear hln
      go_wp2_with fail
      refine (HF1.out _).mono ?_
      rintro e w' ⟨rfl, rfl⟩
      go_wp2_with (at_builtin; refine app_one 26 9 (.string ByteArray.empty) 16 Try.underlying26 info_str rfl (by rfl) (.tmp 29) (.tmp 31) (by rfl) wr B _ k (strCells ((fewOf ss).take k)) (.string s) (by rfl) hown.out (by rfl) rfl ?_ ?_ ?_ ?_)
      · omega
      · unfold maxLen; omega
      · exact hsz.out
      intro g cp w2 hown2 hgrow hat hbg hgl
      have HO2 := Lib.hid hown2; clear hown2
      have HG := Lib.hid hgrow; clear hgrow hat
      go_wp2_with fail
      (refine (token_any s _ (by unfold maxLen; omega)).mono ?_; rintro e w3 ⟨rfl, h3⟩; have H3 := Lib.hid h3; clear h3; go_wp2_with fail)
      (refine (rToken_any s _ (by unfold maxLen; omega)).mono ?_; rintro e w' ⟨rfl, rfl⟩; go_wp2_with fail)
      go_roundw
      case rel =>
        refine ⟨k + 1, by omega, by go_num, ?_, ?_, ?_, ?_⟩
        · rw [HSS.out]; exact congrArg Value.string (bytesOf_concat _ k hkf)
        · rw [strCells_succ _ k hkf, ← HSS.out]; exact own_below HO2.out H3.out
        · have hA : w.heap.size ≤ B := by rw [HB.out]; exact H1.out.size
          have h2 := app_below hbl.out hown.out HG.out hA (Nat.le_trans hA hsz.out)
          exact h2.trans (H3.out.mono h2.size)
        · exact Nat.le_trans hsz.out (Nat.le_trans HG.out.size H3.out.size)
      case measure => simp [intOf]; omega
    · have hkk : k = (fewOf ss).length := by omega
      subst hkk
      rw [List.take_length] at *
      have hal := all_taker wr B _ most (fewOf ss) hown.out h0 (fewOf_small ss) (by have := bytesOf_len ss (fewOf ss).length; rwa [List.take_length] at this) (by unfold maxLen; omega)
      have HAL := Lib.hid hal; clear hal
      have HLN := Lib.hid hln; clear hln
      have hg : ((fewOf ss).length < len ∧ 10 ≤ (fewOf ss).length) ∨ len ≤ (fewOf ss).length := by omega
      clear hlt hk
      rcases hg with ⟨hl1, hl2⟩ | hl1
      all_goals
        go_wp2_with fail
        refine HAL.out.mono ?_
        rintro e w4 ⟨rfl, ht, hb4⟩
        obtain ⟨v, hv, _, hvo, _⟩ := ht
        have c0 : w4.cell? ⟨wr.heap.size, 0, none⟩ = some v := by rw [cell_of_row w4 _ 0 _ _ _ hv]; rfl
        have hconv : ∀ n, (convert 29 9 v).run Try.prog (w4.drewN n) = .ok (.string ⟨((bytesOf (fewOf ss)).take (most.toNat + 1)).toArray⟩) (w4.drewN n) := fun n => conv_own _ wr.heap.size _ _ hvo
        have HV := Lib.hid hv; clear hv
        have HVO := Lib.hid hvo; clear hvo
        have HB4 := Lib.hid hb4; clear hb4
        go_wp2_with fail
        go_quiet (fail)
        go_wp2
        go_ret
        refine ⟨ret_bool (seen_cut _ _ h0), below_drewN (hbl.out.trans (HB4.out.mono hbl.out.size)) _⟩

end Go.Proofs.Ythhpijmkhhdhhaa
