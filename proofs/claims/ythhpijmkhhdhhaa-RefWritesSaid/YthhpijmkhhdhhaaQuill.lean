/- Contracts of package quill. -/
import Derived.Test.YthhpijmkhhdhhaaAppend
import Derived.Lib.AppendStr
import Derived.Deep.QuietTactic
import Derived.BigQuiet
namespace Go.Proofs.Ythhpijmkhhdhhaa
open Go.RowKit
set_option linter.unusedVariables false
set_option linter.unusedSimpArgs false

def u8cells (l : List UInt8) : List Value := l.map fun c => .int .u8 (c.toNat : Int)
theorem u8cells_append (a b : List UInt8) : u8cells (a ++ b) = u8cells a ++ u8cells b := by simp [u8cells]

/-- string(v) where v owns bytes. -/
theorem conv_own (w : World) (B : Nat) (v : Value) (l : List UInt8) (h : w.ownsRow B 5 1 v l.length (u8cells l)) :
    (convert 29 9 v).run Try.prog w = .ok (.string ⟨l.toArray⟩) w := by
  rcases h.2 with ⟨rfl, hz⟩ | ⟨g, cp, cur, rfl, _, hg, hcp, _, _, htk⟩
  · have hnil : l = [] := List.eq_nil_of_length_eq_zero hz
    subst hnil
    have hnull : (convert 29 9 (.slice none 0 0)).run Try.prog w = .ok (.string ⟨#[]⟩) w := by kernel_rfl
    exact hnull
  · refine string_of_bytes w g 0 cp l fun j hj => ?_
    rw [Nat.zero_add, cell_of_row w g j _ _ _ hg]
    have h3 : (u8cells l)[j]? = some (.int .u8 (l[j].toNat : Int)) := by simp [u8cells, List.getElem?_eq_getElem hj]
    rw [← htk, List.getElem?_take] at h3
    split at h3
    · simpa using h3
    · cases h3

/-- A quill in block b: what it holds. -/
def QuillAt (w : World) (B b : Nat) (l : List UInt8) (most : Int) : Prop :=
  ∃ v, w.heap[b]? = some (.cells #[v, .int .i64 most] 106 (0, 0)) ∧ B ≤ b ∧ w.ownsRow B 5 1 v l.length (u8cells l)

/-- Only block b, and rows of type T from B on, have turned. -/
structure FrT (B b : Nat) (T : TypeId) (w w' : World) : Prop where
  os : w'.os = w.os
  tape : w'.tape = w.tape
  output : w'.output = w.output
  size : w.heap.size ≤ w'.heap.size
  block : ∀ k, k < w.heap.size → (k < B ∨ (k ≠ b ∧ ∀ cs fr, w.heap[k]? ≠ some (.cells cs T fr))) → w'.heap[k]? = w.heap[k]?

theorem FrT.refl (B b : Nat) (T : TypeId) (w : World) : FrT B b T w w := ⟨rfl, rfl, rfl, Nat.le_refl _, fun _ _ _ => rfl⟩
theorem FrT.trans {B b : Nat} {T : TypeId} {w w1 w2 : World} (h : FrT B b T w w1) (k : FrT B b T w1 w2) : FrT B b T w w2 :=
  ⟨k.os.trans h.os, k.tape.trans h.tape, k.output.trans h.output, Nat.le_trans h.size k.size, fun i hi hp => by
    have h1 := h.block i hi hp
    rw [k.block i (Nat.lt_of_lt_of_le hi h.size) (by rw [h1]; exact hp), h1]⟩
theorem FrT.ofBelow {B b : Nat} {T : TypeId} {w w1 : World} (h : Below w.heap.size w w1) : FrT B b T w w1 :=
  ⟨h.os, h.tape, h.output, h.size, fun k hk _ => h.block k hk⟩
theorem FrT.below {B b : Nat} {T : TypeId} {w w1 : World} (h : FrT B b T w w1) (hB : B ≤ w.heap.size) : Below B w w1 :=
  ⟨h.os, h.tape, h.output, h.size, fun k hk => h.block k (by omega) (.inl hk)⟩
theorem FrT.setCell {B b : Nat} {T : TypeId} {w w1 : World} (h : FrT B b T w w1) (hb : B ≤ b) (o : Nat) (u : Value) : FrT B b T w (w1.setCell ⟨b, o, none⟩ u) :=
  h.trans ⟨rfl, rfl, rfl, by simp, fun k hk hp => Below.heap_setCell _ _ _ _ (by show k ≠ b; omega)⟩
theorem FrT.drewN {B b : Nat} {T : TypeId} {w w1 : World} (h : FrT B b T w w1) (n : Nat) : FrT B b T w (w1.drewN n) :=
  ⟨h.os, h.tape, h.output, h.size, h.block⟩

theorem quill_cells {w : World} {B b : Nat} {l : List UInt8} {most : Int} (h : QuillAt w B b l most) :
    ∃ v, w.cell? ⟨b, 0, none⟩ = some v ∧ w.cell? ⟨b, 1, none⟩ = some (.int .i64 most) ∧ (∃ a c, v = .slice a l.length c) ∧ w.frozen? ⟨b, 0, none⟩ = false ∧ b < w.heap.size ∧
      (∀ n, (convert 29 9 v).run Try.prog (w.drewN n) = .ok (.string ⟨l.toArray⟩) (w.drewN n)) ∧ w.ownsRow B 5 1 v l.length (u8cells l) := by
  obtain ⟨v, hb, hB, ho⟩ := h
  refine ⟨v, by rw [cell_of_row w b 0 _ _ _ hb]; rfl, by rw [cell_of_row w b 1 _ _ _ hb]; rfl, ?_, frozen_of_row w b 0 _ _ hb, lt_of_block hb, fun n => conv_own (w.drewN n) B v l ho, ho⟩
  rcases ho.2 with ⟨rfl, hz⟩ | ⟨g, cp, cur, rfl, _⟩
  · exact ⟨none, 0, by rw [hz]⟩
  · exact ⟨_, _, rfl⟩

theorem quill_new (most : Int) (w : World) (h0 : -9223372036854775808 ≤ most) (h1 : most ≤ 9223372036854775807) :
    Calls Try.prog 52 #[.int .i64 most] w fun e w' => e = .returned (.pointer (some ⟨w.heap.size, 0, none⟩)) ∧ w.alloc (.cells #[.slice none 0 0, .int .i64 (max most 0)] 106) = w' := by
  go_enter Try.func52, Try.ntmps52
  go_wp2
  go_ret
  exact ⟨rfl, rfl⟩

theorem quillAt_new (most : Int) (w : World) (B : Nat) (hB : B ≤ w.heap.size) : QuillAt (w.alloc (.cells #[.slice none 0 0, .int .i64 most] 106)) B w.heap.size [] most :=
  ⟨.slice none 0 0, heap_alloc_new w _, hB, World.ownsRow_nil _ _ _ _⟩

theorem quill_left (w : World) (B b : Nat) (l : List UInt8) (most : Int) (h : QuillAt w B b l most) (h0 : 0 ≤ most) (h1 : most ≤ 9223372036854775807) (hl : (l.length : Int) ≤ most) :
    Calls Try.prog 60 #[.pointer (some ⟨b, 0, none⟩)] w fun e w' => e = .returned (.int .i64 (most - l.length)) ∧ ∃ n, w' = w.drewN n := by
  obtain ⟨v, c0, c1, ⟨a, c, hv⟩, _, _, _, _⟩ := quill_cells h
  subst hv
  go_enter Try.func60, Try.ntmps60
  go_wp2
  go_quiet (fail)
  go_wp2
  go_ret
  exact ⟨rfl, _, rfl⟩

theorem quill_len (w : World) (B b : Nat) (l : List UInt8) (most : Int) (h : QuillAt w B b l most) :
    Calls Try.prog 59 #[.pointer (some ⟨b, 0, none⟩)] w fun e w' => e = .returned (.int .i64 l.length) ∧ w = w' := by
  obtain ⟨v, c0, c1, ⟨a, c, hv⟩, _, _, _, _⟩ := quill_cells h
  subst hv
  go_enter Try.func59, Try.ntmps59
  go_wp2
  go_ret
  exact ⟨rfl, rfl⟩

theorem quill_text (w : World) (B b : Nat) (l : List UInt8) (most : Int) (h : QuillAt w B b l most) :
    Calls Try.prog 58 #[.pointer (some ⟨b, 0, none⟩)] w fun e w' => e = .returned (.string ⟨l.toArray⟩) ∧ w = w' := by
  obtain ⟨v, c0, c1, _, _, _, hc, _⟩ := quill_cells h
  have hc0 : (convert 29 9 v).run Try.prog w = .ok (.string ⟨l.toArray⟩) w := hc 0
  clear hc
  go_enter Try.func58, Try.ntmps58
  go_wp2
  go_ret
  exact ⟨rfl, rfl⟩

theorem quillAt_frT {w w1 : World} {B b : Nat} {l : List UInt8} {most : Int} (h : QuillAt w B b l most) (hb : Below w.heap.size w w1) : QuillAt w1 B b l most := by
  obtain ⟨v, hv, hB, ho⟩ := h
  exact ⟨v, by rw [hb.block b (lt_of_block hv)]; exact hv, hB, own_below ho hb⟩

/-- What a row of bytes at v is, its block is no block of another type. -/
theorem own_ne {w : World} {B : Nat} {e : TypeId} {size : Nat} {v : Value} {n : Nat} {xs : List Value} (h : w.ownsRow B e size v n xs) {b : Nat} {cs : Array Value} {t : TypeId} {fr : Nat × Nat} (hb : w.heap[b]? = some (.cells cs t fr)) (ht : e ≠ t) : v.ownBlock ≠ some b := by
  intro e0
  rcases h.2 with ⟨rfl, _⟩ | ⟨g, cp, cur, rfl, _, hg, _⟩
  · simp [Value.ownBlock] at e0
  · simp [Value.ownBlock] at e0
    subst e0
    rw [hb] at hg
    injection hg with hg; injection hg with _ hg _; exact ht hg.symm

/-- An append onto a row of type e turns only rows of that type. -/
theorem frT_grown {w w' : World} {B b : Nat} {e : TypeId} {size : Nat} {v : Value} {n : Nat} {xs : List Value} (h : w.ownsRow B e size v n xs) (hg : w.grownBy w' v.ownBlock) : FrT B b e w w' :=
  ⟨hg.os, hg.tape, hg.output, hg.size, fun k hk hp => hg.block k hk fun e0 => by
    rcases h.2 with ⟨rfl, _⟩ | ⟨g, cp, cur, rfl, hB, hh, _⟩
    · simp [Value.ownBlock] at e0
    · simp [Value.ownBlock] at e0
      subst e0
      rcases hp with hp | hp
      · omega
      · exact hp.2 _ _ hh⟩

theorem quill_take (w : World) (B b : Nat) (l : List UInt8) (most : Int) (h : QuillAt w B b l most) :
    Calls Try.prog 53 #[.pointer (some ⟨b, 0, none⟩)] w fun e w' => e = .returned (.string ⟨l.toArray⟩) ∧ QuillAt w' B b [] most ∧ FrT B b 5 w w' := by
  have hq := h
  obtain ⟨v, c0, c1, ⟨va, vc, hv⟩, hf, hbs, _, _⟩ := quill_cells h
  have hB : B ≤ b := by obtain ⟨_, _, hB, _⟩ := h; exact hB
  have hb : w.heap[b]? = some (.cells #[v, .int .i64 most] 106 (0, 0)) := by
    obtain ⟨v', hv', _⟩ := h
    have : w.cell? ⟨b, 0, none⟩ = some v' := by rw [cell_of_row w b 0 _ _ _ hv']; rfl
    rw [c0] at this; injection this with this; rw [this]; exact hv'
  subst hv
  have HQ := Lib.hid hq; clear hq h
  have HBB := Lib.hid hb; clear hb
  go_enter Try.func53, Try.ntmps53
  go_wp2_with fail
  (refine (quill_text w B b l most HQ.out).mono ?_; rintro e w' ⟨rfl, rfl⟩; go_wp2_with fail)
  go_ret
  refine ⟨rfl, ⟨.slice none 0 0, heap_setCell_at HBB.out 0 _, hB, World.ownsRow_nil _ _ _ _⟩, (FrT.refl _ _ _ _).setCell hB _ _⟩

/-- Texts in memory that a quill's writing does not reach: old memory, or a row of texts. -/
def StrsIn (w : World) (B : Nat) (a : Option Addr) (ss : List ByteArray) : Prop :=
  ss = [] ∨ ∃ g o, a = some ⟨g, o, none⟩ ∧ g < w.heap.size ∧ (g < B ∨ ∃ cs fr, w.heap[g]? = some (.cells cs 9 fr)) ∧ ∀ j (h : j < ss.length), w.cell? ⟨g, o + j, none⟩ = some (.string ss[j])

theorem strsIn_fr {w w1 : World} {B b : Nat} {a : Option Addr} {ss : List ByteArray} (h : StrsIn w B a ss) (hf : FrT B b 5 w w1) {cs : Array Value} {t : TypeId} {fr : Nat × Nat} (hb : w.heap[b]? = some (.cells cs t fr)) (ht : t ≠ 9) (hB : B ≤ b) : StrsIn w1 B a ss := by
  rcases h with h | ⟨g, o, ha, hg, hk, hc⟩
  · exact .inl h
  · have hsame : w1.heap[g]? = w.heap[g]? := by
      refine hf.block g hg ?_
      rcases hk with hk | ⟨cs', fr', hk⟩
      · exact .inl hk
      · right
        refine ⟨fun e => ?_, fun cs2 fr2 e => ?_⟩
        · subst e; rw [hb] at hk; injection hk with hk; injection hk with _ hk _; exact ht hk
        · rw [hk] at e; injection e with e; injection e with _ e _; exact absurd e (by decide)
    refine .inr ⟨g, o, ha, Nat.lt_of_lt_of_le hg hf.size, by rw [hsame]; exact hk, fun j hj => ?_⟩
    rw [World.cell?_of_block (w := w) (w' := w1) (a := ⟨g, o + j, none⟩) hsame]
    exact hc j hj

theorem own_form {w : World} {B : Nat} {e : TypeId} {size : Nat} {v : Value} {n : Nat} {xs : List Value} (h : w.ownsRow B e size v n xs) : ∃ a c, v = .slice a n c := by
  rcases h.2 with ⟨rfl, hz⟩ | ⟨g, cp, cur, rfl, _⟩
  · exact ⟨none, 0, by rw [hz]⟩
  · exact ⟨_, _, rfl⟩

def putOk (l : List UInt8) (most : Int) (ss : List ByteArray) : Bool := decide ((l.length : Int) + (bytesOf ss).length ≤ most)

def putL (l : List UInt8) (most : Int) (ss : List ByteArray) : List UInt8 := if putOk l most ss then l ++ bytesOf ss else l
def putE (l : List UInt8) (most : Int) (ss : List ByteArray) : Int := if putOk l most ss then 0 else 10
def PutPost (w : World) (B b : Nat) (l : List UInt8) (most : Int) (ss : List ByteArray) (e : Ending) (w' : World) : Prop :=
  e = .returned (.int .i64 (putE l most ss)) ∧ QuillAt w' B b (putL l most ss) most ∧ FrT B b 5 w w'

theorem bytesOf_take_le (ss : List ByteArray) (k : Nat) : (bytesOf (ss.take k)).length ≤ (bytesOf ss).length := by
  have : bytesOf ss = bytesOf (ss.take k) ++ bytesOf (ss.drop k) := by
    unfold bytesOf
    rw [← List.flatten_append, ← List.map_append, List.take_append_drop]
  rw [this]; simp

theorem quill_put (w : World) (B b : Nat) (l : List UInt8) (most : Int) (a : Option Addr) (cap : Nat) (ss : List ByteArray) (h : QuillAt w B b l most) (h0 : 0 ≤ most) (h1 : most ≤ 9223372036854775807) (hl : (l.length : Int) ≤ most) (hlt0 : l.length + (bytesOf ss).length ≤ 1000000)
    (hs : StrsIn w B a ss) (hn : ss.length ≤ maxLen) (hsz : ∀ s ∈ ss, s.size ≤ maxLen) :
    Calls Try.prog 56 #[.pointer (some ⟨b, 0, none⟩), .slice a ss.length cap] w (PutPost w B b l most ss) := by
  unfold maxLen at hn
  have HQ := Lib.hid h; clear h
  have HS := Lib.hid hs; clear hs
  have HZ := Lib.hid hsz; clear hsz
  go_enter Try.func56, Try.ntmps56
  go_wp2_with fail
  refine (quill_left w B b l most HQ.out h0 h1 hl).mono ?_
  rintro e w1 ⟨rfl, nd, rfl⟩
  go_wp2_with fail
  go_loop [5, 7, 16] (fun lf _ i => ∃ k : Nat, k ≤ ss.length ∧ i = .int .i64 k ∧ lf = .int .i64 (most - l.length - (bytesOf (ss.take k)).length) ∧ (bytesOf (ss.take k)).length ≤ most - l.length) (fun _ _ i => ss.length - (intOf i).toNat)
  case atStart => exact ⟨0, Nat.zero_le _, rfl, by simp [bytesOf], by simp [bytesOf]; omega⟩
  case round =>
    obtain ⟨k, hk, rfl, rfl, hle⟩ := hrel
    by_cases hlt : k < ss.length
    · have hcell : ∃ g o, a = some ⟨g, o, none⟩ ∧ w.cell? ⟨g, o + k, none⟩ = some (.string ss[k]) := by
        rcases HS.out with h | ⟨g, o, ha, _, _, hc⟩
        · rw [h] at hlt; simp at hlt
        · exact ⟨g, o, ha, hc k hlt⟩
      obtain ⟨g, o, rfl, hcell⟩ := hcell
      have hsk := HZ.out _ (List.getElem_mem hlt)
      unfold maxLen at hsk
      have hst := bytesOf_take_succ ss k hlt
      have HST := Lib.hid hst; clear hst
      have hbs := Lib.size_eq ss[k]
      have HBS := Lib.hid hbs; clear hbs
      by_cases hgt : most - (l.length : Int) - (bytesOf (ss.take k)).length < ss[k].size
      · go_wp2_with fail
        go_ret
        have hno : putOk l most ss = false := by
          have h1 := bytesOf_take_le ss (k + 1)
          rw [HST.out, List.length_append, ← HBS.out] at h1
          unfold putOk
          simp; omega
        refine ⟨ret_int (by rw [putE, hno]; rfl), by rw [putL, hno]; exact HQ.out, (FrT.refl _ _ _ _).drewN _⟩
      · go_wp2_with fail
        go_round
        case rel => exact ⟨k + 1, by omega, by go_num, congrArg (Value.int .i64) (by rw [HST.out, List.length_append, ← HBS.out]; omega), by rw [HST.out, List.length_append, ← HBS.out]; omega⟩
        case measure => simp [intOf]; omega
    · obtain rfl : k = ss.length := by omega
      rw [List.take_length] at hle
      have hyes : putOk l most ss = true := by unfold putOk; simp; omega
      have HY := Lib.hid hyes; clear hyes
      go_wp2_with fail
      go_loopw [9, 31] (fun _ i wr => ∃ k : Nat, k ≤ ss.length ∧ i = .int .i64 k ∧ Hid (QuillAt wr B b (l ++ bytesOf (ss.take k)) most) ∧ Hid (FrT B b 5 w wr)) (fun _ i _ => ss.length - (intOf i).toNat)
      case atStart => exact ⟨0, Nat.zero_le _, rfl, by rw [List.take_zero, show bytesOf [] = [] from rfl, List.append_nil]; exact HQ.out, (FrT.refl _ _ _ _).drewN _⟩
      case round =>
        obtain ⟨k, hk, rfl, hq, hfr⟩ := hrel
        by_cases hlt : k < ss.length
        · have hqb := HQ.out
          obtain ⟨v0, hv0, hB, _⟩ := hqb
          have hss := strsIn_fr HS.out hfr.out hv0 (by decide) hB
          have hcell : ∃ g o, a = some ⟨g, o, none⟩ ∧ wr.cell? ⟨g, o + k, none⟩ = some (.string ss[k]) := by
            rcases hss with h | ⟨g, o, ha, _, _, hc⟩
            · rw [h] at hlt; simp at hlt
            · exact ⟨g, o, ha, hc k hlt⟩
          obtain ⟨g, o, rfl, hcell⟩ := hcell
          have hst := bytesOf_take_succ ss k hlt
          have hbs := Lib.size_eq ss[k]
          have hle3 : (l ++ bytesOf (ss.take k)).length + ss[k].size ≤ 1000000 := by
            have h1 := bytesOf_take_le ss (k + 1)
            rw [hst, List.length_append, ← hbs] at h1
            rw [List.length_append]; omega
          have HST := Lib.hid hst; clear hst
          have HBS := Lib.hid hbs; clear hbs
          have hq2 := hq.out
          obtain ⟨L, hL⟩ : ∃ L, L = l ++ bytesOf (ss.take k) := ⟨_, rfl⟩
          rw [← hL] at hq2 hle3
          have HL := Lib.hid hL; clear hL
          obtain ⟨v, hv, _, hown⟩ := hq2
          obtain ⟨va, vc, hvf⟩ := own_form hown
          have c0 : wr.cell? ⟨b, 0, none⟩ = some v := by rw [cell_of_row wr b 0 _ _ _ hv]; rfl
          have hbb := lt_of_block hv
          subst hvf
          have HV := Lib.hid hv; clear hv
          clear hv0 hss
          have HO := Lib.hid hown; clear hown
          obtain ⟨i0, hi, hz0, hz1, hz2⟩ := info_parts info_u8
          go_wp2_with (at_builtin; go_loud (refine Lib.wpList_append_own_string wr (by rfl) (.tmp 39) (.tmp 40) 29 9 (by rfl) B 5 i0 Try.underlying29 Try.underlying9 hi hz0 hz1 hz2 _ _ _ (by rfl) HO.out ss[k] (by rfl) ?_ ?_ ?_ ?_))
          · unfold maxLen; omega
          · omega
          · omega
          intro v1 w1 hown1 hgrow _
          obtain ⟨v1a, v1c, hv1⟩ := own_form hown1
          have hb1 : w1.heap[b]? = some (.cells #[.slice va L.length vc, .int .i64 most] 106 (0, 0)) := by
            rw [hgrow.block b hbb (fun e => own_ne HO.out HV.out (by decide) e.symm)]; exact HV.out
          have d0 : w1.cell? ⟨b, 0, none⟩ = some (.slice va L.length vc) := by rw [cell_of_row w1 b 0 _ _ _ hb1]; rfl
          have d2 : w1.frozen? ⟨b, 0, none⟩ = false := frozen_of_row w1 b 0 _ _ hb1
          have HB1 := Lib.hid hb1; clear hb1
          have HG := Lib.hid hgrow; clear hgrow
          have HO1 := Lib.hid hown1; clear hown1
          subst hv1
          go_wp2_with fail
          go_roundw
          case rel =>
            refine ⟨k + 1, by omega, by go_num, ?_, ?_⟩
            · have hl2 : l ++ bytesOf (ss.take (k + 1)) = L ++ ss[k].data.toList := by rw [HST.out, HL.out, List.append_assoc]
              have h1 := HO1.out
              rw [show Lib.strCells ss[k] = u8cells ss[k].data.toList from rfl, ← u8cells_append, ← hl2] at h1
              have h2 : L.length + ss[k].size = (l ++ bytesOf (ss.take (k + 1))).length := by rw [hl2, List.length_append, ← HBS.out]
              rw [h2] at h1 ⊢
              exact ⟨_, heap_setCell_at HB1.out 0 _, hB, ownsRow_setCell_other h1 (own_ne h1 HB1.out (by decide)) _⟩
            · exact hfr.out.trans ((frT_grown HO.out HG.out).setCell hB 0 _)
          case measure => simp [intOf]; omega
        · obtain rfl : k = ss.length := by omega
          rw [List.take_length] at hq
          go_wp2_with fail
          go_ret
          exact ⟨ret_int (by rw [putE, HY.out]; rfl), by rw [putL, HY.out]; exact hq.out, hfr.out⟩

end Go.Proofs.Ythhpijmkhhdhhaa
