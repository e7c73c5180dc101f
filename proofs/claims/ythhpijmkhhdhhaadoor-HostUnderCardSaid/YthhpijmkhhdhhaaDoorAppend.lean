/- Laws for append of one element onto a slice of the call's own, at the element types of this program. -/
import Derived.Test.YthhpijmkhhdhhaaDoorAll
import Derived.Deep.AppendLies
import Derived.OneCell
namespace Go.Proofs.YthhpijmkhhdhhaaDoor
open Go.RowKit
set_option linter.unusedVariables false
set_option linter.unusedSimpArgs false

theorem info_u8 : (Tryd.prog.info? 5).map (fun i => (i.zero, i.size, i.bytes)) = some (some (.int .u8 0), 1, 1) := by kernel_rfl
theorem info_str : (Tryd.prog.info? 9).map (fun i => (i.zero, i.size, i.bytes)) = some (some (.string ByteArray.empty), 1, 16) := by kernel_rfl

/-- A block that is known whole, behind a store into it. -/
theorem heap_setCell_at {w : World} {b : Nat} {cs : Array Value} {t : TypeId} {fr : Nat × Nat} (h : w.heap[b]? = some (.cells cs t fr)) (j : Nat) (u : Value) :
    (w.setCell ⟨b, j, none⟩ u).heap[b]? = some (.cells (cs.setIfInBounds j u) t fr) := by
  have hlt := lt_of_block h
  have h' : w.heap[b] = .cells cs t fr := by simpa [Array.getElem?_eq_getElem hlt] using h
  show (w.heap.modify b _)[b]? = _
  rw [Array.getElem?_eq_getElem (by simpa using hlt), Array.getElem_modify_self, h']
  rfl

/-- append(s, x), one element of one cell, which the walk has just laid into a block of its own. -/
theorem app_one {ops : Array Oper} {rest : List Oper} {o : Oper} {a : Act} {Q : Exit → Act → World → Prop} (T E : TypeId) (z : Value) (bytes : Nat)
    (hT : Tryd.prog.underlying T = some (.slice E)) (hI : (Tryd.prog.info? E).map (fun i => (i.zero, i.size, i.bytes)) = some (some z, 1, bytes)) (hz : z.cells.size = 1)
    (hgd : o.guard = none) (s x : Operand) (ho : o.op = .call { callee := .builtin .append, args := #[s, x], argTypes := #[T, T] })
    (w : World) (base : Nat) (v : Value) (n : Nat) (xs : List Value) (u : Value) (hs : a.eval s = v) (hown : w.ownsRow base E 1 v n xs)
    (hx : a.eval x = .slice (some ⟨w.heap.size, 0, none⟩) 1 1) (h1 : u.oneCell' = true) (hb : (n + 1) * bytes ≤ 140737488355328) (hn : n + 1 ≤ maxLen) (hbase : base ≤ w.heap.size)
    (h : ∀ g cap w', w'.ownsRow base E 1 (.slice (some ⟨g, 0, none⟩) (n + 1) cap) (n + 1) (xs ++ [u]) → w.grownBy w' v.ownBlock → (v.ownBlock = some g ∨ g = w.heap.size + 1) → base ≤ g → g < w'.heap.size →
      wpList Tryd.prog ops Q rest (a.put o.dst (.slice (some ⟨g, 0, none⟩) (n + 1) cap)) w') : wpList Tryd.prog ops Q (o :: rest) a (w.alloc (.cells #[u] E)) := by
  obtain ⟨i, hi, hz0, hz1, hz2⟩ := info_parts hI
  refine wpList_append_lies (w.alloc (.cells #[u] E)) hgd s x T ho base E i z 1 bytes hT hi hz0 hz1 hz2 hz (by decide) v n xs hs (hown.alloc _) ⟨w.heap.size, 0, none⟩ 1 1 [u] hx rfl ?_ ?_ (by decide) hn hb (by simp; omega) (w.heap.size + 1) (by simp) ?_
  · exact World.news_of_block (heap_alloc_new w _)
  · intro u' hu'; simp at hu'; subst hu'; exact h1
  · intro g cap w' ho' hg hat hlt
    have hbg : base ≤ g := by
      rcases ho'.2 with ⟨h0, _⟩ | ⟨g', _, _, h0, hb, _⟩
      · cases h0
      · injection h0 with h0; injection h0 with h0; injection h0 with h0; omega
    have hg2 : w.grownBy w' v.ownBlock := ⟨hg.os, hg.tape, hg.output, by have := hg.size; simp at this; omega, fun k hk hne => by
      rw [hg.block k (by simp; omega) hne]; exact Below.heap_alloc _ _ _ hk⟩
    exact h g cap w' ho' hg2 hat hbg hlt

/-- An argument of type []string: its texts. -/
def StrsArg (w : World) (a : Option Addr) (len : Nat) (ss : List ByteArray) : Prop :=
  ss.length = len ∧ len ≤ maxLen ∧ (∀ s ∈ ss, s.size ≤ maxLen) ∧ (len = 0 ∨ ∃ b o, a = some ⟨b, o, none⟩ ∧ b < w.heap.size ∧ ∀ j (h : j < ss.length), w.cell? ⟨b, o + j, none⟩ = some (.string ss[j]))

/-- The same at a step of a region that draws its order: the element lies in block H. -/
theorem step_app_one {ops : Array Oper} {o : Oper} {a : Act} {K : Act → World → Prop} {Q : Exit → Act → World → Prop} {X : Prop} (T E : TypeId) (z : Value) (size bytes : Nat)
    (hT : Tryd.prog.underlying T = some (.slice E)) (hI : (Tryd.prog.info? E).map (fun i => (i.zero, i.size, i.bytes)) = some (some z, size, bytes)) (hz : z.cells.size = size) (hsz : 0 < size)
    (hgd : o.guard = none) (s x : Operand) (ho : o.op = .call { callee := .builtin .append, args := #[s, x], argTypes := #[T, T] })
    (w : World) (base : Nat) (v : Value) (n : Nat) (xs : List Value) (us : List Value) (hul : us.length = 1 * size) (hs : a.eval s = v) (hown : w.ownsRow base E size v n xs)
    (H : Nat) (hx : a.eval x = .slice (some ⟨H, 0, none⟩) 1 1) (hH : w.heap[H]? = some (.cells us.toArray E (0, 0))) (h1 : ∀ u ∈ us, u.oneCell' = true) (hb : (n + 1) * bytes ≤ 140737488355328) (hn : n + 1 ≤ maxLen) (hbase : base ≤ w.heap.size)
    (h : ∀ g cap w', w'.ownsRow base E size (.slice (some ⟨g, 0, none⟩) (n + 1) cap) (n + 1) (xs ++ us) → w.grownBy w' v.ownBlock → (v.ownBlock = some g ∨ g = w.heap.size) → g < w'.heap.size →
      K (a.put o.dst (.slice (some ⟨g, 0, none⟩) (n + 1) cap)) w') : if Region.wanted o (yielded ops a.tmps) = true then Oper.wp Tryd.prog o a w K Q else X := by
  obtain ⟨i, hi, hz0, hz1, hz2⟩ := info_parts hI
  exact step_append_lies w hgd s x T ho base E i z size bytes hT hi hz0 hz1 hz2 hz hsz v n xs hs hown ⟨H, 0, none⟩ 1 1 us hx hul (World.news_of_block hH) h1 (by decide) hn hb hbase w.heap.size rfl h

theorem bytesOf_concat (l : List ByteArray) (k : Nat) (h : k < l.length) : (⟨(bytesOf (l.take k)).toArray⟩ ++ l[k] : ByteArray) = ⟨(bytesOf (l.take (k + 1))).toArray⟩ := by
  rw [bytesOf_take_succ l k h]
  apply ByteArray.ext
  rw [ByteArray.data_append]
  simp

/-- What is owned stays owned behind a call that turns nothing that was there. -/
theorem own_below {w w' : World} {base : Nat} {e : TypeId} {size : Nat} {v : Value} {n : Nat} {xs : List Value} (h : w.ownsRow base e size v n xs) (hb : Below w.heap.size w w') : w'.ownsRow base e size v n xs :=
  h.kept (row := none) ⟨hb.os, hb.tape, hb.output, hb.size, fun k hk _ => hb.block k hk⟩ (by cases v.ownBlock <;> simp)

/-- An append onto a row that the call owns turns nothing below. -/
theorem app_below {A : Nat} {w0 w w' : World} {base : Nat} {e : TypeId} {size : Nat} {v : Value} {n : Nat} {xs : List Value} (h : Below A w0 w) (hown : w.ownsRow base e size v n xs) (hg : w.grownBy w' v.ownBlock) (hA : A ≤ base) (hA2 : A ≤ w.heap.size) : Below A w0 w' :=
  h.grown hg hA2 fun k hk => by have := (hown.lt k hk).1; omega

end Go.Proofs.YthhpijmkhhdhhaaDoor
