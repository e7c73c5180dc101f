/- Texts cut at a byte: plain laws. -/
import Derived.Test.YthhpijmkhhdhhaaDoorPure
import Derived.Lib.IndexBytes
import Derived.Lib.Split
import Derived.Lib.SplitLaws
import Derived.Lib.Join
namespace Go.Proofs.YthhpijmkhhdhhaaDoor
open Go
set_option linter.unusedVariables false
set_option linter.unusedSimpArgs false

/-- What stands between a byte and the next one. -/
def partsL (c : UInt8) : List UInt8 → List (List UInt8)
  | [] => [[]]
  | x :: r => if x = c then [] :: partsL c r else match partsL c r with
    | [] => [[x]]
    | p :: ps => (x :: p) :: ps

theorem partsL_ne (c : UInt8) (l : List UInt8) : partsL c l ≠ [] := by
  cases l with
  | nil => simp [partsL]
  | cons x r => rw [partsL]; split; simp; split <;> simp
theorem partsL_all {c : UInt8} : ∀ (A : List UInt8), (∀ x ∈ A, x ≠ c) → partsL c A = [A]
  | [], _ => rfl
  | x :: r, h => by
    rw [partsL, if_neg (h x (List.mem_cons_self ..)), partsL_all r (fun y hy => h y (List.mem_cons_of_mem _ hy))]
theorem partsL_hit {c : UInt8} : ∀ (A r : List UInt8), (∀ x ∈ A, x ≠ c) → partsL c (A ++ c :: r) = A :: partsL c r
  | [], r, _ => by rw [List.nil_append, partsL, if_pos rfl]
  | x :: A, r, h => by
    rw [List.cons_append, partsL, if_neg (h x (List.mem_cons_self ..)), partsL_hit A r (fun y hy => h y (List.mem_cons_of_mem _ hy))]
theorem partsL_mem {c : UInt8} : ∀ (l : List UInt8), ∀ p ∈ partsL c l, ∀ x ∈ p, x ≠ c
  | [], p, hp, x, hx => by simp [partsL] at hp; subst hp; simp at hx
  | y :: r, p, hp, x, hx => by
    have ih := partsL_mem (c := c) r
    rw [partsL] at hp
    by_cases hy : y = c
    · rw [if_pos hy] at hp
      rcases List.mem_cons.1 hp with rfl | hp
      · simp at hx
      · exact ih p hp x hx
    · rw [if_neg hy] at hp
      cases hq : partsL c r with
      | nil => exact absurd hq (partsL_ne c r)
      | cons q qs =>
        rw [hq] at hp ih
        rcases List.mem_cons.1 hp with rfl | hp
        · rcases List.mem_cons.1 hx with rfl | hx
          · exact hy
          · exact ih q (List.mem_cons_self ..) x hx
        · exact ih p (List.mem_cons_of_mem _ hp) x hx
theorem partsL_join (c : UInt8) : ∀ (l : List UInt8), Lib.join (partsL c l) [c] = l
  | [] => rfl
  | y :: r => by
    have ih := partsL_join c r
    rw [partsL]
    cases hq : partsL c r with
    | nil => exact absurd hq (partsL_ne c r)
    | cons q qs =>
      rw [hq, Lib.join_cons] at ih
      by_cases hy : y = c
      · subst hy
        rw [if_pos rfl, Lib.join_cons]
        show [] ++ Lib.joinTail [y] (q :: qs) = _
        have : Lib.joinTail [y] (q :: qs) = y :: (q ++ Lib.joinTail [y] qs) := by simp [Lib.joinTail]
        rw [this, ih]; rfl
      · rw [if_neg hy, Lib.join_cons, List.cons_append, ih]
theorem partsL_of_join {c : UInt8} : ∀ (ps : List (List UInt8)), ps ≠ [] → (∀ p ∈ ps, ∀ x ∈ p, x ≠ c) → partsL c (Lib.join ps [c]) = ps
  | [], h, _ => absurd rfl h
  | [p], _, h => by rw [Lib.join_one]; exact partsL_all p (h p (List.mem_cons_self ..))
  | p :: q :: r, _, h => by
    have ih := partsL_of_join (q :: r) (by simp) (fun p hp => h p (List.mem_cons_of_mem _ hp))
    have e : Lib.join (p :: q :: r) [c] = p ++ c :: Lib.join (q :: r) [c] := by
      rw [Lib.join_cons, Lib.join_cons]
      simp [Lib.joinTail]
    rw [e, partsL_hit p _ (h p (List.mem_cons_self ..)), ih]
theorem partsL_len {c : UInt8} : ∀ (l : List UInt8), (partsL c l).length ≤ l.length + 1
  | [] => by simp [partsL]
  | y :: r => by
    have ih := partsL_len (c := c) r
    rw [partsL]
    split
    · simp; omega
    · cases hq : partsL c r with
      | nil => simp
      | cons q qs => rw [hq] at ih; simp at ih ⊢; omega
theorem partsL_size {c : UInt8} : ∀ (l : List UInt8), ∀ p ∈ partsL c l, p.length ≤ l.length
  | [], p, hp => by simp [partsL] at hp; subst hp; simp
  | y :: r, p, hp => by
    have ih := partsL_size (c := c) r
    rw [partsL] at hp
    by_cases hy : y = c
    · rw [if_pos hy] at hp
      rcases List.mem_cons.1 hp with rfl | hp
      · simp
      · have := ih p hp; simp; omega
    · rw [if_neg hy] at hp
      cases hq : partsL c r with
      | nil => exact absurd hq (partsL_ne c r)
      | cons q qs =>
        rw [hq] at hp ih
        rcases List.mem_cons.1 hp with rfl | hp
        · have := ih q (List.mem_cons_self ..); simp; omega
        · have := ih p (List.mem_cons_of_mem _ hp); simp; omega
theorem partsL_one {c : UInt8} {l : List UInt8} (h : (partsL c l).length = 1) : ∀ x ∈ l, x ≠ c := by
  match hp : partsL c l, h with
  | [p], _ =>
    have h1 := partsL_join c l
    rw [hp, Lib.join_one] at h1
    subst h1
    exact partsL_mem p p (by rw [hp]; exact List.mem_cons_self ..)

/-- The place of the first such byte. -/
def markN (c : UInt8) (l : List UInt8) : Nat := (l.takeWhile (fun x => x != c)).length
theorem markN_le (c : UInt8) (l : List UInt8) : markN c l ≤ l.length := (List.takeWhile_prefix _).length_le
theorem take_mark (c : UInt8) (l : List UInt8) : l.take (markN c l) = l.takeWhile (fun x => x != c) := by
  unfold markN
  have h := List.takeWhile_append_dropWhile (p := fun x => x != c) (l := l)
  conv => lhs; arg 2; rw [← h]
  rw [List.take_left']
  rfl
theorem markN_no {c : UInt8} {l : List UInt8} : ∀ x ∈ l.take (markN c l), x ≠ c := by
  rw [take_mark]
  intro x hx
  have h := List.all_eq_true.1 (List.all_takeWhile (p := fun x => x != c) (l := l)) x hx
  simpa using h
theorem markN_cons (c x : UInt8) (r : List UInt8) : markN c (x :: r) = if x = c then 0 else markN c r + 1 := by
  unfold markN
  by_cases h : x = c
  · rw [if_pos h, List.takeWhile_cons_of_neg (by simp [h])]; rfl
  · rw [if_neg h, List.takeWhile_cons_of_pos (by simp [h])]; rfl
theorem markN_at {c : UInt8} : ∀ {l : List UInt8}, markN c l < l.length → l = l.take (markN c l) ++ c :: l.drop (markN c l + 1)
  | [], h => by simp [markN] at h
  | x :: r, h => by
    rw [markN_cons] at h ⊢
    by_cases hx : x = c
    · rw [if_pos hx]; subst hx; rfl
    · rw [if_neg hx] at h ⊢
      have := markN_at (c := c) (l := r) (by simp at h; omega)
      rw [List.take_succ_cons, List.drop_succ_cons, List.cons_append, ← this]
theorem markN_all {c : UInt8} {l : List UInt8} (h : ¬ markN c l < l.length) : l.take (markN c l) = l := List.take_of_length_le (by omega)
theorem markN_hit {c : UInt8} (A r : List UInt8) (h : ∀ x ∈ A, x ≠ c) : markN c (A ++ c :: r) = A.length := by
  unfold markN
  rw [List.takeWhile_append_of_pos (by intro x hx; simpa using h x hx), List.takeWhile_cons_of_neg (by simp)]
  simp
theorem markN_none {c : UInt8} {A : List UInt8} (h : ∀ x ∈ A, x ≠ c) : markN c A = A.length := by
  unfold markN
  have := List.takeWhile_append_of_pos (p := fun x => x != c) (l₁ := A) (l₂ := []) (by intro x hx; simpa using h x hx)
  simp at this
  rw [this]

theorem indexByte_mark (c : UInt8) : ∀ (l : List UInt8), Lib.indexByte l c = if markN c l < l.length then (markN c l : Int) else -1
  | [] => rfl
  | x :: r => by
    have ih := indexByte_mark c r
    show (if x == c then (0 : Int) else if Lib.indexByte r c == -1 then -1 else Lib.indexByte r c + 1) = _
    rw [markN_cons]
    by_cases hx : x = c
    · simp [hx]
    · have hm := markN_le c r
      by_cases hk : markN c r < r.length
      · rw [if_pos hk] at ih
        have h1 : ¬ ((markN c r : Int) == -1) = true := by simp <;> omega
        have h2 : markN c r + 1 < (x :: r).length := by simp; omega
        rw [ih, if_neg hx, if_neg h1, if_pos h2, if_neg (by simp [hx])]
        omega
      · rw [if_neg hk] at ih
        have h2 : ¬ markN c r + 1 < (x :: r).length := by simp; omega
        rw [ih, if_neg hx, if_neg h2, if_neg (by simp [hx])]
        rfl

theorem cut_mark (l : List UInt8) (c : UInt8) : Lib.cut l [c] = (l.take (markN c l), l.drop (markN c l + 1), decide (markN c l < l.length)) := by
  unfold Lib.cut
  rw [Lib.index_one, indexByte_mark]
  by_cases h : markN c l < l.length
  · rw [if_pos h, if_pos (by omega)]
    simp [h]
  · rw [if_neg h, if_neg (by decide), markN_all h, List.drop_of_length_le (by omega)]
    simp [h]

theorem splitK_parts (c : UInt8) : ∀ (k : Nat) (l : List UInt8), l.count c = k → Lib.splitK [c] 0 k l = partsL c l
  | 0, l, h => by
    show [l] = _
    rw [partsL_all l (fun x hx e => by subst e; have := List.count_pos_iff.2 hx; omega)]
  | k + 1, l, h => by
    rw [Lib.splitK, Lib.index_one, indexByte_mark]
    by_cases hm : markN c l < l.length
    · have hl := markN_at hm
      rw [if_pos hm]
      have h1 : ¬ ((markN c l : Int) == -1) = true := by simp <;> omega
      rw [if_neg h1]
      have hno : ∀ x ∈ l.take (markN c l), x ≠ c := markN_no
      have hc0 : (l.take (markN c l)).count c = 0 := List.count_eq_zero.2 (fun hx => hno c hx rfl)
      have hcnt : (l.drop (markN c l + 1)).count c = k := by
        rw [hl, List.count_append, List.count_cons_self, hc0] at h
        omega
      have ih := splitK_parts c k (l.drop (markN c l + 1)) hcnt
      conv => rhs; rw [hl]
      rw [partsL_hit _ _ hno, ← ih]
      simp
    · exfalso
      have h2 : ∀ x ∈ l, x ≠ c := by have := markN_no (c := c) (l := l); rwa [markN_all hm] at this
      have : l.count c = 0 := List.count_eq_zero.2 (fun hx => h2 c hx rfl)
      omega

theorem split_parts (s : ByteArray) (c : UInt8) : (Lib.splitB ⟨#[c]⟩ 0 (Lib.countB s ⟨#[c]⟩) s).map (·.data.toList) = partsL c s.data.toList := by
  rw [Lib.splitB_data]
  have h : Lib.countB s ⟨#[c]⟩ = s.data.toList.count c := Lib.count_one c s.data.toList
  rw [h]
  exact splitK_parts c _ _ rfl

end Go.Proofs.YthhpijmkhhdhhaaDoor
