/- Paths without dots: plain laws. -/
import Derived.Test.YthhpijmkhhdhhaaDoorParts
import Derived.Test.YthhpijmkhhdhhaaDoorPct
namespace Go.Proofs.YthhpijmkhhdhhaaDoor
open Go.RowKit
set_option linter.unusedVariables false
set_option linter.unusedSimpArgs false

def isDot (x : List UInt8) : Bool := x == [46] || x == [46, 46]
def dotStep (last : Bool) (out : List (List UInt8)) (x : List UInt8) : List (List UInt8) :=
  if isDot x then (if x == [46, 46] then out.dropLast else out) ++ (if last then [[]] else []) else out ++ [x]
def dotGo : List (List UInt8) → List (List UInt8) → List (List UInt8)
  | out, [] => out
  | out, x :: r => dotGo (dotStep r.isEmpty out x) r
/-- A path (behind its first slash) without dots. -/
def dotsL (l : List UInt8) : List UInt8 := 47 :: Lib.join (dotGo [] (partsL 47 l)) [47]

theorem dotStep_mem {last : Bool} {out : List (List UInt8)} {x o : List UInt8} (h : o ∈ dotStep last out x) : o ∈ out ∨ (o = x ∧ isDot x = false) ∨ o = [] := by
  unfold dotStep at h
  by_cases hd : isDot x = true
  · rw [if_pos hd] at h
    rcases List.mem_append.1 h with h | h
    · split at h
      · exact .inl ((List.dropLast_sublist _).subset h)
      · exact .inl h
    · split at h
      · simp at h; exact .inr (.inr h)
      · simp at h
  · rw [if_neg hd] at h
    rw [Bool.not_eq_true] at hd
    rcases List.mem_append.1 h with h | h
    · exact .inl h
    · simp at h; exact .inr (.inl ⟨h, hd⟩)
theorem dotGo_mem : ∀ (ps out : List (List UInt8)) (o : List UInt8), o ∈ dotGo out ps → o ∈ out ∨ (o ∈ ps ∧ isDot o = false) ∨ o = []
  | [], out, o, h => .inl h
  | x :: r, out, o, h => by
    rcases dotGo_mem r _ o h with h | ⟨h, h2⟩ | h
    · rcases dotStep_mem h with h | ⟨rfl, h⟩ | h
      · exact .inl h
      · exact .inr (.inl ⟨List.mem_cons_self .., h⟩)
      · exact .inr (.inr h)
    · exact .inr (.inl ⟨List.mem_cons_of_mem _ h, h2⟩)
    · exact .inr (.inr h)
theorem dotGo_ne : ∀ (ps out : List (List UInt8)), ps ≠ [] → dotGo out ps ≠ []
  | [], out, h => absurd rfl h
  | [x], out, _ => by
    show dotStep true out x ≠ []
    unfold dotStep
    split <;> simp
  | x :: y :: r, out, _ => dotGo_ne (y :: r) _ (by simp)
theorem dotGo_plain : ∀ (ps out : List (List UInt8)), (∀ p ∈ ps, isDot p = false) → dotGo out ps = out ++ ps
  | [], out, _ => by simp [dotGo]
  | x :: r, out, h => by
    rw [dotGo, dotStep, if_neg (by rw [h x (List.mem_cons_self ..)]; simp), dotGo_plain r _ (fun p hp => h p (List.mem_cons_of_mem _ hp))]
    simp
theorem dotGo_len : ∀ (ps out : List (List UInt8)), (dotGo out ps).length ≤ out.length + ps.length
  | [], out => by simp [dotGo]
  | x :: r, out => by
    have h := dotGo_len r (dotStep r.isEmpty out x)
    have h2 : (dotStep r.isEmpty out x).length ≤ out.length + 1 := by
      unfold dotStep
      split
      · rw [List.length_append]
        have : (if x == [46, 46] then out.dropLast else out).length ≤ out.length := by split <;> simp
        have : (if r.isEmpty then [([] : List UInt8)] else []).length ≤ 1 := by split <;> simp
        omega
      · simp
    rw [dotGo, List.length_cons]; omega

theorem dots_out (l : List UInt8) : dotGo [] (partsL 47 l) ≠ [] ∧ ∀ o ∈ dotGo [] (partsL 47 l), isDot o = false ∧ (∀ x ∈ o, x ≠ 47) ∧ (o ∈ partsL 47 l ∨ o = []) := by
  refine ⟨dotGo_ne _ _ (partsL_ne _ _), fun o ho => ?_⟩
  rcases dotGo_mem _ _ _ ho with h | ⟨h, h2⟩ | h
  · simp at h
  · exact ⟨h2, partsL_mem l o h, .inl h⟩
  · subst h; exact ⟨rfl, by simp, .inr rfl⟩
theorem dots_parts (l : List UInt8) : partsL 47 (Lib.join (dotGo [] (partsL 47 l)) [47]) = dotGo [] (partsL 47 l) :=
  partsL_of_join _ (dots_out l).1 (fun p hp => ((dots_out l).2 p hp).2.1)
theorem dots_again (l : List UInt8) : dotsL (Lib.join (dotGo [] (partsL 47 l)) [47]) = dotsL l := by
  conv => lhs; unfold dotsL
  rw [dots_parts, dotGo_plain _ _ (fun p hp => ((dots_out l).2 p hp).1)]
  rfl
theorem dots_whole (l : List UInt8) : partsL 47 (dotsL l) = [] :: dotGo [] (partsL 47 l) := by
  unfold dotsL
  rw [partsL, if_pos rfl, dots_parts]

theorem pctGo_parts (q : Int → Bool) (h : q 47 = true) : ∀ (l : List UInt8) (k : Nat), ∃ p ps, partsL 47 l = p :: ps ∧ pctGo q k l = (pctGo q k p && ps.all (pctL q))
  | [], k => ⟨[], [], rfl, by simp⟩
  | x :: r, k => by
    by_cases hx : x = 47
    · subst hx
      obtain ⟨p, ps, h1, h2⟩ := pctGo_parts q h r 0
      refine ⟨[], p :: ps, by rw [partsL, if_pos rfl, h1], ?_⟩
      cases k with
      | zero =>
        have e : pctGo q 0 (47 :: r) = (q 47 && pctGo q 0 r) := by rw [pctGo, if_neg (by decide)]; rfl
        rw [e, h2, List.all_cons, h]
        rfl
      | succ k =>
        rw [pctGo]
        show (bHex 47 && _) = (false && _)
        rw [show bHex 47 = false by decide +kernel]; rfl
    · cases k with
      | zero =>
        by_cases h37 : x.toNat = 37
        · obtain ⟨p, ps, h1, h2⟩ := pctGo_parts q h r 2
          exact ⟨x :: p, ps, by rw [partsL, if_neg hx, h1], by rw [pctGo, if_pos h37, pctGo, if_pos h37, h2]⟩
        · obtain ⟨p, ps, h1, h2⟩ := pctGo_parts q h r 0
          exact ⟨x :: p, ps, by rw [partsL, if_neg hx, h1], by rw [pctGo, if_neg h37, pctGo, if_neg h37, h2, Bool.and_assoc]⟩
      | succ k =>
        obtain ⟨p, ps, h1, h2⟩ := pctGo_parts q h r k
        exact ⟨x :: p, ps, by rw [partsL, if_neg hx, h1], by rw [pctGo, pctGo, h2, Bool.and_assoc]⟩
theorem pctL_parts (q : Int → Bool) (h : q 47 = true) (l : List UInt8) : pctL q l = (partsL 47 l).all (pctL q) := by
  obtain ⟨p, ps, h1, h2⟩ := pctGo_parts q h l 0
  rw [h1, List.all_cons]; exact h2

theorem path47 (m : List UInt8) : pathQ (47 :: m) 47 = true := by unfold pathQ bOne; simp
theorem pathL_cons (l : List UInt8) : pathL (47 :: l) = pctL (pathQ [47]) l := by
  unfold pathL
  rw [pctL_plain _ _ _ (by decide)]
  show ((some (47 : UInt8) == some 47) && (pathQ [47] 47 && _)) = _
  rw [path47]; simp
theorem pathL_tail {l : List UInt8} (h : pathL l = true) : ∃ r, l = 47 :: r ∧ pctL (pathQ [47]) r = true := by
  cases l with
  | nil => simp [pathL] at h
  | cons c r =>
    have hc : c = 47 := by unfold pathL at h; simp at h; exact h.1
    subst hc
    exact ⟨r, rfl, by rw [← pathL_cons]; exact h⟩
theorem dots_path {l : List UInt8} (h : pctL (pathQ [47]) l = true) : pathL (dotsL l) = true := by
  unfold dotsL
  rw [pathL_cons, pctL_parts _ (path47 _), dots_parts, List.all_eq_true]
  rw [pctL_parts _ (path47 _), List.all_eq_true] at h
  intro o ho
  rcases ((dots_out l).2 o ho).2.2 with h1 | h1
  · exact h o h1
  · subst h1; rfl

end Go.Proofs.YthhpijmkhhdhhaaDoor
