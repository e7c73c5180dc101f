/- Contracts: octet.All at whatever function, octet.Token, the reference's Token, octet.Same. -/
import Derived.Test.YthhpijmkhhdhhaaDoorFold
import Derived.Test.YthhpijmkhhdhhaaDoorRef1
namespace Go.Proofs.YthhpijmkhhdhhaaDoor
open Go.RowKit
set_option linter.unusedVariables false
set_option linter.unusedSimpArgs false

theorem callFunc_enter {f : FuncId} {fn : Func} (hf : Tryd.prog.funcs[f]? = some fn) (hname : (fn.name == "runtime.NumGoroutine") = false) (hb : fn.body.isNone = false) (args : Array Value) (w : World) :
    (callFunc f args).run Tryd.prog w = .ok (.enter f args) w := by
  have h1 : ¬ fn.name = "runtime.NumGoroutine" := by simpa using hname
  have h2 : ¬ fn.body = none := by intro e; rw [e] at hb; simp at hb
  simp [callFunc, hf, h1, h2]

/-- What All does with bytes, where p tells the answer behind the bytes that were seen, the last one among them. -/
def allRun (p : List UInt8 → Bool) : List UInt8 → List UInt8 → Bool × List UInt8
  | seen, [] => (true, seen)
  | seen, c :: r => if p (seen ++ [c]) then allRun p (seen ++ [c]) r else (false, seen ++ [c])

theorem allRun_append (p : List UInt8 → Bool) (a b : List UInt8) : ∀ seen, allRun p seen (a ++ b) = if (allRun p seen a).1 then allRun p (allRun p seen a).2 b else allRun p seen a := by
  induction a with
  | nil => intro seen; simp [allRun]
  | cons c a ih =>
    intro seen
    simp only [List.cons_append, allRun]
    by_cases h : p (seen ++ [c]) = true
    · simp only [h, if_true]; exact ih _
    · simp [h]

def allGood (p : List UInt8 → Bool) (l : List UInt8) : Prop := allRun p [] l = (true, l)

theorem allGood_nil (p : List UInt8 → Bool) : allGood p [] := rfl

theorem allGood_snoc (p : List UInt8 → Bool) (l : List UInt8) (c : UInt8) (h : allGood p l) (hc : p (l ++ [c]) = true) : allGood p (l ++ [c]) := by
  unfold allGood at h ⊢
  rw [allRun_append, h]
  simp [allRun, hc]

theorem allGood_stop (p : List UInt8 → Bool) (l : List UInt8) (c : UInt8) (r : List UInt8) (h : allGood p l) (hc : p (l ++ [c]) = false) : allRun p [] (l ++ c :: r) = (false, l ++ [c]) := by
  unfold allGood at h
  rw [allRun_append, h]
  simp [allRun, hc]

/-- The bytes of some texts, one behind the other. -/
def bytesOf (ss : List ByteArray) : List UInt8 := (ss.map fun s => s.data.toList).flatten

theorem bytesOf_take_succ (ss : List ByteArray) (j : Nat) (h : j < ss.length) : bytesOf (ss.take (j + 1)) = bytesOf (ss.take j) ++ ss[j].data.toList := by
  unfold bytesOf
  rw [List.take_succ_eq_append_getElem h]
  simp only [List.map_append, List.flatten_append, List.map_cons, List.map_nil, List.flatten_cons, List.flatten_nil, List.append_nil]

theorem bytesOf_split (ss : List ByteArray) (j : Nat) (h : j < ss.length) : bytesOf ss = bytesOf (ss.take j) ++ (ss[j].data.toList ++ bytesOf (ss.drop (j + 1))) := by
  unfold bytesOf
  conv => lhs; rw [← List.take_append_drop j ss, List.drop_eq_getElem_cons h]
  simp only [List.map_append, List.flatten_append, List.map_cons, List.flatten_cons]

theorem take_snoc (s : ByteArray) (i : Nat) (h : i < s.size) : s.data.toList.take (i + 1) = s.data.toList.take i ++ [s[i]] := by
  rw [List.take_succ_eq_append_getElem (by simpa using h)]; rfl

theorem drop_cons (s : ByteArray) (i : Nat) (h : i < s.size) : s.data.toList.drop i = s[i] :: s.data.toList.drop (i + 1) := by
  rw [List.drop_eq_getElem_cons (by simpa using h)]; rfl

/-- The bytes of all texts at place i of text j. -/
theorem bytesOf_at (ss : List ByteArray) (j : Nat) (h : j < ss.length) (i : Nat) (hi : i < ss[j].size) :
    ∃ r, bytesOf ss = (bytesOf (ss.take j) ++ ss[j].data.toList.take i) ++ ss[j][i] :: r := by
  refine ⟨ss[j].data.toList.drop (i + 1) ++ bytesOf (ss.drop (j + 1)), ?_⟩
  rw [bytesOf_split ss j h]
  have h2 : ss[j].data.toList = ss[j].data.toList.take i ++ (ss[j][i] :: ss[j].data.toList.drop (i + 1)) := by
    rw [← drop_cons _ _ hi, List.take_append_drop]
  conv => lhs; rw [h2]
  simp only [List.append_assoc, List.cons_append]

set_option maxRecDepth 100000 in
theorem all_gen (k : Nat) (first cap : Array Value) (b o scap : Nat) (ss : List ByteArray) (p : List UInt8 → Bool) (Inv : List UInt8 → World → Prop) (w : World)
    (hk : ∀ args w', (callFunc k args).run Tryd.prog w' = .ok (.enter k args) w') (hs : ∀ j (h : j < ss.length), ss[j].size ≤ maxLen) (hn : ss.length ≤ maxLen)
    (hcells : ∀ seen w', Inv seen w' → ∀ j (h : j < ss.length), w'.cell? ⟨b, o + j, none⟩ = some (.string ss[j]))
    (hcall : ∀ seen (c : UInt8) w', (∃ r, bytesOf ss = seen ++ c :: r) → Inv seen w' → Calls Tryd.prog k (first.push (.int .u8 (c.toNat : Int)) ++ cap) w' fun e w'' => e = .returned (.bool (p (seen ++ [c]))) ∧ Inv (seen ++ [c]) w'')
    (h0 : Inv [] w) :
    Calls Tryd.prog 91 #[.func (.func k) first cap, .slice (some ⟨b, o, none⟩) ss.length scap] w fun e w' => e = .returned (.bool (allRun p [] (bytesOf ss)).1) ∧ Inv (allRun p [] (bytesOf ss)).2 w' := by
  unfold maxLen at hn
  have HC := Lib.hid hcells; clear hcells
  have HF := Lib.hid hcall; clear hcall
  have HS := Lib.hid hs; clear hs
  have H0 := Lib.hid h0; clear h0
  go_enter Tryd.func91, Tryd.ntmps91
  go_wp2
  go_loopw [6, 7, 10, 14, 15, 16] (fun _ _ i _ _ _ wr => ∃ j : Nat, j ≤ ss.length ∧ i = .int .i64 j ∧ Hid (Inv (bytesOf (ss.take j)) wr ∧ allGood p (bytesOf (ss.take j)))) (fun _ _ i _ _ _ _ => ss.length - (intOf i).toNat)
  case atStart => exact ⟨0, Nat.zero_le _, rfl, H0.out, allGood_nil p⟩
  case round =>
    obtain ⟨j, hj, rfl, hinv⟩ := hrel
    by_cases hlt : j < ss.length
    · have hcell := HC.out _ _ hinv.out.1 j hlt
      have hsz := HS.out j hlt
      unfold maxLen at hsz
      have HI := Lib.hid hinv; clear hinv
      go_wp2
      obtain ⟨wo, rfl⟩ : ∃ wo : World, wo = wr := ⟨_, rfl⟩
      go_loopw [7, 16] (fun _ i wr => ∃ q : Nat, q ≤ ss[j].size ∧ i = .int .i64 q ∧ Hid (Inv (bytesOf (ss.take j) ++ ss[j].data.toList.take q) wr ∧ allGood p (bytesOf (ss.take j) ++ ss[j].data.toList.take q))) (fun _ i _ => ss[j].size - (intOf i).toNat)
      case atStart => exact ⟨0, Nat.zero_le _, rfl, by simpa using HI.out.out.1, by simpa using HI.out.out.2⟩
      case round =>
        obtain ⟨q, hq, rfl, hinv⟩ := hrel
        clear hcell
        by_cases hlq : q < ss[j].size
        · go_wp2_with fail
          refine (HF.out _ _ _ (bytesOf_at ss j hlt q hlq) hinv.out.1).mono ?_
          rintro e w2 ⟨rfl, hi2⟩
          have HP := Lib.hid hinv.out.2
          clear hinv
          by_cases hp : p (bytesOf (ss.take j) ++ ss[j].data.toList.take q ++ [ss[j][q]]) = true
          · rw [hp]
            go_wp2
            go_roundw
            case rel => exact ⟨q + 1, by omega, by go_num, by rw [take_snoc _ _ hlq, ← List.append_assoc]; exact hi2, by rw [take_snoc _ _ hlq, ← List.append_assoc]; exact allGood_snoc p _ _ HP.out hp⟩
            case measure => simp [intOf]; omega
          · rw [Bool.not_eq_true] at hp
            rw [hp]
            have HI2 := Lib.hid hi2; clear hi2
            have HPF := Lib.hid hp; clear hp
            go_wp2
            go_ret
            obtain ⟨r, hr⟩ := bytesOf_at ss j hlt q hlq
            have h2 := allGood_stop p _ ss[j][q] r HP.out HPF.out
            rw [← hr] at h2
            exact ⟨ret_bool (by rw [h2]), by rw [h2]; exact HI2.out⟩
        · obtain rfl : q = ss[j].size := by omega
          go_wp2
          go_roundw
          case rel => 
            have h2 := hinv.out
            rw [List.take_of_length_le (l := ss[j].data.toList) (by simp), ← bytesOf_take_succ ss j hlt] at h2
            exact ⟨j + 1, by omega, by go_num, h2⟩
          case measure => simp [intOf]; omega
    · obtain rfl : j = ss.length := by omega
      go_wp2
      go_ret
      rw [List.take_length] at hinv
      have h2 := hinv.out.2
      unfold allGood at h2
      exact ⟨ret_bool (by rw [h2]), by rw [h2]; exact hinv.out.1⟩

/-- All at no text. -/
theorem all_nil (f : Value) (a : Option Addr) (scap : Nat) (w : World) :
    Calls Tryd.prog 91 #[f, .slice a 0 scap] w fun e w' => e = .returned (.bool true) ∧ w = w' := by
  go_enter Tryd.func91, Tryd.ntmps91
  go_wp2
  go_loop [6, 7, 10, 14, 15, 16] (fun _ _ i _ _ _ => i = .int .i64 0) (fun _ _ _ _ _ _ => 0)
  case atStart => rfl
  case round =>
    subst hrel
    go_wp2
    go_ret
    exact ⟨rfl, rfl⟩

theorem allRun_pure (q : UInt8 → Bool) (l : List UInt8) : ∀ seen, (allRun (fun l => q (l.getLastD 0)) seen l).1 = l.all q := by
  induction l with
  | nil => intro seen; rfl
  | cons c r ih =>
    intro seen
    simp only [allRun, List.all_cons]
    have hl : (seen ++ [c]).getLastD 0 = c := by simp
    by_cases h : q c = true
    · rw [if_pos (by rw [hl]; exact h), ih, h]; rfl
    · rw [if_neg (by rw [hl]; exact h)]; simp at h; rw [h]; rfl

/-- All at one text and a function that only computes. -/
theorem all_one (k : Nat) (q : Int → Bool) (s : ByteArray) (w : World) (b o scap : Nat) (hs : s.size ≤ maxLen)
    (hk : ∀ args w', (callFunc k args).run Tryd.prog w' = .ok (.enter k args) w')
    (hcall : ∀ (n : Int) w', 0 ≤ n → n ≤ 255 → Calls Tryd.prog k #[.int .u8 n] w' fun e w'' => e = .returned (.bool (q n)) ∧ w' = w'')
    (hcell : w.cell? ⟨b, o, none⟩ = some (.string s)) :
    Calls Tryd.prog 91 #[.func (.func k) #[] #[], .slice (some ⟨b, o, none⟩) 1 scap] w fun e w' => e = .returned (.bool (allB q s.data.toList)) ∧ w = w' := by
  have h := all_gen k #[] #[] b o scap [s] (fun l => q ((l.getLastD 0).toNat : Int)) (fun _ w' => w = w') w hk (by intro j h; simp at h; subst h; exact hs) (by simp [maxLen])
    (by rintro _ _ rfl j hj; simp at hj; subst hj; exact hcell)
    (by
      rintro seen c w' _ rfl
      have := hcall (c.toNat : Int) w (by omega) (by have := c.toNat_lt; omega)
      simpa using this) rfl
  refine h.mono ?_
  rintro e w' ⟨rfl, rfl⟩
  refine ⟨ret_bool ?_, rfl⟩
  have := allRun_pure (fun c => q (c.toNat : Int)) (bytesOf [s]) []
  rw [show bytesOf [s] = s.data.toList from by simp [bytesOf]] at this ⊢
  exact this

theorem enter_of_name {k : Nat} {fn : Func} (hf : Tryd.prog.funcs[k]? = some fn) (hname : (fn.name == "runtime.NumGoroutine") = false) (hb : fn.body.isNone = false) :
    ∀ args w', (callFunc k args).run Tryd.prog w' = .ok (.enter k args) w' := fun args w' => callFunc_enter hf hname hb args w'

end Go.Proofs.YthhpijmkhhdhhaaDoor
