/- Rows of texts that a call owns; the reference's Parts. -/
import Derived.Test.YthhpijmkhhdhhaaDoorAppend
import Derived.Test.YthhpijmkhhdhhaaDoorPct
import Derived.Test.YthhpijmkhhdhhaaDoorParts
import Derived.IntWalk
import Derived.WalkSmall
import Derived.Laws.OwnMore
namespace Go.Proofs.YthhpijmkhhdhhaaDoor
open Go.RowKit
set_option linter.unusedVariables false
set_option linter.unusedSimpArgs false

def sV (p : List UInt8) : Value := .string ⟨p.toArray⟩
def sCells (ps : List (List UInt8)) : List Value := ps.map sV
theorem sCells_snoc (ps : List (List UInt8)) (p : List UInt8) : sCells ps ++ [sV p] = sCells (ps ++ [p]) := by simp [sCells]
theorem sV_extract (s : ByteArray) (a b : Nat) : Value.string (s.extract a b) = sV ((s.data.toList.drop a).take (b - a)) := by unfold sV; rw [Lib.extract_eq]
theorem sV_self (s : ByteArray) : Value.string s = sV s.data.toList := by unfold sV; rw [Lib.mk_data]

/-- The texts ps lie at v, a row that the call owns. -/
def OwnS (w : World) (B : Nat) (v : Value) (ps : List (List UInt8)) : Prop := w.ownsRow B 9 1 v ps.length (sCells ps)
theorem ownS_nil (w : World) (B : Nat) : OwnS w B (.slice none 0 0) [] := World.ownsRow_nil _ _ _ _
theorem ownS_below {w w' : World} {B : Nat} {v : Value} {ps : List (List UInt8)} (h : OwnS w B v ps) (hb : Below w.heap.size w w') : OwnS w' B v ps := own_below h hb
theorem ownS_form {w : World} {B : Nat} {v : Value} {ps : List (List UInt8)} (h : OwnS w B v ps) : ∃ a c, v = .slice a ps.length c ∧ ps.length ≤ c ∧ (0 < ps.length → ∃ g, a = some ⟨g, 0, none⟩ ∧ g < w.heap.size ∧ B ≤ g) := by
  rcases h.2 with ⟨rfl, hz⟩ | ⟨g, cp, cur, rfl, hB, hh, hcp, _⟩
  · exact ⟨none, 0, by rw [hz], by omega, fun h => by omega⟩
  · exact ⟨_, _, rfl, hcp, fun _ => ⟨g, rfl, lt_of_block hh, hB⟩⟩
theorem ownS_at {w : World} {B g cp : Nat} {ps : List (List UInt8)} (h : OwnS w B (.slice (some ⟨g, 0, none⟩) ps.length cp) ps) (j : Nat) (hj : j < ps.length) : w.cell? ⟨g, j, none⟩ = some (sV ps[j]) := by
  have := World.ownsRow.cellAt h j (by omega)
  rw [this]
  unfold sCells
  rw [List.getElem?_map, List.getElem?_eq_getElem hj]; rfl
theorem ownS_pop {w : World} {B g cp n : Nat} {ps : List (List UInt8)} (hn : n + 1 = ps.length) (h : OwnS w B (.slice (some ⟨g, 0, none⟩) (n + 1) cp) ps) : OwnS w B (.slice (some ⟨g, 0, none⟩) n cp) ps.dropLast := by
  have hne : ps ≠ [] := by intro e; rw [e] at hn; simp at hn
  have e : ps = ps.dropLast ++ [ps.getLast hne] := (List.dropLast_concat_getLast hne).symm
  have hl : ps.dropLast.length = n := by rw [List.length_dropLast]; omega
  unfold OwnS at h ⊢
  rw [hl]
  rw [← hn, e, ← sCells_snoc] at h
  exact ownsRow_pop (by unfold sCells; rw [List.length_map]; omega) h

theorem drop_split (s : ByteArray) (f k : Nat) (hf : f ≤ k) (h : k < s.size) : s.data.toList.drop f = (s.data.toList.drop f).take (k - f) ++ s[k] :: s.data.toList.drop (k + 1) := by
  have h1 : (s.data.toList.drop f).drop (k - f) = s.data.toList.drop k := by rw [List.drop_drop, show f + (k - f) = k by omega]
  conv => lhs; rw [← List.take_append_drop (k - f) (s.data.toList.drop f), h1, drop_cons s k h]
theorem drop_take_succ (s : ByteArray) (f k : Nat) (hf : f ≤ k) (h : k < s.size) : (s.data.toList.drop f).take (k + 1 - f) = (s.data.toList.drop f).take (k - f) ++ [s[k]] := by
  have e := drop_split s f k hf h
  rw [show k + 1 - f = (k - f) + 1 by omega]
  conv => lhs; rw [e]
  have hl : ((s.data.toList.drop f).take (k - f)).length = k - f := by rw [List.length_take, List.length_drop, ← Lib.size_eq]; omega
  rw [List.take_append, hl, List.take_of_length_le (by omega)]
  simp
theorem drop_take_all (s : ByteArray) (f : Nat) : (s.data.toList.drop f).take (s.size - f) = s.data.toList.drop f := List.take_of_length_le (by rw [List.length_drop, ← Lib.size_eq]; omega)

def PartsPost (w : World) (ps : List (List UInt8)) (e : Ending) (w' : World) : Prop := ∃ v, e = .returned v ∧ Below w.heap.size w w' ∧ OwnS w' w.heap.size v ps
theorem ownS_app {w : World} {B g cp n : Nat} {ps : List (List UInt8)} {p : List UInt8} (hn : n = ps.length) (h : w.ownsRow B 9 1 (.slice (some ⟨g, 0, none⟩) (n + 1) cp) (n + 1) (sCells ps ++ [sV p])) : OwnS w B (.slice (some ⟨g, 0, none⟩) (n + 1) cp) (ps ++ [p]) := by
  unfold OwnS
  rw [sCells_snoc] at h
  rw [List.length_append, List.length_singleton, ← hn]
  exact h

set_option maxRecDepth 100000 in
set_option maxHeartbeats 2000000 in
theorem rParts_any (s : ByteArray) (n : Int) (c : UInt8) (w : World) (hs : s.size ≤ 100000) (hc : n = (c.toNat : Int)) :
    Calls Tryd.prog 31 #[.string s, .int .u8 n] w (PartsPost w (partsL c s.data.toList)) := by
  subst hc
  obtain ⟨B, hB⟩ : ∃ B, w.heap.size = B := ⟨_, rfl⟩
  have HBB := Lib.hid hB
  have hinv : OwnS w B (.slice none 0 0) [] := ownS_nil _ _
  have HI := Lib.hid hinv; clear hinv hB
  go_enter Tryd.func31, Tryd.ntmps31
  go_wp2_with fail
  go_loopw [5, 6, 7] (fun out fr i wr => ∃ (k f : Nat) (os : List (List UInt8)), k ≤ s.size ∧ f ≤ k ∧ i = .int .i64 k ∧ fr = .int .i64 f ∧ os.length ≤ k ∧ Hid (OwnS wr B out os) ∧ Hid (partsL c s.data.toList = os ++ partsL c (s.data.toList.drop f)) ∧ Hid (∀ x ∈ (s.data.toList.drop f).take (k - f), x ≠ c) ∧ Hid (Below w.heap.size w wr)) (fun _ _ i _ => s.size - (intOf i).toNat)
  case atStart => exact ⟨0, 0, [], Nat.zero_le _, Nat.le_refl _, rfl, rfl, Nat.le_refl _, HI.out, rfl, Lib.hid (by simp), Below.refl _ _⟩
  case round =>
    obtain ⟨k, f, os, hk, hf, rfl, rfl, hol, ho, hp, hall, hb⟩ := hrel
    clear HI
    have hBw : B ≤ wr.heap.size := by have := hb.out.size; have := HBB.out; omega
    by_cases hlt : k < s.size
    · by_cases hx : s[k] = c
      · have g1 : ((s[k].toNat : Int) == (c.toNat : Int)) = true := by rw [hx]; simp
        have hd := hp.out
        rw [drop_split s f k hf hlt, hx, partsL_hit _ _ hall.out] at hd
        have HD := Lib.hid hd; clear hd hx
        have hfs : (f : Int) ≤ k := by omega
        have hks : (k : Int) ≤ s.size := by omega
        obtain ⟨u, hu⟩ : ∃ u, s.extract f k = u := ⟨_, rfl⟩
        have hu2 : Value.string u = sV ((s.data.toList.drop f).take (k - f)) := by rw [← hu, sV_extract]
        have HU := Lib.hid hu2; clear hu2
        go_wp2_with (at_builtin; refine app_one 39 9 (.string ByteArray.empty) 16 Tryd.underlying39 info_str rfl (by rfl) (.tmp 19) (.tmp 24) (by rfl) wr B _ os.length (sCells os) (.string u) (by rfl) ho.out (by rfl) rfl ?_ ?_ ?_ ?_)
        · omega
        · unfold maxLen; omega
        · exact hBw
        intro g cp w2 hown2 hg2 hat hbg hgl
        rw [HU.out] at hown2
        have ho2 := ownS_app rfl hown2
        have hb2 : Below w.heap.size w w2 := app_below hb.out ho.out hg2 (by rw [HBB.out]; exact Nat.le_refl _) (by have := HBB.out; omega)
        have HO2 := Lib.hid ho2; clear ho2 hown2
        have HB2 := Lib.hid hb2; clear hb2 hg2 hat
        go_wp2_with fail
        go_roundw
        case rel => exact ⟨k + 1, k + 1, _, by omega, Nat.le_refl _, by go_num, by go_num, by rw [List.length_append, List.length_singleton]; omega, HO2.out, Lib.hid (by rw [HD.out, List.append_assoc]; rfl), Lib.hid (by simp), HB2.out⟩
        case measure => simp [intOf]; omega
      · have g1 : ((s[k].toNat : Int) == (c.toNat : Int)) = false := by
          rw [beq_eq_false_iff_ne]; intro e; exact hx (UInt8.toNat_inj.1 (by omega))
        have HN : Hid (∀ x ∈ (s.data.toList.drop f).take (k + 1 - f), x ≠ c) := Lib.hid (by
          rw [drop_take_succ s f k hf hlt]
          intro y hy
          rcases List.mem_append.1 hy with h | h
          · exact hall.out y h
          · simp at h; subst h; exact hx)
        clear hx
        go_wp2_with fail
        go_roundw
        case rel => exact ⟨k + 1, f, os, by omega, by omega, by go_num, rfl, by omega, ho.out, hp.out, HN.out, hb.out⟩
        case measure => simp [intOf]; omega
    · obtain rfl : k = s.size := by omega
      have hd := hp.out
      have ha := hall.out
      rw [drop_take_all] at ha
      rw [partsL_all _ ha] at hd
      have HD := Lib.hid hd; clear hd ha
      have hfs : (f : Int) ≤ s.size := by omega
      have hu2 : Value.string (s.extract f s.size) = sV (s.data.toList.drop f) := by rw [sV_extract, drop_take_all]
      have HU := Lib.hid hu2; clear hu2
      go_wp2_with (at_builtin; refine app_one 39 9 (.string ByteArray.empty) 16 Tryd.underlying39 info_str rfl (by rfl) (.tmp 28) (.tmp 32) (by rfl) wr B _ os.length (sCells os) (.string (s.extract f s.size)) (by rfl) ho.out (by rfl) rfl ?_ ?_ ?_ ?_)
      · omega
      · unfold maxLen; omega
      · exact hBw
      intro g cp w2 hown2 hg2 hat hbg hgl
      rw [HU.out] at hown2
      have ho2 := ownS_app rfl hown2
      have hb2 : Below w.heap.size w w2 := app_below hb.out ho.out hg2 (by rw [HBB.out]; exact Nat.le_refl _) (by have := HBB.out; omega)
      have HO2 := Lib.hid ho2; clear ho2 hown2
      have HB2 := Lib.hid hb2; clear hb2 hg2 hat
      go_wp2_with fail
      go_ret
      exact ⟨_, rfl, HB2.out, by rw [HD.out, HBB.out]; exact HO2.out⟩

end Go.Proofs.YthhpijmkhhdhhaaDoor
