/- The walk of the law QuillPlays. -/
import Derived.Test.YthhpijmkhhdhhaaLaw4j
namespace Go.Proofs.Ythhpijmkhhdhhaa
open Go.RowKit
set_option linter.unusedVariables false
set_option linter.unusedSimpArgs false

theorem own_frT {w w' : World} {A B b : Nat} {e T t : TypeId} {size : Nat} {v : Value} {n : Nat} {xs : List Value} {cs : Array Value} {fr : Nat × Nat} (h : w.ownsRow A e size v n xs) (hf : FrT B b T w w')
    (heT : e ≠ T) (hb : w.heap[b]? = some (.cells cs t fr)) (het : e ≠ t) : w'.ownsRow A e size v n xs := by
  refine ⟨h.1, ?_⟩
  rcases h.2 with hn | ⟨g, cap, cur, rfl, hB, hg, rest⟩
  · exact .inl hn
  · refine .inr ⟨g, cap, cur, rfl, hB, ?_, rest⟩
    rw [hf.block g (lt_of_block hg) (.inr ⟨fun e0 => ?_, fun cs2 fr2 e0 => ?_⟩)]
    · exact hg
    · subst e0; rw [hb] at hg; injection hg with hg; injection hg with _ hg _; exact het hg.symm
    · rw [hg] at e0; injection e0 with e0; injection e0 with _ e0 _; exact heT e0

/-- A quill stays while an append goes on to a row of texts. -/
theorem quillAt_grown {w w' : World} {B b A : Nat} {l : List UInt8} {most : Int} {v : Value} {n : Nat} {xs : List Value} (h : QuillAt w B b l most) (hown : w.ownsRow A 9 1 v n xs) (hg : w.grownBy w' v.ownBlock) : QuillAt w' B b l most := by
  obtain ⟨q, hq, hB, ho⟩ := h
  refine ⟨q, ?_, hB, ?_⟩
  · rw [hg.block b (lt_of_block hq) (fun e => own_ne hown hq (by decide) e.symm)]; exact hq
  · refine ho.kept hg ?_
    rcases ho.2 with ⟨rfl, _⟩ | ⟨g, cap, cur, rfl, _, hh, _⟩
    · exact .inl rfl
    · right
      intro e
      exact own_ne hown hh (by decide) (by rw [← e]; rfl)

/-- A deed of the law. -/
structure D4 where
  line : Bool
  take : Bool
  a : Option Addr
  len : Nat
  cap : Nat
  ss : List ByteArray

def DeedsArg (w : World) (a : Option Addr) (len : Nat) (ds : List D4) : Prop :=
  ds.length = len ∧ len ≤ maxLen ∧ (∀ d ∈ ds, StrsArg w d.a d.len d.ss) ∧ (len = 0 ∨ ∃ b o, a = some ⟨b, o, none⟩ ∧ b < w.heap.size ∧ ∀ j (h : j < ds.length),
    w.cell? ⟨b, o + j * 3, none⟩ = some (.bool ds[j].line) ∧ w.cell? ⟨b, o + j * 3 + 1, none⟩ = some (.bool ds[j].take) ∧ w.cell? ⟨b, o + j * 3 + 2, none⟩ = some (.slice ds[j].a ds[j].len ds[j].cap))

set_option maxRecDepth 100000 in
theorem quillPlays_walk (most : Int) (a : Option Addr) (len cap : Nat) (ds : List D4) (w : World) (h0 : -9223372036854775808 ≤ most) (h1 : most ≤ 9223372036854775807) (h : DeedsArg w a len ds) :
    Calls Try.prog 6 #[.int .i64 most, .slice a len cap] w fun e w' => e = .returned (.bool true) ∧ Below w.heap.size w w' := by
  obtain ⟨hlen, hmax, hds, harg⟩ := h
  unfold maxLen at hmax
  have HL := Lib.hid hlen; clear hlen
  have HD := Lib.hid hds; clear hds
  have HA := Lib.hid harg; clear harg
  obtain ⟨mo, hmo⟩ : ∃ mo, mo = max most 0 := ⟨_, rfl⟩
  have NEW := Lib.hid (fun w => quill_new_at most mo hmo.symm w h0 h1)
  have hm0 : 0 ≤ mo := by omega
  have hm1 : mo ≤ 9223372036854775807 := by omega
  have HMO := Lib.hid hmo; clear hmo
  go_enter Try.func6, Try.ntmps6
  go_wp2_with fail
  (refine (awake4_any _).mono ?_; rintro e w1 ⟨rfl, h1⟩; have H1 := Lib.hid h1; clear h1; go_wp2_with fail)
  (refine (NEW.out _).mono ?_; rintro e w' ⟨rfl, rfl⟩; go_wp2_with fail)
  obtain ⟨B, hB⟩ : ∃ B, B = w1.heap.size := ⟨_, rfl⟩
  have hq := quillAt_new mo w1 w1.heap.size (Nat.le_refl _)
  rw [← hB] at hq
  have HQ0 := Lib.hid hq; clear hq
  have HB := Lib.hid hB
  rw [← hB]
  clear hB
  go_loopw [6, 7, 8, 9, 10, 11, 12] (fun s i _ _ _ _ _ wr => ∃ (k : Nat) (S : List UInt8), k ≤ len ∧ k ≤ 30 ∧ i = .int .i64 k ∧ s = .string ⟨S.toArray⟩ ∧ S.length ≤ 250 * k ∧ (S.length : Int) ≤ mo ∧ Hid (QuillAt wr B B S mo) ∧ Hid (Below B (w1.alloc (.cells #[.slice none 0 0, .int .i64 mo] 106)) wr)) (fun _ i _ _ _ _ _ _ => 30 - (intOf i).toNat)
  case atStart => exact ⟨0, [], Nat.zero_le _, by omega, rfl, rfl, by simp, by simpa using hm0, HQ0.out, Below.refl _ _⟩
  case round =>
    obtain ⟨k, S, hk1, hk2, rfl, rfl, hS1, hS2, hq, hbl⟩ := hrel
    by_cases hlt : k < len ∧ k < 30
    · obtain ⟨hlt1, hlt2⟩ := hlt
      have hks : k < ds.length := by have := HL.out; omega
      obtain ⟨d, hd⟩ : ∃ d, d = ds[k] := ⟨_, rfl⟩
      have hcell : ∃ b o, a = some ⟨b, o, none⟩ ∧ wr.cell? ⟨b, o + k * 3, none⟩ = some (.bool d.line) ∧ wr.cell? ⟨b, o + k * 3 + 1, none⟩ = some (.bool d.take) ∧ wr.cell? ⟨b, o + k * 3 + 2, none⟩ = some (.slice d.a d.len d.cap) := by
        rcases HA.out with hz | ⟨b, o, ha, hbs, hc⟩
        · omega
        · obtain ⟨x0, x1, x2⟩ := hc k hks
          have hBs : w.heap.size ≤ B := by rw [HB.out]; exact H1.out.size
          have e1 : ∀ x, wr.cell? ⟨b, x, none⟩ = w.cell? ⟨b, x, none⟩ := fun x => by
            rw [hbl.out.cell (p := ⟨b, x, none⟩) (by show b < B; omega), World.cell?_alloc_lt _ _ _ (by have := H1.out.size; show b < _; omega)]
            exact H1.out.cell (by exact hbs)
          exact ⟨b, o, ha, by rw [e1, hd]; exact x0, by rw [e1, hd]; exact x1, by rw [e1, hd]; exact x2⟩
      obtain ⟨b, o, rfl, hc0, hc1, hc2⟩ := hcell
      have hsd := HD.out d (by rw [hd]; exact List.getElem_mem _)
      have HSD := Lib.hid hsd; clear hsd
      have HDD := Lib.hid hd; clear hd
      have hal : Below wr.heap.size wr (wr.alloc (.cells #[.bool d.line, .bool d.take, .slice d.a d.len d.cap] 40)) := (Below.refl _ _).alloc (Nat.le_refl _) _
      have hdb : (wr.alloc (.cells #[.bool d.line, .bool d.take, .slice d.a d.len d.cap] 40)).heap[wr.heap.size]? = some (.cells #[.bool d.line, .bool d.take, .slice d.a d.len d.cap] 40 (0, 0)) := heap_alloc_new wr _
      have hBw : B ≤ wr.heap.size := by have := hbl.out.size; simp at this; have := HB.out; omega
      have hqa := quillAt_frT hq.out hal
      have hFT : FrT B B 5 wr (wr.alloc (.cells #[.bool d.line, .bool d.take, .slice d.a d.len d.cap] 40)) := FrT.ofBelow hal
      cases hdt : d.take
      · rw [hdt] at hqa hdb hFT
        have HQA := Lib.hid hqa; clear hqa
        have HDB := Lib.hid hdb; clear hdb
        have HFT := Lib.hid hFT; clear hFT
        have hds : wr.heap.size < (wr.alloc (.cells #[.bool d.line, .bool false, .slice d.a d.len d.cap] 40)).heap.size := by simp
        obtain ⟨w2, hw2⟩ : ∃ w2, w2 = wr.alloc (.cells #[.bool d.line, .bool false, .slice d.a d.len d.cap] 40) := ⟨_, rfl⟩
        clear hal
        go_wp2_with fail
        rw [← hw2]
        rw [← hw2] at HQA HDB HFT hds
        have e0 : w2.cell? ⟨wr.heap.size, 0, none⟩ = some (.bool d.line) := by rw [cell_of_row w2 _ 0 _ _ _ HDB.out]; rfl
        have E0 := Lib.hid e0; clear e0 hw2
        have HQ2 := HQA
        have HFB := HFT
        have HDS := Lib.hid hds; clear hds
        have hfew := few4_any w2 d.a d.len d.cap d.ss (strsArg_below (strsArg_below HSD.out H1.out) (by
          have h1 : Below w1.heap.size w1 (w1.alloc (.cells #[.slice none 0 0, .int .i64 mo] 106)) := (Below.refl _ _).alloc (Nat.le_refl _) _
          have h2 := hbl.out
          rw [HB.out] at h2
          have h3 := HFB.out.below hBw
          rw [HB.out] at h3
          exact (h1.trans h2).trans h3))
        have FEW := Lib.hid hfew; clear hfew
        go_wp2_with fail
        refine FEW.out.mono ?_
        rintro e w3 ⟨v, rfl, hown, hb3⟩
        obtain ⟨F, hF⟩ : ∃ F, F = few4 d.ss := ⟨_, rfl⟩
        have hft := few4_total d.ss
        rw [← hF] at hown hft
        obtain ⟨hf1, hf2, hf3⟩ := hft
        have HF3 := Lib.hid hf3; clear hf3 hF
        obtain ⟨va, vc, hv, hsi, hcap, hvc⟩ := strsIn_own (B := B) hown
        subst hv
        have e30 : w3.cell? ⟨wr.heap.size, 0, none⟩ = some (.bool d.line) := by rw [hb3.cell (by exact HDS.out)]; exact E0.out
        have hq3 := quillAt_frT HQ2.out hb3
        have HQ3 := Lib.hid hq3; clear hq3
        have HSI := Lib.hid hsi; clear hsi
        have HOW := Lib.hid hown; clear hown
        have HCAP := Lib.hid hcap; clear hcap
        have hz23 := hb3.size
        have HF4 := Lib.hid (HFB.out.trans (FrT.ofBelow (B := B) (b := B) (T := 5) hb3)); clear hb3
        cases hdl : d.line
        · rw [hdl] at e30
          have PUT := Lib.hid (quill_put' w3 B B S mo va F.length vc F rfl HQ3.out hm0 hm1 (by exact hS2) (by omega) HSI.out (by unfold maxLen; omega) HF3.out)
          go_wp2_with fail
          refine PUT.out.mono ?_
          intro e w4 hp
          obtain ⟨rfl, hq4, hf4⟩ := hp
          have hs4 : StrsIn w4 B va F := by
            obtain ⟨v0, hv0, _⟩ := HQ3.out
            exact strsIn_fr HSI.out hf4 hv0 (by decide) (Nat.le_refl _)
          have hf5 := HF4.out.trans hf4
          have rp := (refPut4_any w4 B S most va F.length vc F rfl hs4 (by omega) (by omega) h0 h1 (by rw [← HMO.out]; exact hS2))
          clear hs4 hf4
          obtain ⟨T, hT⟩ : ∃ T, T = putL S mo F := ⟨_, rfl⟩
          have hTl : T.length ≤ S.length + 242 := by
            rw [hT]; unfold putL; split
            · rw [List.length_append]; omega
            · omega
          have hTm : (T.length : Int) ≤ mo := by
            rw [hT]; unfold putL putOk; split
            · rename_i h; have h2 := of_decide_eq_true h; rw [List.length_append]; omega
            · exact hS2
          obtain ⟨E, hE⟩ : ∃ E, E = putE S mo F := ⟨_, rfl⟩
          rw [← HMO.out, ← hT, ← hE] at rp
          rw [← hT] at hq4
          rw [← hE]
          have RP := Lib.hid rp; clear rp
          have TX := Lib.hid (quill_text w4 _ _ _ _ hq4)
          have LN := Lib.hid (quill_len w4 _ _ _ _ hq4)
          have LF := Lib.hid (quill_left w4 _ _ _ _ hq4 hm0 hm1 hTm)
          have LN2 := Lib.hid (fun n => quill_len (World.drewN w4 n) B B T mo hq4)
          have HQ4 := Lib.hid hq4; clear hq4 hT hE
          have HF5 := Lib.hid hf5; clear hf5
          go_wp2_with fail
          (refine (RP.out).mono ?_; rintro e w' ⟨rfl, rfl⟩; go_wp2_with fail)
          (refine (TX.out).mono ?_; rintro e w' ⟨rfl, rfl⟩; go_wp2_with fail)
          (refine (LN.out).mono ?_; rintro e w' ⟨rfl, rfl⟩; go_wp2_with fail)
          refine LF.out.mono ?_
          rintro e w' ⟨rfl, n, rfl⟩
          have hmx : max most 0 = mo := HMO.out.symm
          go_wp2_with fail
          (refine (LN2.out _).mono ?_; rintro e w' ⟨rfl, rfl⟩; go_wp2_with fail)
          go_roundw
          case rel =>
            refine ⟨k + 1, T, by omega, by omega, by go_num, rfl, by omega, hTm, HQ4.out, ?_⟩
            exact hbl.out.trans (below_drewN (HF5.out.below hBw) _)
          case measure => simp [intOf]; omega
        · rw [hdl] at e30
          have PUT := Lib.hid (quill_line w3 B B S mo va vc F HQ3.out hm0 hm1 (by exact hS2) (by rw [bytesOf_snoc]; simp [crlf]; omega) HSI.out HCAP.out (by omega) HF3.out)
          go_wp2_with fail
          refine PUT.out.mono ?_
          intro e w4 hp
          obtain ⟨rfl, hq4, hf4⟩ := hp
          have how4 : w4.ownsRow w2.heap.size 9 1 (.slice va F.length vc) F.length (strCells F) := by
            obtain ⟨v0, hv0, _⟩ := HQ3.out
            exact own_frT HOW.out hf4 (by decide) hv0 (by decide)
          have HO4 := Lib.hid how4; clear how4
          have hz4 : w2.heap.size ≤ w4.heap.size := Nat.le_trans hz23 hf4.size
          go_wp2_with (at_builtin; refine app_one 26 9 (.string ByteArray.empty) 16 Try.underlying26 info_str rfl (by rfl) (.tmp 45) (.tmp 46) (by rfl) w4 w2.heap.size _ F.length (strCells F) (.string crlf) (by rfl) HO4.out (by rfl) rfl ?_ ?_ ?_ ?_)
          · omega
          · unfold maxLen; omega
          · exact hz4
          intro g cp w5 hown5 hg5 hat hbg hgl
          rw [strCells_snoc] at hown5
          have hln : F.length + 1 = (F ++ [crlf]).length := by simp
          rw [hln] at hown5
          obtain ⟨sa, sc, hsa, hs5, _, _⟩ := strsIn_own (B := B) hown5
          obtain ⟨hsa1, _, hsa3⟩ := Value.slice.inj hsa
          subst hsa1 hsa3
          have hq5 := quillAt_grown hq4 HO4.out hg5
          have hf5 : FrT B B 5 wr w5 := by
            have h4 := HF4.out.trans hf4
            exact ⟨hg5.os.trans h4.os, hg5.tape.trans h4.tape, hg5.output.trans h4.output, Nat.le_trans h4.size hg5.size, fun k hk hp => by
              rw [hg5.block k (Nat.lt_of_lt_of_le hk h4.size) (fun e => by
                have h1 := (HO4.out.lt k e.symm).1
                have h2 := HDS.out
                omega)]
              exact h4.block k hk hp⟩
          have hbt : (bytesOf (F ++ [crlf])).length ≤ 242 := by rw [bytesOf_snoc]; simp [crlf]; omega
          obtain ⟨G, hG⟩ : ∃ G, G = F ++ [crlf] := ⟨_, rfl⟩
          rw [← hG] at hbt hs5 hq5 hln ⊢
          have rp := (refPut4_any w5 B S most _ (F.length + 1) cp G hln hs5 (by omega) (by omega) h0 h1 (by rw [← HMO.out]; exact hS2))
          clear hs5 hown5 hsa hg5 hat hf4 hq4
          have hq4 := hq5
          have HG := Lib.hid hG; clear hG hq5 hln
          obtain ⟨T, hT⟩ : ∃ T, T = putL S mo G := ⟨_, rfl⟩
          have hTl : T.length ≤ S.length + 242 := by
            rw [hT]; unfold putL; split
            · rw [List.length_append]; omega
            · omega
          have hTm : (T.length : Int) ≤ mo := by
            rw [hT]; unfold putL putOk; split
            · rename_i h; have h2 := of_decide_eq_true h; rw [List.length_append]; omega
            · exact hS2
          obtain ⟨E, hE⟩ : ∃ E, E = putE S mo G := ⟨_, rfl⟩
          rw [← HMO.out, ← hT, ← hE] at rp
          rw [← hT] at hq4
          rw [← hE]
          have RP := Lib.hid rp; clear rp
          have TX := Lib.hid (quill_text w5 _ _ _ _ hq4)
          have LN := Lib.hid (quill_len w5 _ _ _ _ hq4)
          have LF := Lib.hid (quill_left w5 _ _ _ _ hq4 hm0 hm1 hTm)
          have LN2 := Lib.hid (fun n => quill_len (World.drewN w5 n) B B T mo hq4)
          have HQ4 := Lib.hid hq4; clear hq4 hT hE
          have HF5 := Lib.hid hf5; clear hf5
          go_wp2_with fail
          (refine (RP.out).mono ?_; rintro e w' ⟨rfl, rfl⟩; go_wp2_with fail)
          (refine (TX.out).mono ?_; rintro e w' ⟨rfl, rfl⟩; go_wp2_with fail)
          (refine (LN.out).mono ?_; rintro e w' ⟨rfl, rfl⟩; go_wp2_with fail)
          refine LF.out.mono ?_
          rintro e w' ⟨rfl, n, rfl⟩
          have hmx : max most 0 = mo := HMO.out.symm
          go_wp2_with fail
          (refine (LN2.out _).mono ?_; rintro e w' ⟨rfl, rfl⟩; go_wp2_with fail)
          go_roundw
          case rel =>
            refine ⟨k + 1, T, by omega, by omega, by go_num, rfl, by omega, hTm, HQ4.out, ?_⟩
            exact hbl.out.trans (below_drewN (HF5.out.below hBw) _)
          case measure => simp [intOf]; omega
      · rw [hdt] at hqa hdb hFT
        have HQA := Lib.hid hqa; clear hqa
        have HDB := Lib.hid hdb; clear hdb
        have HFT := Lib.hid hFT; clear hFT
        have TK := Lib.hid (quill_take _ _ _ _ _ HQA.out)
        clear hal
        go_wp2_with fail
        refine TK.out.mono ?_
        rintro e w2 ⟨rfl, hq2, hf2⟩
        have hdb2 : w2.heap[wr.heap.size]? = some (.cells #[.bool d.line, .bool true, .slice d.a d.len d.cap] 40 (0, 0)) := by
          rw [hf2.block wr.heap.size (by simp) (.inr ⟨by have : B < wr.heap.size := (by obtain ⟨_, h, _⟩ := hq.out; exact lt_of_block h); omega, fun cs fr e => by
            rw [HDB.out] at e; simp at e⟩)]
          exact HDB.out
        have e0 : w2.cell? ⟨wr.heap.size, 0, none⟩ = some (.bool d.line) := by rw [cell_of_row w2 _ 0 _ _ _ hdb2]; rfl
        have e2 : w2.cell? ⟨wr.heap.size, 2, none⟩ = some (.slice d.a d.len d.cap) := by rw [cell_of_row w2 _ 2 _ _ _ hdb2]; rfl
        have hds := lt_of_block hdb2
        have E0 := Lib.hid e0; clear e0 hdb2
        have HQ2 := Lib.hid hq2; clear hq2
        have HFB := Lib.hid (HFT.out.trans hf2); clear hf2
        have HDS := Lib.hid hds; clear hds
        have hfew := few4_any w2 d.a d.len d.cap d.ss (strsArg_below (strsArg_below HSD.out H1.out) (by
          have h1 : Below w1.heap.size w1 (w1.alloc (.cells #[.slice none 0 0, .int .i64 mo] 106)) := (Below.refl _ _).alloc (Nat.le_refl _) _
          have h2 := hbl.out
          rw [HB.out] at h2
          have h3 := HFB.out.below hBw
          rw [HB.out] at h3
          exact (h1.trans h2).trans h3))
        have FEW := Lib.hid hfew; clear hfew
        go_wp2_with fail
        refine FEW.out.mono ?_
        rintro e w3 ⟨v, rfl, hown, hb3⟩
        obtain ⟨F, hF⟩ : ∃ F, F = few4 d.ss := ⟨_, rfl⟩
        have hft := few4_total d.ss
        rw [← hF] at hown hft
        obtain ⟨hf1, hf2, hf3⟩ := hft
        have HF3 := Lib.hid hf3; clear hf3 hF
        obtain ⟨va, vc, hv, hsi, hcap, hvc⟩ := strsIn_own (B := B) hown
        subst hv
        have e30 : w3.cell? ⟨wr.heap.size, 0, none⟩ = some (.bool d.line) := by rw [hb3.cell (by exact HDS.out)]; exact E0.out
        have hq3 := quillAt_frT HQ2.out hb3
        have HQ3 := Lib.hid hq3; clear hq3
        have HSI := Lib.hid hsi; clear hsi
        have HOW := Lib.hid hown; clear hown
        have HCAP := Lib.hid hcap; clear hcap
        have hz23 := hb3.size
        have HF4 := Lib.hid (HFB.out.trans (FrT.ofBelow (B := B) (b := B) (T := 5) hb3)); clear hb3
        cases hdl : d.line
        · rw [hdl] at e30
          have PUT := Lib.hid (quill_put' w3 B B ([] : List UInt8) mo va F.length vc F rfl HQ3.out hm0 hm1 (by exact hm0) (by simp; omega) HSI.out (by unfold maxLen; omega) HF3.out)
          go_wp2_with fail
          refine PUT.out.mono ?_
          intro e w4 hp
          obtain ⟨rfl, hq4, hf4⟩ := hp
          have hs4 : StrsIn w4 B va F := by
            obtain ⟨v0, hv0, _⟩ := HQ3.out
            exact strsIn_fr HSI.out hf4 hv0 (by decide) (Nat.le_refl _)
          have hf5 := HF4.out.trans hf4
          have rp := (refPut4_any w4 B ([] : List UInt8) most va F.length vc F rfl hs4 (by omega) (by simp; omega) h0 h1 (by rw [← HMO.out]; exact hm0))
          clear hs4 hf4
          obtain ⟨T, hT⟩ : ∃ T, T = putL ([] : List UInt8) mo F := ⟨_, rfl⟩
          have hTl : T.length ≤ ([] : List UInt8).length + 242 := by
            rw [hT]; unfold putL; split
            · rw [List.length_append]; omega
            · omega
          have hTm : (T.length : Int) ≤ mo := by
            rw [hT]; unfold putL putOk; split
            · rename_i h; have h2 := of_decide_eq_true h; rw [List.length_append]; omega
            · exact hm0
          obtain ⟨E, hE⟩ : ∃ E, E = putE ([] : List UInt8) mo F := ⟨_, rfl⟩
          rw [← HMO.out, ← hT, ← hE] at rp
          rw [← hT] at hq4
          rw [← hE]
          have RP := Lib.hid rp; clear rp
          have TX := Lib.hid (quill_text w4 _ _ _ _ hq4)
          have LN := Lib.hid (quill_len w4 _ _ _ _ hq4)
          have LF := Lib.hid (quill_left w4 _ _ _ _ hq4 hm0 hm1 hTm)
          have LN2 := Lib.hid (fun n => quill_len (World.drewN w4 n) B B T mo hq4)
          have HQ4 := Lib.hid hq4; clear hq4 hT hE
          have HF5 := Lib.hid hf5; clear hf5
          go_wp2_with fail
          (refine (RP.out).mono ?_; rintro e w' ⟨rfl, rfl⟩; go_wp2_with fail)
          (refine (TX.out).mono ?_; rintro e w' ⟨rfl, rfl⟩; go_wp2_with fail)
          (refine (LN.out).mono ?_; rintro e w' ⟨rfl, rfl⟩; go_wp2_with fail)
          refine LF.out.mono ?_
          rintro e w' ⟨rfl, n, rfl⟩
          have hmx : max most 0 = mo := HMO.out.symm
          go_wp2_with fail
          (refine (LN2.out _).mono ?_; rintro e w' ⟨rfl, rfl⟩; go_wp2_with fail)
          go_roundw
          case rel =>
            refine ⟨k + 1, T, by omega, by omega, by go_num, rfl, by have hz : ([] : List UInt8).length = 0 := rfl; omega, hTm, HQ4.out, ?_⟩
            exact hbl.out.trans (below_drewN (HF5.out.below hBw) _)
          case measure => simp [intOf]; omega
        · rw [hdl] at e30
          have PUT := Lib.hid (quill_line w3 B B ([] : List UInt8) mo va vc F HQ3.out hm0 hm1 (by exact hm0) (by rw [bytesOf_snoc]; simp [crlf]; omega) HSI.out HCAP.out (by omega) HF3.out)
          go_wp2_with fail
          refine PUT.out.mono ?_
          intro e w4 hp
          obtain ⟨rfl, hq4, hf4⟩ := hp
          have how4 : w4.ownsRow w2.heap.size 9 1 (.slice va F.length vc) F.length (strCells F) := by
            obtain ⟨v0, hv0, _⟩ := HQ3.out
            exact own_frT HOW.out hf4 (by decide) hv0 (by decide)
          have HO4 := Lib.hid how4; clear how4
          have hz4 : w2.heap.size ≤ w4.heap.size := Nat.le_trans hz23 hf4.size
          go_wp2_with (at_builtin; refine app_one 26 9 (.string ByteArray.empty) 16 Try.underlying26 info_str rfl (by rfl) (.tmp 45) (.tmp 46) (by rfl) w4 w2.heap.size _ F.length (strCells F) (.string crlf) (by rfl) HO4.out (by rfl) rfl ?_ ?_ ?_ ?_)
          · omega
          · unfold maxLen; omega
          · exact hz4
          intro g cp w5 hown5 hg5 hat hbg hgl
          rw [strCells_snoc] at hown5
          have hln : F.length + 1 = (F ++ [crlf]).length := by simp
          rw [hln] at hown5
          obtain ⟨sa, sc, hsa, hs5, _, _⟩ := strsIn_own (B := B) hown5
          obtain ⟨hsa1, _, hsa3⟩ := Value.slice.inj hsa
          subst hsa1 hsa3
          have hq5 := quillAt_grown hq4 HO4.out hg5
          have hf5 : FrT B B 5 wr w5 := by
            have h4 := HF4.out.trans hf4
            exact ⟨hg5.os.trans h4.os, hg5.tape.trans h4.tape, hg5.output.trans h4.output, Nat.le_trans h4.size hg5.size, fun k hk hp => by
              rw [hg5.block k (Nat.lt_of_lt_of_le hk h4.size) (fun e => by
                have h1 := (HO4.out.lt k e.symm).1
                have h2 := HDS.out
                omega)]
              exact h4.block k hk hp⟩
          have hbt : (bytesOf (F ++ [crlf])).length ≤ 242 := by rw [bytesOf_snoc]; simp [crlf]; omega
          obtain ⟨G, hG⟩ : ∃ G, G = F ++ [crlf] := ⟨_, rfl⟩
          rw [← hG] at hbt hs5 hq5 hln ⊢
          have rp := (refPut4_any w5 B ([] : List UInt8) most _ (F.length + 1) cp G hln hs5 (by omega) (by simp; omega) h0 h1 (by rw [← HMO.out]; exact hm0))
          clear hs5 hown5 hsa hg5 hat hf4 hq4
          have hq4 := hq5
          have HG := Lib.hid hG; clear hG hq5 hln
          obtain ⟨T, hT⟩ : ∃ T, T = putL ([] : List UInt8) mo G := ⟨_, rfl⟩
          have hTl : T.length ≤ ([] : List UInt8).length + 242 := by
            rw [hT]; unfold putL; split
            · rw [List.length_append]; omega
            · omega
          have hTm : (T.length : Int) ≤ mo := by
            rw [hT]; unfold putL putOk; split
            · rename_i h; have h2 := of_decide_eq_true h; rw [List.length_append]; omega
            · exact hm0
          obtain ⟨E, hE⟩ : ∃ E, E = putE ([] : List UInt8) mo G := ⟨_, rfl⟩
          rw [← HMO.out, ← hT, ← hE] at rp
          rw [← hT] at hq4
          rw [← hE]
          have RP := Lib.hid rp; clear rp
          have TX := Lib.hid (quill_text w5 _ _ _ _ hq4)
          have LN := Lib.hid (quill_len w5 _ _ _ _ hq4)
          have LF := Lib.hid (quill_left w5 _ _ _ _ hq4 hm0 hm1 hTm)
          have LN2 := Lib.hid (fun n => quill_len (World.drewN w5 n) B B T mo hq4)
          have HQ4 := Lib.hid hq4; clear hq4 hT hE
          have HF5 := Lib.hid hf5; clear hf5
          go_wp2_with fail
          (refine (RP.out).mono ?_; rintro e w' ⟨rfl, rfl⟩; go_wp2_with fail)
          (refine (TX.out).mono ?_; rintro e w' ⟨rfl, rfl⟩; go_wp2_with fail)
          (refine (LN.out).mono ?_; rintro e w' ⟨rfl, rfl⟩; go_wp2_with fail)
          refine LF.out.mono ?_
          rintro e w' ⟨rfl, n, rfl⟩
          have hmx : max most 0 = mo := HMO.out.symm
          go_wp2_with fail
          (refine (LN2.out _).mono ?_; rintro e w' ⟨rfl, rfl⟩; go_wp2_with fail)
          go_roundw
          case rel =>
            refine ⟨k + 1, T, by omega, by omega, by go_num, rfl, by have hz : ([] : List UInt8).length = 0 := rfl; omega, hTm, HQ4.out, ?_⟩
            exact hbl.out.trans (below_drewN (HF5.out.below hBw) _)
          case measure => simp [intOf]; omega
    · have hg : (k < len ∧ 30 ≤ k) ∨ len ≤ k := by omega
      clear hlt
      rcases hg with ⟨hl1, hl2⟩ | hl1
      all_goals
        go_wp2_with fail
        go_ret
        refine ⟨rfl, ?_⟩
        have h1 : Below w1.heap.size w1 (w1.alloc (.cells #[.slice none 0 0, .int .i64 mo] 106)) := (Below.refl _ _).alloc (Nat.le_refl _) _
        have h2 := hbl.out
        rw [HB.out] at h2
        exact bseq H1.out (h1.trans h2)

end Go.Proofs.Ythhpijmkhhdhhaa
