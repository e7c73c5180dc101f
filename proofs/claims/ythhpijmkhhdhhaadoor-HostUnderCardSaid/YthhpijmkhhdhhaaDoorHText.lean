/- A host's text: plain law; quill.Join; hostport.Text. -/
import Derived.Test.YthhpijmkhhdhhaaDoorHParseR
import Derived.Laws.StructEq
namespace Go.Proofs.YthhpijmkhhdhhaaDoor
open Go.RowKit
set_option linter.unusedVariables false
set_option linter.unusedSimpArgs false

def mkH (l : List UInt8) : ByteArray := ⟨l.toArray⟩
theorem mkH_data (l : List UInt8) : (mkH l).data.toList = l := by simp [mkH]
theorem mkH_size (l : List UInt8) : (mkH l).size = l.length := by rw [Lib.size_eq, mkH_data]
theorem mkH_of (s : ByteArray) : mkH s.data.toList = s := bytes_extX (mkH_data _)

def hostEq (a b : HostB) : Bool := (a.K == b.K) && ((a.Nm.toList == b.Nm.toList) && (a.Po == b.Po))
theorem hostEq_iff (a b : HostB) : hostEq a b = true ↔ a = b := by
  unfold hostEq
  simp only [Bool.and_eq_true, beq_iff_eq, Lib.toList_data]
  constructor
  · rintro ⟨h0, h1, h2⟩
    obtain ⟨k, n, p⟩ := a
    obtain ⟨k', n', p'⟩ := b
    simp only at h0 h1 h2
    rw [h0, bytes_extX h1, h2]
  · rintro rfl; simp

set_option maxHeartbeats 1000000 in
theorem host_equalIn (a b : HostB) (W : World) : (Op.equalIn 10000 69 a.val b.val).run Tryd.prog W = .ok (hostEq a b) W := by
  obtain ⟨k, n, p⟩ := a
  obtain ⟨k', n', p'⟩ := b
  unfold HostB.val HostB.cells hostEq
  simp only
  have hS : Tryd.prog.underlying 69 = some (.struct (Tryd.prog.fieldsOf 69)) := by kernel_rfl
  have hp : Tryd.prog.stoodInHeld 69 = false := by kernel_rfl
  rw [show (10000 : Nat) = 9999 + 1 from rfl, run_equalIn_agg W 9999 69 _ _ hS hp]
  simp only [Program.fieldsOf, Tryd.underlying69]
  go_simp
  (repeat' split) <;> simp_all
theorem host_eql (a b : HostB) (W : World) : (binOp .eql 69 a.val b.val).run Tryd.prog W = .ok (.bool (hostEq a b)) W := by
  have h := host_equalIn a b W
  unfold HostB.val at h ⊢
  rw [run_eql_struct, h]; rfl
theorem host_neq (a b : HostB) (W : World) : (binOp .neq 69 a.val b.val).run Tryd.prog W = .ok (.bool (!hostEq a b)) W := by
  have h := host_equalIn a b W
  unfold HostB.val at h ⊢
  rw [run_neq_struct, h]; rfl

def preL (h : HostB) : List UInt8 := if h.K = 3 then 91 :: (h.Nm.data.toList ++ [93]) else h.Nm.data.toList
def txtL (h : HostB) : List UInt8 := preL h ++ (if h.Po = -1 then [] else 58 :: textB 10 h.Po)
def backH (h : HostB) : Bool := match parseB (mkH (txtL h)) with
  | some x => hostEq x h
  | none => false
def txtV (h : HostB) : Value := if backH h then .tuple #[.string (mkH (txtL h)), .int .i64 0] else .tuple #[.string ⟨#[]⟩, .int .i64 27]
theorem textB_len (n : Int) (h0 : -9223372036854775808 ≤ n) (h1 : n ≤ 9223372036854775807) : (textB 10 n).length ≤ 19 := by
  unfold textB
  by_cases h : n < 0
  · rw [if_pos h]; decide
  · rw [if_neg h]
    exact digL_len (by decide) 19 _ (by decide) (by show n.toNat < 10000000000000000000; omega)
theorem txtL_len (h : HostB) (h0 : -9223372036854775808 ≤ h.Po) (h1 : h.Po ≤ 9223372036854775807) : (txtL h).length ≤ h.Nm.size + 22 := by
  unfold txtL preL
  rw [List.length_append, Lib.size_eq]
  have := textB_len h.Po h0 h1
  have a1 : (if h.K = 3 then 91 :: (h.Nm.data.toList ++ [93]) else h.Nm.data.toList).length ≤ h.Nm.data.toList.length + 2 := by split <;> simp
  have a2 : (if h.Po = -1 then ([] : List UInt8) else 58 :: textB 10 h.Po).length ≤ 20 := by
    split
    · simp
    · simp; omega
  omega

theorem joinTail_flat : ∀ ps : List (List UInt8), Lib.joinTail [] ps = ps.flatten
  | [] => rfl
  | p :: ps => by simp [Lib.joinTail, joinTail_flat ps]
theorem join_flat (ps : List (List UInt8)) : Lib.join ps [] = ps.flatten := by
  cases ps with
  | nil => rfl
  | cons p ps => rw [Lib.join_cons, joinTail_flat]; rfl

theorem own_lit (w : World) (B : Nat) (hB : B ≤ w.heap.size) (xs : List ByteArray) (hx : xs.length ≤ 1000) :
    (w.alloc (.cells (xs.map Value.string).toArray 9)).ownsRow B 9 1 (.slice (some ⟨w.heap.size, 0, none⟩) xs.length xs.length) xs.length (xs.map Value.string) :=
  ⟨by simp, .inr ⟨w.heap.size, xs.length, _, rfl, hB, heap_alloc_new w _, Nat.le_refl _, by unfold maxLen; omega, by simp, by simp [List.take_of_length_le]⟩⟩

theorem qJoin_own (w : World) (B : Nat) (v : Value) (xs : List ByteArray) (h : w.ownsRow B 9 1 v xs.length (xs.map Value.string)) (hne : xs ≠ []) (hl : xs.length ≤ 1000) (hf : ((xs.map (·.data.toList)).flatten).length ≤ 1000000) :
    Calls Tryd.prog 90 #[.string ⟨#[]⟩, v] w fun e w' => e = .returned (.string (mkH ((xs.map (·.data.toList)).flatten))) ∧ Below w.heap.size w w' := by
  have hpos : 0 < xs.length := List.length_pos_iff.2 hne
  rcases h.2 with ⟨rfl, hz⟩ | ⟨g, cp, cur, rfl, _, hg, hcp, _⟩
  · omega
  · have SJ := Lib.hid (Tryd.strings_Join g 0 cp xs ⟨#[]⟩ w (by
      intro j x hx
      obtain ⟨hj, rfl⟩ := List.getElem?_eq_some_iff.1 hx
      rw [Nat.zero_add]
      have := World.ownsRow.cellAt h j (by omega)
      rw [this, List.getElem?_map, List.getElem?_eq_getElem hj]; rfl) (lt_of_block hg) (by omega) hcp (by rw [show (⟨#[]⟩ : ByteArray).data.toList = [] from rfl, join_flat]; omega))
    rw [show (⟨#[]⟩ : ByteArray).data.toList = [] from rfl, join_flat] at SJ
    clear h
    go_enter Tryd.func90, Tryd.ntmps90
    go_wp2_with fail
    refine SJ.out.mono ?_
    rintro e w1 ⟨rfl, hb1⟩
    have HB1 := Lib.hid hb1; clear hb1
    go_wp2_with fail
    go_ret
    exact ⟨rfl, HB1.out⟩

theorem info_strH : (Tryd.prog.info? 9).map (fun i => (i.zero, i.size, i.bytes)) = some (some (.string ByteArray.empty), 1, 16) := by kernel_rfl

set_option maxRecDepth 1000000 in
set_option maxHeartbeats 4000000 in
theorem pTextH_any (h : HostB) (w : World) (hs : h.Nm.size ≤ 1000) (h0 : -9223372036854775808 ≤ h.Po) (h1 : h.Po ≤ 9223372036854775807) (hM : MaxAt w) (hP : PowAt w) :
    Calls Tryd.prog 57 #[h.val] w fun e w' => e = .returned (txtV h) ∧ Below w.heap.size w w' := by
  have HM := Lib.hid hM; have HP := Lib.hid hP; clear hM hP
  have htl := txtL_len h h0 h1
  have PA := Lib.hid (fun W a b => pParseH_any (mkH (txtL h)) W (by rw [mkH_size]; omega) a b)
  have htv : txtV h = if backH h then .tuple #[.string (mkH (txtL h)), .int .i64 0] else .tuple #[.string ⟨#[]⟩, .int .i64 27] := rfl
  obtain ⟨X, ee, hpv, hbk⟩ : ∃ X ee, hostV (parseB (mkH (txtL h))) = .tuple #[HostB.val X, .int .i64 ee] ∧ ((ee = 27 ∧ backH h = false) ∨ (ee = 0 ∧ backH h = hostEq X h)) := by
    unfold backH
    cases parseB (mkH (txtL h)) with
    | some x => exact ⟨x, 0, rfl, .inr ⟨rfl, rfl⟩⟩
    | none => exact ⟨_, 27, rfl, .inl ⟨rfl, rfl⟩⟩
  rw [hpv] at PA
  have NQ := fun W => host_neq X h W
  obtain ⟨bk, hbk2⟩ : ∃ bk, backH h = bk := ⟨_, rfl⟩
  rw [hbk2] at hbk htv
  have HBK := Lib.hid hbk; clear hbk hpv hbk2
  have htx : txtL h = preL h ++ (if h.Po = -1 then [] else 58 :: textB 10 h.Po) := rfl
  have hpr : preL h = if h.K = 3 then 91 :: (h.Nm.data.toList ++ [93]) else h.Nm.data.toList := rfl
  have hprl : (preL h).length ≤ h.Nm.size + 2 := by rw [hpr, Lib.size_eq]; split <;> simp
  have TX := Lib.hid (fun W a => numText_any h.Po W h0 h1 a)
  have hT : ∃ T : ByteArray, (⟨(textB 10 h.Po).toArray⟩ : ByteArray) = T ∧ T.data.toList = textB 10 h.Po := ⟨_, rfl, rfl⟩
  obtain ⟨T, hT1, hT2⟩ := hT
  have hTl := textB_len h.Po h0 h1
  rw [hT1] at TX
  rw [← hT2] at htx hTl
  obtain ⟨tx, htx2⟩ : ∃ tx, txtL h = tx := ⟨_, rfl⟩
  obtain ⟨pr, hpr2⟩ : ∃ pr, preL h = pr := ⟨_, rfl⟩
  rw [htx2] at PA htx htv htl
  rw [hpr2] at htx hpr hprl
  clear htx2 hpr2 hT1 hT2
  obtain ⟨K, Nm, Po⟩ := h
  simp only at hs h0 h1 htl htx hpr hprl TX
  have HTX := Lib.hid htx; have HTV := Lib.hid htv; have HPR := Lib.hid hpr; clear htx htv hpr
  obtain ⟨i0, hi, hz0, hz1, hz2⟩ := info_parts info_strH
  have r1 : HostAt (w.alloc (.cells (⟨K, Nm, Po⟩ : HostB).cells 69)) w.heap.size ⟨K, Nm, Po⟩ := hostAt_new w _
  have hb1 : Below w.heap.size w (w.alloc (.cells (⟨K, Nm, Po⟩ : HostB).cells 69)) := (Below.refl _ _).alloc (Nat.le_refl _) _
  unfold HostB.val HostB.cells at PA NQ
  simp only at PA NQ
  show Calls Tryd.prog 57 #[.agg #[.int .i64 K, .string Nm, .int .i64 Po]] w _
  go_enter Tryd.func57, Tryd.ntmps57
  go_upto_region 1 with fail
  obtain ⟨w1, hw1⟩ : ∃ w1, w.alloc (.cells (⟨K, Nm, Po⟩ : HostB).cells 69) = w1 := ⟨_, rfl⟩
  rw [hw1] at r1 hb1
  unfold HostB.cells at hw1
  simp only at hw1
  rw [hw1]
  clear hw1
  have R1 := Lib.hid r1; have HB1 := Lib.hid hb1; clear hb1
  obtain ⟨c0, c1, c2⟩ := host_cells r1
  dsimp only at c0 c1 c2
  clear r1
  go_upto_region 2 with fail
  have r2 := hostAt_alloc R1.out (.cells #[.string Nm] 9)
  have hb2 := HB1.out.alloc HB1.out.size (.cells #[.string Nm] 9)
  have o2 := own_lit w1 w1.heap.size (Nat.le_refl _) [Nm] (by simp)
  have hsz2 : w1.heap.size ≤ (w1.alloc (.cells #[.string Nm] 9)).heap.size := by simp
  have hlt1 : w.heap.size < w1.heap.size := hostAt_lt R1.out
  obtain ⟨B, hB⟩ : ∃ B, w1.heap.size = B := ⟨_, rfl⟩
  have hw2 : (w1.alloc (.cells ([Nm].map Value.string).toArray 9)) = w1.alloc (.cells #[.string Nm] 9) := rfl
  rw [hw2] at o2
  clear hw2
  rw [hB] at o2 hsz2 hlt1 ⊢
  obtain ⟨w2, hw2⟩ : ∃ w2, w1.alloc (.cells #[.string Nm] 9) = w2 := ⟨_, rfl⟩
  rw [hw2] at r2 hb2 o2 hsz2 ⊢
  clear hw2 hB R1 HB1 c0 c1 c2
  have R2 := Lib.hid r2; have HB2 := Lib.hid hb2; have O2 := Lib.hid o2; have HLT := Lib.hid hlt1; have HSZ := Lib.hid hsz2
  obtain ⟨c0, c1, c2⟩ := host_cells r2
  dsimp only at c0 c1 c2
  clear r2 hb2 o2 hlt1 hsz2
  go_upto_if 13 with fail
  go_cut [4] (fun v wx => ∃ xs : List ByteArray, Hid (wx.ownsRow B 9 1 v xs.length (xs.map Value.string)) ∧ Hid (xs ≠ []) ∧ xs.length ≤ 3 ∧ Hid ((xs.map (·.data.toList)).flatten = pr) ∧ HostAt wx w.heap.size ⟨K, Nm, Po⟩ ∧ Below w.heap.size w wx ∧ B ≤ wx.heap.size)
  case first =>
    by_cases hk : K = 3
    · subst hk
      have HP3 : Hid (pr = 91 :: (Nm.data.toList ++ [93])) := Lib.hid (by rw [HPR.out]; rfl)
      go_wp2_with fail
      go_meet
      have o3 := own_lit w2 B HSZ.out [⟨#[91]⟩, Nm, ⟨#[93]⟩] (by simp)
      exact ⟨[⟨#[91]⟩, Nm, ⟨#[93]⟩], Lib.hid o3, Lib.hid (by simp), by simp, Lib.hid (by rw [HP3.out]; simp), hostAt_alloc R2.out _, HB2.out.alloc HB2.out.size _, by simp; have := HSZ.out; omega⟩
    · have hk1 : (K == 3) = false := by rw [beq_eq_false_iff_ne]; exact hk
      have HP3 : Hid (pr = Nm.data.toList) := Lib.hid (by rw [HPR.out, if_neg hk])
      go_wp2_with fail
      go_meet
      exact ⟨[Nm], O2, Lib.hid (by simp), by simp, Lib.hid (by rw [HP3.out]; simp), R2.out, HB2.out, HSZ.out⟩
  case rest =>
    obtain ⟨xs, own, hxne, hxl, hflat, hr3, hb3, hsz3⟩ := hcut
    clear R2 HB2 O2 HSZ c0 c1 c2
    have R3 := Lib.hid hr3; have HB3 := Lib.hid hb3; have HSZ := Lib.hid hsz3
    clear hr3 hb3 hsz3
    obtain ⟨c0, c1, c2⟩ := host_cells R3.out
    dsimp only at c0 c1 c2
    go_upto_if 19 with fail
    go_cut [4] (fun v wx => ∃ xs : List ByteArray, Hid (wx.ownsRow B 9 1 v xs.length (xs.map Value.string)) ∧ Hid (xs ≠ []) ∧ xs.length ≤ 5 ∧ Hid ((xs.map (·.data.toList)).flatten = tx) ∧ HostAt wx w.heap.size ⟨K, Nm, Po⟩ ∧ Below w.heap.size w wx)
    case first =>
      by_cases hpo : Po = -1
      · have hp1 : (Po != -1) = false := by rw [bne, beq_iff_eq.2 hpo]; rfl
        have HT3 : Hid (pr = tx) := Lib.hid (by rw [HTX.out, if_pos hpo, List.append_nil])
        clear hpo
        go_wp2_with fail
        go_meet
        exact ⟨xs, own, hxne, by omega, Lib.hid (by rw [hflat.out, HT3.out]), R3.out, HB3.out⟩
      · have hp1 : (Po != -1) = true := by rw [bne, beq_eq_false_iff_ne.2 hpo]; rfl
        have HT3 : Hid (tx = pr ++ 58 :: T.data.toList) := Lib.hid (by rw [HTX.out, if_neg hpo])
        clear hpo
        go_wp2_with fail
        refine (TX.out _ (powAt_below HP.out HB3.out)).mono ?_
        rintro e w4 ⟨rfl, hw4⟩
        have OW4 := Lib.hid (World.ownsRow.alloc (w := w4) (own_below own.out hw4) (.cells #[.string ⟨#[58]⟩, .string T] 9))
        have HB4 := Lib.hid (bseq HB3.out hw4)
        have R4 := Lib.hid (hostAt_alloc (hostAt_call R3.out hw4) (.cells #[.string ⟨#[58]⟩, .string T] 9))
        have hbs4 : B ≤ w4.heap.size := Nat.le_trans HSZ.out hw4.size
        have HS4 := Lib.hid hbs4
        clear hw4 hbs4 c0 c1 c2
        go_wp2_with (at_builtin; refine wpList_append_own _ (by rfl) (.tmp 20) (.tmp 24) 39 (by rfl) B 9 i0 (.string ByteArray.empty) 1 16 Tryd.underlying39 hi hz0 hz1 hz2 rfl (by decide) u4 xs.length (xs.map Value.string) (by rfl) OW4.out ⟨w4.heap.size, 0, none⟩ 2 2 [.string ⟨#[58]⟩, .string T] (by rfl) rfl ?_ ?_ ?_ ?_ ?_ ?_)
        · intro j u hj
          have : j = 0 ∨ j = 1 := by
            have := (List.getElem?_eq_some_iff.1 hj).1
            simp at this; omega
          rcases this with rfl | rfl
          · simp at hj; subst hj; simp [Addr.add]
          · simp at hj; subst hj; simp [Addr.add]
        · intro u hu
          simp at hu
          rcases hu with rfl | rfl <;> rfl
        · unfold maxLen; omega
        · omega
        · simp; have := HS4.out; omega
        intro v' w5 hown5 hg5 _
        have hbb : Below B (w4.alloc (.cells #[.string ⟨#[58]⟩, .string T] 9)) w5 := app_below (Below.refl _ _) OW4.out hg5 (Nat.le_refl _) (by simp; have := HS4.out; omega)
        have R5 := Lib.hid (hostAt_below R4.out hbb HLT.out)
        have hle := HLT.out
        have HB5 := Lib.hid ((HB4.out.alloc HB4.out.size (.cells #[.string ⟨#[58]⟩, .string T] 9)).trans (hbb.mono (Nat.le_of_lt hle)))
        have e5 : xs.map Value.string ++ [.string ⟨#[58]⟩, .string T] = (xs ++ [⟨#[58]⟩, T]).map Value.string := by simp
        rw [e5] at hown5
        have O5 : Hid (w5.ownsRow B 9 1 v' (xs ++ [⟨#[58]⟩, T]).length ((xs ++ [⟨#[58]⟩, T]).map Value.string)) := Lib.hid (by rw [List.length_append]; exact hown5)
        clear hown5 hg5 hbb e5 hle
        go_wp2_with fail
        go_meet
        exact ⟨xs ++ [⟨#[58]⟩, T], O5, Lib.hid (by simp), by simp; omega, Lib.hid (by rw [List.map_append, List.flatten_append, hflat.out, HT3.out]; simp), R5.out, HB5.out⟩
    case rest =>
      obtain ⟨ys, own5, hyne, hyl, hyflat, hr5, hb5⟩ := hcut
      clear own hxne hxl hflat R3 HB3 HSZ c0 c1 c2
      have QJ := Lib.hid (qJoin_own wc B u4 ys own5.out hyne.out (by omega) (by rw [hyflat.out]; omega))
      rw [hyflat.out] at QJ
      have R5 := Lib.hid hr5; have HB5 := Lib.hid hb5
      clear hr5 hb5 own5 hyne hyl hyflat
      obtain ⟨c0, c1, c2⟩ := host_cells R5.out
      dsimp only at c0 c1 c2
      go_wp2_with fail
      refine QJ.out.mono ?_
      rintro e w6 ⟨rfl, hw6⟩
      have R6 := Lib.hid (hostAt_call R5.out hw6)
      have HB6 := Lib.hid (bseq HB5.out hw6)
      clear hw6 c0 c1 c2 QJ R5 HB5
      obtain ⟨X0, X1, X2⟩ := X
      simp only at PA NQ
      go_wp2_with fail
      refine (PA.out _ (maxAt_below HM.out HB6.out) (powAt_below HP.out HB6.out)).mono ?_
      rintro e w7 ⟨rfl, hw7⟩
      have r7 := hostAt_call R6.out hw7
      have hbb := bseq HB6.out hw7
      have N7 := Lib.hid (hostAt_new w7 ⟨X0, X1, X2⟩)
      have R7 := Lib.hid (hostAt_alloc r7 (.cells (⟨X0, X1, X2⟩ : HostB).cells 69))
      have HB7 := Lib.hid (hbb.alloc hbb.size (.cells (⟨X0, X1, X2⟩ : HostB).cells 69))
      clear r7 hbb hw7 R6 HB6 PA
      obtain ⟨c0, c1, c2⟩ := host_cells R7.out
      obtain ⟨d0, d1, d2⟩ := host_cells N7.out
      dsimp only [HostB.cells] at c0 c1 c2 d0 d1 d2
      rcases HBK.out with ⟨rfl, hk⟩ | ⟨rfl, hk⟩
      · have HK := Lib.hid hk; clear hk
        go_wp2_with fail
        go_ret2
        exact ⟨by rw [HTV.out, HK.out]; rfl, HB7.out⟩
      · have HK := Lib.hid hk; clear hk
        cases hre : hostEq ⟨X0, X1, X2⟩ ⟨K, Nm, Po⟩ with
        | true =>
          rw [hre] at HK
          simp only [hre] at NQ
          clear hre
          go_wp2_with fail
          go_ret2
          exact ⟨by rw [HTV.out, HK.out]; rfl, HB7.out⟩
        | false =>
          rw [hre] at HK
          simp only [hre] at NQ
          clear hre
          go_wp2_with fail
          go_ret2
          exact ⟨by rw [HTV.out, HK.out]; rfl, HB7.out⟩

end Go.Proofs.YthhpijmkhhdhhaaDoor
