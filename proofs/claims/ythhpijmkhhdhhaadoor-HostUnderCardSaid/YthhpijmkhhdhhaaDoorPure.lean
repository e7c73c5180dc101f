/- Plain definitions: what the byte classes and folds compute. No program in sight. -/
import Derived.Lib.Bytealg
import Derived.Lib.IndexLaws
namespace Go.Proofs.YthhpijmkhhdhhaaDoor
open Go

def bDigit (n : Int) : Bool := decide (48 ≤ n) && decide (n ≤ 57)
def bLow (n : Int) : Int := if 65 ≤ n ∧ n ≤ 90 then n + 32 else n
def bAlpha (n : Int) : Bool := decide (97 ≤ bLow n) && decide (bLow n ≤ 122)
def bHex (n : Int) : Bool := bDigit n || (decide (97 ≤ bLow n) && decide (bLow n ≤ 102))
def bBlank (n : Int) : Bool := (n == 32) || (n == 9)
def bVisible (n : Int) : Bool := decide (32 < n) && decide (n < 127)
def bOne (n : Int) (l : List UInt8) : Bool := l.any fun c => (c.toNat : Int) == n
def bTok (n : Int) : Bool := bAlpha n || bDigit n || bOne n [33, 35, 36, 37, 38, 39, 42, 43, 45, 46, 94, 95, 96, 124, 126]
def bValue (n : Int) : Bool := bVisible n || bBlank n || decide (127 < n)
def bUnres (n : Int) : Bool := bAlpha n || bDigit n || bOne n [45, 46, 95, 126]
def bSub (n : Int) : Bool := bOne n [33, 36, 38, 39, 40, 41, 42, 43, 44, 59, 61]
def bPath (n : Int) : Bool := bUnres n || bSub n || bOne n [58, 64]

theorem bLow_range (n : Int) (h0 : 0 ≤ n) (h1 : n ≤ 255) : 0 ≤ bLow n ∧ bLow n ≤ 255 := by
  unfold bLow; split <;> omega

theorem u8_toNat_ofInt (n : Int) (h0 : 0 ≤ n) (h1 : n ≤ 255) : ((n.toNat.toUInt8).toNat : Int) = n := by
  obtain ⟨k, rfl⟩ := Int.eq_ofNat_of_zero_le h0
  have hk : k < 256 := by omega
  simp [Nat.toUInt8, UInt8.toNat_ofNat', Nat.mod_eq_of_lt hk]

theorem indexByte_any (l : List UInt8) (c : UInt8) : decide (0 ≤ Lib.indexByte l c) = l.any (fun b => b == c) := by
  induction l with
  | nil => simp [Lib.indexByte]
  | cons b l ih =>
    have hg := Lib.indexByte_ge l c
    rw [List.any_cons, ← ih]
    show decide (0 ≤ if b == c then (0 : Int) else if Lib.indexByte l c == -1 then -1 else Lib.indexByte l c + 1) = _
    by_cases hb : b = c
    · simp [hb]
    · by_cases hm : Lib.indexByte l c = -1
      · simp [hb, hm]
      · have h2 : decide (0 ≤ Lib.indexByte l c + 1) = decide (0 ≤ Lib.indexByte l c) := by
          rw [Bool.eq_iff_iff]; simp; omega
        simp [hb, hm, h2]

theorem indexByte_bOne (l : List UInt8) (n : Int) (h0 : 0 ≤ n) (h1 : n ≤ 255) : decide (0 ≤ Lib.indexByte l n.toNat.toUInt8) = bOne n l := by
  rw [indexByte_any]
  unfold bOne
  congr 1
  funext b
  rw [Bool.eq_iff_iff]
  have hu := u8_toNat_ofInt n h0 h1
  simp only [beq_iff_eq]
  constructor
  · rintro rfl; exact hu
  · intro h
    apply UInt8.toNat_inj.1
    omega

/-- A byte, folded. -/
def lowB (c : UInt8) : UInt8 := (bLow (c.toNat : Int)).toNat.toUInt8

theorem lowB_toNat (c : UInt8) : ((lowB c).toNat : Int) = bLow (c.toNat : Int) := by
  have hc : c.toNat < 256 := c.toNat_lt
  have h := bLow_range (c.toNat : Int) (by omega) (by omega)
  exact u8_toNat_ofInt _ h.1 h.2

/-- A text, folded. -/
def foldL (l : List UInt8) : List UInt8 := l.map lowB

/-- Is each byte so? -/
def allB (q : Int → Bool) (l : List UInt8) : Bool := l.all fun c => q (c.toNat : Int)

/-- Is a text a token? -/
def tokenL (l : List UInt8) : Bool := !l.isEmpty && allB bTok l

theorem allB_append (q : Int → Bool) (a b : List UInt8) : allB q (a ++ b) = (allB q a && allB q b) := by simp [allB]
theorem allB_cons (q : Int → Bool) (c : UInt8) (b : List UInt8) : allB q (c :: b) = (q (c.toNat : Int) && allB q b) := rfl

end Go.Proofs.YthhpijmkhhdhhaaDoor
