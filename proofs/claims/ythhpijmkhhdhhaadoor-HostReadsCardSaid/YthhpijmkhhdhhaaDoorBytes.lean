/- Lemmas on worlds: the bytes of a string as a new slice, and back; small laws for the walks. -/
import Derived.Test.YthhpijmkhhdhhaaDoorOct
import Derived.Laws.IdiomStrings
import Derived.WalkSpells
import Derived.WalkLawsBesides
namespace Go.Proofs.YthhpijmkhhdhhaaDoor
open Go.RowKit
set_option linter.unusedVariables false
set_option linter.unusedSimpArgs false

theorem ret_str {a b : ByteArray} (h : a = b) : Ending.returned (.string a) = .returned (.string b) := by rw [h]

/-- Two calls, one behind the other. -/
theorem bseq {w w1 w2 : World} (h : Below w.heap.size w w1) (k : Below w1.heap.size w1 w2) : Below w.heap.size w w2 := h.trans (k.mono h.size)

/-- The bytes l lie in block B from offset o on. -/
def BytesAt (w : World) (B o : Nat) (l : List UInt8) : Prop := ∀ j (hj : j < l.length), w.cell? ⟨B, o + j, none⟩ = some (.int .u8 (l[j].toNat : Int))

/-- None of n cells of block B from o on is frozen. -/
def FreeAt (w : World) (B o n : Nat) : Prop := ∀ j, j < n → w.frozen? ⟨B, o + j, none⟩ = false

theorem addr_add0 (B o j : Nat) : (⟨B, o, none⟩ : Addr).add j = ⟨B, o + j, none⟩ := by unfold Addr.add; split <;> simp_all

/-- What []byte(s) gives: a new block that holds the bytes. -/
theorem bytes_of_string (w : World) (s : ByteArray) : ∃ C cap, (convert 9 104 (.string s)).run Tryd.prog w = .ok (.slice (some ⟨w.heap.size, 0, none⟩) s.size cap) (w.alloc (.cells C 5 (C.size, C.size + 1))).drew ∧
    (∀ j, C[j]? = if h : j < s.size then some (.int .u8 (s[j].toNat : Int)) else C[j]?) ∧ s.size ≤ C.size ∧ s.size ≤ cap := by
  refine ⟨_, _, run_bytes_of_string w 9 104 5 s Tryd.underlying9 Tryd.underlying104 Tryd.underlying5, ?_, ?_, ?_⟩
  · intro j
    split
    · rename_i h; exact bytesRow_at s _ j h
    · rfl
  · simp [bytesRow]
  · exact grownCap_ge w s.size 0 5

theorem bytes_of_string_world (w : World) (s : ByteArray) (C : Array Value) (h : ∀ j, C[j]? = if h : j < s.size then some (.int .u8 (s[j].toNat : Int)) else C[j]?) (hC : s.size ≤ C.size) :
    BytesAt (w.alloc (.cells C 5 (C.size, C.size + 1))).drew w.heap.size 0 s.data.toList ∧ FreeAt (w.alloc (.cells C 5 (C.size, C.size + 1))).drew w.heap.size 0 s.size := by
  constructor
  · intro j hj
    have hj' : j < s.size := by simpa using hj
    show (w.alloc (.cells C 5 (C.size, C.size + 1))).cell? _ = _
    rw [Nat.zero_add, World.cell?_alloc_mark, h j, dif_pos hj']
    rfl
  · intro j hj
    show (w.alloc (.cells C 5 (C.size, C.size + 1))).frozen? _ = _
    rw [Nat.zero_add, World.frozen?_alloc_mark]
    simp; omega

/-- string(b) where the bytes lie. -/
theorem string_of_bytes (w : World) (B o cap : Nat) (l : List UInt8) (h : BytesAt w B o l) :
    (convert 104 9 (.slice (some ⟨B, o, none⟩) l.length cap)).run Tryd.prog w = .ok (.string ⟨l.toArray⟩) w :=
  run_convert_bytes_back w 104 9 5 ⟨B, o, none⟩ cap l Tryd.underlying104 Tryd.underlying5 Tryd.underlying9 fun j hj => by rw [addr_add0]; exact h j hj

end Go.Proofs.YthhpijmkhhdhhaaDoor
