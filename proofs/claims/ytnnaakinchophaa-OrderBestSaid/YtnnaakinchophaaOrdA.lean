/- Plain arithmetic of masks of sixteen bits, and the words for an array of sixteen masks in memory; no condition beyond those written. -/
import Derived.Test.YtnnaakinchophaaProg
import Derived.Test.YtnnaakinchophaaWMore
import Derived.RegionTactic
import Derived.ChangeAlike
import Derived.LoopTactic
namespace Go.Proofs.Ytnnaakinchophaa.Ord
open Go.RowKit Go.Proofs.YtnnaakinchophaaW.PrintWords
set_option linter.unusedVariables false

/-! ### Bits -/
theorem div_cast (X k : Nat) : ((X : Int) / 2 ^ k) = ((X / 2 ^ k : Nat) : Int) := by
  rw [Int.natCast_ediv, Int.natCast_pow]
  rfl
theorem pow_cast (k : Nat) : ((2 : Int) ^ k) = ((2 ^ k : Nat) : Int) := by
  rw [Int.natCast_pow]
  rfl
theorem tb (X k : Nat) : X.testBit k = decide (X / 2 ^ k % 2 = 1) := Nat.testBit_eq_decide_div_mod_eq

theorem and_one (B : Nat) (hB : 2 ≤ B) (X : Nat) : (BitVec.ofInt B (X : Int) &&& BitVec.ofInt B 1).toNat = X % 2 := by
  rw [show (1 : Int) = ((1 : Nat) : Int) from rfl, BitVec.ofInt_natCast, BitVec.ofInt_natCast, BitVec.toNat_and, BitVec.toNat_ofNat, BitVec.toNat_ofNat]
  have h1 : 1 % 2 ^ B = 1 := Nat.mod_eq_of_lt (Nat.lt_of_lt_of_le (by decide : 1 < 2 ^ 1) (Nat.pow_le_pow_right (by decide) (by omega)))
  rw [h1, Nat.and_one_is_mod]
  exact Nat.mod_mod_of_dvd _ ⟨2 ^ (B - 1), by rw [← Nat.pow_succ']; congr 1; omega⟩
theorem and1 (X k : Nat) : Go.bits .and .u32 ((X : Int) / 2 ^ k) 1 = if X.testBit k then 1 else 0 := by
  rw [div_cast]
  show IntKind.u32.wrap ((BitVec.ofInt 32 ((X / 2 ^ k : Nat) : Int) &&& BitVec.ofInt 32 1).toNat : Int) = _
  rw [and_one 32 (by decide), tb, IntKind.wrap_u32]
  by_cases h : X / 2 ^ k % 2 = 1
  · simp [h]
  · have : X / 2 ^ k % 2 = 0 := by omega
    simp [this]
theorem and1s (X k : Nat) : Go.bits .and .i64 ((X : Int) / 2 ^ k) 1 = if X.testBit k then 1 else 0 := by
  rw [div_cast]
  show IntKind.i64.wrap ((BitVec.ofInt 64 ((X / 2 ^ k : Nat) : Int) &&& BitVec.ofInt 64 1).toNat : Int) = _
  rw [and_one 64 (by decide), tb, IntKind.wrap_i64]
  by_cases h : X / 2 ^ k % 2 = 1
  · simp [h]
  · have : X / 2 ^ k % 2 = 0 := by omega
    simp [this]
theorem bit0 (X k : Nat) : (Go.bits .and .u32 ((X : Int) / 2 ^ k) 1 == 0) = !X.testBit k := by
  rw [and1]
  cases X.testBit k <;> rfl
theorem bit1 (X k : Nat) : (Go.bits .and .u32 ((X : Int) / 2 ^ k) 1 == 1) = X.testBit k := by
  rw [and1]
  cases X.testBit k <;> rfl
theorem bit0s (X k : Nat) : (Go.bits .and .i64 ((X : Int) / 2 ^ k) 1 == 0) = !X.testBit k := by
  rw [and1s]
  cases X.testBit k <;> rfl
theorem bit1s (X k : Nat) : (Go.bits .and .i64 ((X : Int) / 2 ^ k) 1 == 1) = X.testBit k := by
  rw [and1s]
  cases X.testBit k <;> rfl

theorem pow_lt {k j : Nat} (h : k < j) : 2 ^ k < 2 ^ j := Nat.pow_lt_pow_right (a := 2) (by decide) h
/-- X with bit k set. -/
def sb (X k : Nat) : Nat := X ||| 2 ^ k
/-- X with bit k struck. -/
def cb (X k : Nat) : Nat := X &&& (4294967295 ^^^ 2 ^ k)
theorem sb_bit (X k i : Nat) : (sb X k).testBit i = (X.testBit i || decide (i = k)) := by
  unfold sb
  rw [Nat.testBit_or, Nat.testBit_two_pow]
  congr 1
  exact decide_eq_decide.2 ⟨fun h => h.symm, fun h => h.symm⟩
theorem sb_lt {X k : Nat} (hX : X < 65536) (hk : k < 16) : sb X k < 65536 := Nat.or_lt_two_pow (n := 16) hX (pow_lt hk)
theorem cb_bit (X k i : Nat) (hi : i < 32) : (cb X k).testBit i = (X.testBit i && !decide (i = k)) := by
  unfold cb
  rw [Nat.testBit_and, Nat.testBit_xor, Nat.testBit_two_pow, show (4294967295 : Nat) = 2 ^ 32 - 1 from rfl, Nat.testBit_two_pow_sub_one]
  simp only [hi, decide_true, Bool.true_xor]
  congr 2
  exact decide_eq_decide.2 ⟨fun h => h.symm, fun h => h.symm⟩
theorem cb_le (X k : Nat) : cb X k ≤ X := Nat.and_le_left
theorem cb_lt {X k : Nat} (hX : X < 65536) : cb X k < 65536 := Nat.lt_of_le_of_lt (cb_le X k) hX

theorem or_pow (X k : Nat) (hX : X < 4294967296) (hk : k < 32) : Go.bits .or .u32 (X : Int) (2 ^ k) = ((sb X k : Nat) : Int) := by
  rw [pow_cast, (bits_nat .u32 32 (by decide) (fun n h0 h1 => by rw [IntKind.wrap_u32]; omega) X (2 ^ k) hX (pow_lt hk)).2]
  rfl
theorem or_pows (X k : Nat) (hX : X < 9223372036854775808) (hk : k < 63) : Go.bits .or .i64 (X : Int) (2 ^ k) = ((sb X k : Nat) : Int) := by
  rw [pow_cast, (bits_nat .i64 63 (by decide) (fun n h0 h1 => by rw [IntKind.wrap_i64]; omega) X (2 ^ k) hX (pow_lt hk)).2]
  rfl
theorem andNot_pow (X k : Nat) (hX : X < 4294967296) (hk : k < 32) : Go.bits .andNot .u32 (X : Int) (2 ^ k) = ((cb X k : Nat) : Int) := by
  rw [pow_cast]
  show IntKind.u32.wrap ((BitVec.ofInt 32 (X : Int) &&& ~~~(BitVec.ofInt 32 ((2 ^ k : Nat) : Int))).toNat : Int) = _
  have h : (BitVec.ofInt 32 (X : Int) &&& ~~~(BitVec.ofInt 32 ((2 ^ k : Nat) : Int))).toNat = cb X k := by
    apply Nat.eq_of_testBit_eq
    intro i
    rw [BitVec.ofInt_natCast, BitVec.ofInt_natCast, BitVec.testBit_toNat, BitVec.getLsbD_and, BitVec.getLsbD_not, BitVec.getLsbD_ofNat, BitVec.getLsbD_ofNat, Nat.testBit_two_pow]
    by_cases hi : i < 32
    · rw [cb_bit X k i hi]
      simp only [hi, decide_true, Bool.true_and]
      congr 2
      exact decide_eq_decide.2 ⟨fun h => h.symm, fun h => h.symm⟩
    · have h1 : (cb X k).testBit i = false := Nat.testBit_lt_two_pow (Nat.lt_of_lt_of_le (Nat.lt_of_le_of_lt (cb_le X k) hX) (show 2 ^ 32 ≤ 2 ^ i from Nat.pow_le_pow_right (by decide) (by omega)))
      rw [h1]
      simp [hi]
  rw [h, IntKind.wrap_u32]
  have := cb_le X k
  omega

/-! ### How many bits -/
def popc (X : Nat) : Nat := ((List.range 16).filter fun i => X.testBit i).length
def p8 (X : Nat) : Nat := ((List.range 8).filter fun i => X.testBit i).length
def ptab : ByteArray := ⟨#[0, 1, 1, 2, 1, 2, 2, 3, 1, 2, 2, 3, 2, 3, 3, 4, 1, 2, 2, 3, 2, 3, 3, 4, 2, 3, 3, 4, 3, 4, 4, 5, 1, 2, 2, 3, 2, 3, 3, 4, 2, 3, 3, 4, 3, 4, 4, 5, 2, 3, 3, 4, 3, 4, 4, 5, 3, 4, 4, 5, 4, 5, 5, 6, 1, 2, 2, 3, 2, 3, 3, 4, 2, 3, 3, 4, 3, 4, 4, 5, 2, 3, 3, 4, 3, 4, 4, 5, 3, 4, 4, 5, 4, 5, 5, 6, 2, 3, 3, 4, 3, 4, 4, 5, 3, 4, 4, 5, 4, 5, 5, 6, 3, 4, 4, 5, 4, 5, 5, 6, 4, 5, 5, 6, 5, 6, 6, 7, 1, 2, 2, 3, 2, 3, 3, 4, 2, 3, 3, 4, 3, 4, 4, 5, 2, 3, 3, 4, 3, 4, 4, 5, 3, 4, 4, 5, 4, 5, 5, 6, 2, 3, 3, 4, 3, 4, 4, 5, 3, 4, 4, 5, 4, 5, 5, 6, 3, 4, 4, 5, 4, 5, 5, 6, 4, 5, 5, 6, 5, 6, 6, 7, 2, 3, 3, 4, 3, 4, 4, 5, 3, 4, 4, 5, 4, 5, 5, 6, 3, 4, 4, 5, 4, 5, 5, 6, 4, 5, 5, 6, 5, 6, 6, 7, 3, 4, 4, 5, 4, 5, 5, 6, 4, 5, 5, 6, 5, 6, 6, 7, 4, 5, 5, 6, 5, 6, 6, 7, 5, 6, 6, 7, 6, 7, 7, 8]⟩
set_option maxRecDepth 100000 in
theorem ptab_size : ptab.size = 256 := by decide +kernel
set_option maxRecDepth 100000 in
theorem ptab_at : ∀ i : Fin 256, (ptab[i.val]'(by rw [ptab_size]; exact i.isLt)).toNat = p8 i.val := by decide +kernel
theorem ptab_get (i : Nat) (h : i < 256) (h' : i < ptab.size) : (ptab[i]'h').toNat = p8 i := ptab_at ⟨i, h⟩
theorem p8_le (X : Nat) : p8 X ≤ 8 := by
  unfold p8
  exact Nat.le_trans (List.length_filter_le _ _) (by simp)
theorem popc_split (X : Nat) : popc X = p8 (X % 256) + p8 (X / 256) := by
  unfold popc p8
  rw [show List.range 16 = List.range 8 ++ (List.range 8).map (8 + ·) from rfl, List.filter_append, List.length_append, List.filter_map, List.length_map]
  congr 2
  · apply List.filter_congr
    intro i hi
    have : i < 8 := by simpa using hi
    rw [show (256 : Nat) = 2 ^ 8 from rfl, Nat.testBit_mod_two_pow]
    simp [this]
  · apply List.filter_congr
    intro i hi
    show X.testBit (8 + i) = _
    rw [show (256 : Nat) = 2 ^ 8 from rfl, Nat.testBit_div_two_pow, Nat.add_comm]
/-! ### An array of sixteen masks -/
def gcells (G : Nat → Nat) : Array Value := #[.int .u32 (G 0), .int .u32 (G 1), .int .u32 (G 2), .int .u32 (G 3), .int .u32 (G 4), .int .u32 (G 5), .int .u32 (G 6), .int .u32 (G 7), .int .u32 (G 8), .int .u32 (G 9), .int .u32 (G 10), .int .u32 (G 11), .int .u32 (G 12), .int .u32 (G 13), .int .u32 (G 14), .int .u32 (G 15)]
def up (G : Nat → Nat) (i y : Nat) : Nat → Nat := fun j => if j = i then y else G j
theorem up_same (G : Nat → Nat) (i y : Nat) : up G i y i = y := if_pos rfl
theorem up_other (G : Nat → Nat) {i j : Nat} (y : Nat) (h : j ≠ i) : up G i y j = G j := if_neg h
theorem upto16 {i : Nat} (h : i < 16) : i = 0 ∨ i = 1 ∨ i = 2 ∨ i = 3 ∨ i = 4 ∨ i = 5 ∨ i = 6 ∨ i = 7 ∨ i = 8 ∨ i = 9 ∨ i = 10 ∨ i = 11 ∨ i = 12 ∨ i = 13 ∨ i = 14 ∨ i = 15 := by omega
theorem gcells_get (G : Nat → Nat) (i : Nat) (h : i < 16) : (gcells G)[i]? = some (.int .u32 (G i)) := by
  rcases upto16 h with rfl | rfl | rfl | rfl | rfl | rfl | rfl | rfl | rfl | rfl | rfl | rfl | rfl | rfl | rfl | rfl <;> rfl
theorem gcells_set (G : Nat → Nat) (i y : Nat) (h : i < 16) : (gcells G).setIfInBounds i (.int .u32 (y : Int)) = gcells (up G i y) := by
  rcases upto16 h with rfl | rfl | rfl | rfl | rfl | rfl | rfl | rfl | rfl | rfl | rfl | rfl | rfl | rfl | rfl | rfl <;> rfl
theorem gcells_zero : gcells (fun _ => 0) = #[.int .u32 0, .int .u32 0, .int .u32 0, .int .u32 0, .int .u32 0, .int .u32 0, .int .u32 0, .int .u32 0, .int .u32 0, .int .u32 0, .int .u32 0, .int .u32 0, .int .u32 0, .int .u32 0, .int .u32 0, .int .u32 0] := rfl
/-- The array lies in block g. -/
structure Arr (w : World) (g : Nat) (G : Nat → Nat) : Prop where mk :: (out : w.heap[g]? = some (.cells (gcells G) 53 (0, 0)))
theorem Arr.cell {w : World} {g : Nat} {G : Nat → Nat} (h : Arr w g G) (i : Nat) (hi : i < 16) : w.cell? ⟨g, i, none⟩ = some (.int .u32 (G i)) := (blk_cell h.out i).trans (gcells_get G i hi)
theorem Arr.thaw {w : World} {g : Nat} {G : Nat → Nat} (h : Arr w g G) (i : Nat) : w.frozen? ⟨g, i, none⟩ = false := blk_frozen h.out i
theorem Arr.set {w : World} {g : Nat} {G : Nat → Nat} (h : Arr w g G) (i y : Nat) (hi : i < 16) : Arr (w.setCell ⟨g, i, none⟩ (.int .u32 (y : Int))) g (up G i y) := ⟨by
  rw [← gcells_set G i y hi]
  exact blk_set h.out i _⟩
theorem Arr.lt {w : World} {g : Nat} {G : Nat → Nat} (h : Arr w g G) : g < w.heap.size := blk_lt h.out
theorem Arr.drewN {w : World} {g : Nat} {G : Nat → Nat} (h : Arr w g G) (n : Nat) : Arr (w.drewN n) g G := ⟨h.out⟩
theorem Arr.drew {w : World} {g : Nat} {G : Nat → Nat} (h : Arr w g G) : Arr w.drew g G := ⟨h.out⟩
theorem Arr.alloc {w : World} {g : Nat} {G : Nat → Nat} (h : Arr w g G) (o : Obj) : Arr (w.alloc o) g G := ⟨blk_alloc h.out o⟩
theorem Arr.below {w w1 : World} {g : Nat} {G : Nat → Nat} (h : Arr w g G) (hb : Below w.heap.size w w1) : Arr w1 g G := ⟨blk_below h.out hb⟩
theorem Arr.alike {w w1 : World} {g : Nat} {G : Nat → Nat} (h : Arr w g G) (ha : w1.Alike w) : Arr w1 g G := ⟨by
  have h1 := h.out
  rw [← ha.1] at h1
  exact h1⟩
end Go.Proofs.Ytnnaakinchophaa.Ord
