/-
  Encoding and decoding of instructions, in plain numbers. No condition.
-/
import Derived.Test.YtdgmihohmkdpjaaDoorAMzc
namespace Go.Proofs.YtdgmihohmkdpjaaDoor.AM
set_option linter.unusedSimpArgs false
set_option linter.unusedVariables false
open Go

theorem nor_mid {a b x y : Nat} (hab : a ≤ b) (hy : y < 2 ^ b) (hya : y % 2 ^ a = 0) (hx : x % 2 ^ b < 2 ^ a) : x ||| y = x + y := by
  have hpos : 0 < 2 ^ a := Nat.two_pow_pos a
  obtain ⟨c, rfl⟩ : ∃ c, b = a + c := ⟨b - a, by omega⟩
  have e1 : x = 2 ^ (a + c) * (x / 2 ^ (a + c)) + x % 2 ^ (a + c) := (Nat.div_add_mod _ _).symm
  have e2 : y = 2 ^ a * (y / 2 ^ a) := by have := Nat.div_add_mod y (2 ^ a); omega
  generalize x / 2 ^ (a + c) = X at e1
  generalize x % 2 ^ (a + c) = r at e1 hx
  generalize y / 2 ^ a = Y at e2
  subst e1 e2
  have hr : r < 2 ^ (a + c) := Nat.lt_of_lt_of_le hx (Nat.pow_le_pow_right (by omega) hab)
  have hYc : Y < 2 ^ c := by
    rw [Nat.pow_add] at hy
    exact Nat.lt_of_mul_lt_mul_left hy
  have hsum : 2 ^ a * Y + r < 2 ^ (a + c) := by
    have : 2 ^ a * (Y + 1) ≤ 2 ^ a * 2 ^ c := Nat.mul_le_mul_left _ hYc
    rw [Nat.pow_add]
    rw [Nat.mul_add] at this
    omega
  rw [Nat.two_pow_add_eq_or_of_lt hr, Nat.or_assoc, Nat.or_comm r, ← Nat.two_pow_add_eq_or_of_lt hx, ← Nat.two_pow_add_eq_or_of_lt hsum]
  have := Nat.two_pow_add_eq_or_of_lt hr X
  omega
theorem or_mid {x y : Int} (a b : Nat) (A B : Int) (hA : A = 2 ^ a) (hB : B = 2 ^ b) (hab : a ≤ b) (h : (0 ≤ x ∧ x < 9223372036854775808) ∧ (0 ≤ y ∧ y < 9223372036854775808) ∧ y < B ∧ y % A = 0 ∧ x % B < A ∧ x + y < 9223372036854775808) : ibits .i64 (· ||| ·) x y = some (.I (x + y)) := by
  subst hA hB
  obtain ⟨h1, h2, h3, h4, h5, h6⟩ := h
  obtain ⟨x, rfl⟩ := Int.eq_ofNat_of_zero_le h1.1
  obtain ⟨y, rfl⟩ := Int.eq_ofNat_of_zero_le h2.1
  rw [ibits_or h1 h2]
  have q : (x : Nat) ||| y = x + y := nor_mid hab (by exact_mod_cast h3) (by exact_mod_cast h4) (by exact_mod_cast h5)
  simp only [Int.toNat_natCast, q]
  simp
section
variable {x y : Int}
theorem or_15_20 (h : (0 ≤ x ∧ x < 9223372036854775808) ∧ (0 ≤ y ∧ y < 9223372036854775808) ∧ y < 1048576 ∧ y % 32768 = 0 ∧ x % 1048576 < 32768 ∧ x + y < 9223372036854775808) : ibits .i64 (· ||| ·) x y = some (.I (x + y)) := or_mid 15 20 _ _ (by decide) (by decide) (by decide) h
theorem or_12_15 (h : (0 ≤ x ∧ x < 9223372036854775808) ∧ (0 ≤ y ∧ y < 9223372036854775808) ∧ y < 32768 ∧ y % 4096 = 0 ∧ x % 32768 < 4096 ∧ x + y < 9223372036854775808) : ibits .i64 (· ||| ·) x y = some (.I (x + y)) := or_mid 12 15 _ _ (by decide) (by decide) (by decide) h
theorem or_0_7 (h : (0 ≤ x ∧ x < 9223372036854775808) ∧ (0 ≤ y ∧ y < 9223372036854775808) ∧ y < 128 ∧ y % 1 = 0 ∧ x % 128 < 1 ∧ x + y < 9223372036854775808) : ibits .i64 (· ||| ·) x y = some (.I (x + y)) := or_mid 0 7 _ _ (by decide) (by decide) (by decide) h
theorem or_0_25 (h : (0 ≤ x ∧ x < 9223372036854775808) ∧ (0 ≤ y ∧ y < 9223372036854775808) ∧ y < 33554432 ∧ y % 1 = 0 ∧ x % 33554432 < 1 ∧ x + y < 9223372036854775808) : ibits .i64 (· ||| ·) x y = some (.I (x + y)) := or_mid 0 25 _ _ (by decide) (by decide) (by decide) h
theorem or_7_12 (h : (0 ≤ x ∧ x < 9223372036854775808) ∧ (0 ≤ y ∧ y < 9223372036854775808) ∧ y < 4096 ∧ y % 128 = 0 ∧ x % 4096 < 128 ∧ x + y < 9223372036854775808) : ibits .i64 (· ||| ·) x y = some (.I (x + y)) := or_mid 7 12 _ _ (by decide) (by decide) (by decide) h
theorem or_0_20 (h : (0 ≤ x ∧ x < 9223372036854775808) ∧ (0 ≤ y ∧ y < 9223372036854775808) ∧ y < 1048576 ∧ y % 1 = 0 ∧ x % 1048576 < 1 ∧ x + y < 9223372036854775808) : ibits .i64 (· ||| ·) x y = some (.I (x + y)) := or_mid 0 20 _ _ (by decide) (by decide) (by decide) h
theorem or_25_31 (h : (0 ≤ x ∧ x < 9223372036854775808) ∧ (0 ≤ y ∧ y < 9223372036854775808) ∧ y < 2147483648 ∧ y % 33554432 = 0 ∧ x % 2147483648 < 33554432 ∧ x + y < 9223372036854775808) : ibits .i64 (· ||| ·) x y = some (.I (x + y)) := or_mid 25 31 _ _ (by decide) (by decide) (by decide) h
theorem or_8_12 (h : (0 ≤ x ∧ x < 9223372036854775808) ∧ (0 ≤ y ∧ y < 9223372036854775808) ∧ y < 4096 ∧ y % 256 = 0 ∧ x % 4096 < 256 ∧ x + y < 9223372036854775808) : ibits .i64 (· ||| ·) x y = some (.I (x + y)) := or_mid 8 12 _ _ (by decide) (by decide) (by decide) h
theorem or_7_8 (h : (0 ≤ x ∧ x < 9223372036854775808) ∧ (0 ≤ y ∧ y < 9223372036854775808) ∧ y < 256 ∧ y % 128 = 0 ∧ x % 256 < 128 ∧ x + y < 9223372036854775808) : ibits .i64 (· ||| ·) x y = some (.I (x + y)) := or_mid 7 8 _ _ (by decide) (by decide) (by decide) h
theorem or_21_31 (h : (0 ≤ x ∧ x < 9223372036854775808) ∧ (0 ≤ y ∧ y < 9223372036854775808) ∧ y < 2147483648 ∧ y % 2097152 = 0 ∧ x % 2147483648 < 2097152 ∧ x + y < 9223372036854775808) : ibits .i64 (· ||| ·) x y = some (.I (x + y)) := or_mid 21 31 _ _ (by decide) (by decide) (by decide) h
theorem or_20_21 (h : (0 ≤ x ∧ x < 9223372036854775808) ∧ (0 ≤ y ∧ y < 9223372036854775808) ∧ y < 2097152 ∧ y % 1048576 = 0 ∧ x % 2097152 < 1048576 ∧ x + y < 9223372036854775808) : ibits .i64 (· ||| ·) x y = some (.I (x + y)) := or_mid 20 21 _ _ (by decide) (by decide) (by decide) h
theorem or_12_20 (h : (0 ≤ x ∧ x < 9223372036854775808) ∧ (0 ≤ y ∧ y < 9223372036854775808) ∧ y < 1048576 ∧ y % 4096 = 0 ∧ x % 1048576 < 4096 ∧ x + y < 9223372036854775808) : ibits .i64 (· ||| ·) x y = some (.I (x + y)) := or_mid 12 20 _ _ (by decide) (by decide) (by decide) h
theorem or_11_12 (h : (0 ≤ x ∧ x < 9223372036854775808) ∧ (0 ≤ y ∧ y < 9223372036854775808) ∧ y < 4096 ∧ y % 2048 = 0 ∧ x % 4096 < 2048 ∧ x + y < 9223372036854775808) : ibits .i64 (· ||| ·) x y = some (.I (x + y)) := or_mid 11 12 _ _ (by decide) (by decide) (by decide) h
theorem or_5_11 (h : (0 ≤ x ∧ x < 9223372036854775808) ∧ (0 ≤ y ∧ y < 9223372036854775808) ∧ y < 2048 ∧ y % 32 = 0 ∧ x % 2048 < 32 ∧ x + y < 9223372036854775808) : ibits .i64 (· ||| ·) x y = some (.I (x + y)) := or_mid 5 11 _ _ (by decide) (by decide) (by decide) h
theorem or_1_5 (h : (0 ≤ x ∧ x < 9223372036854775808) ∧ (0 ≤ y ∧ y < 9223372036854775808) ∧ y < 32 ∧ y % 2 = 0 ∧ x % 32 < 2 ∧ x + y < 9223372036854775808) : ibits .i64 (· ||| ·) x y = some (.I (x + y)) := or_mid 1 5 _ _ (by decide) (by decide) (by decide) h
theorem or_0_5 (h : (0 ≤ x ∧ x < 9223372036854775808) ∧ (0 ≤ y ∧ y < 9223372036854775808) ∧ y < 32 ∧ y % 1 = 0 ∧ x % 32 < 1 ∧ x + y < 9223372036854775808) : ibits .i64 (· ||| ·) x y = some (.I (x + y)) := or_mid 0 5 _ _ (by decide) (by decide) (by decide) h
theorem or_1_11 (h : (0 ≤ x ∧ x < 9223372036854775808) ∧ (0 ≤ y ∧ y < 9223372036854775808) ∧ y < 2048 ∧ y % 2 = 0 ∧ x % 2048 < 2 ∧ x + y < 9223372036854775808) : ibits .i64 (· ||| ·) x y = some (.I (x + y)) := or_mid 1 11 _ _ (by decide) (by decide) (by decide) h
end

def threeM (op : Int) : Int := ([0, 0, 0, 4, 6, 7, 6, 4, 1, 5, 2, 0, 3, 2, 0, 2, 0, 1, 0, 0, 0] : List Int).getD (op - 1).toNat 0
def sevenM (op : Int) : Int := ([0, 32, 1, 1, 1, 0, 0, 0, 0, 32, 0] : List Int).getD (op - 1).toNat 0
def opcM (op : Int) : Int := ([51, 51, 51, 51, 51, 51, 51, 51, 51, 51, 51, 19, 19, 3, 103, 35, 99, 99, 55, 111, 115] : List Int).getD (op - 1).toNat 0
def mod2 (n p : Int) : Int := if n < 0 then n + p else n
def midM (i : Ins) (opc : Int) : Int := i.rs * 32768 + threeM i.op * 4096 + opc
/-- The word of an instruction. -/
def encM (i : Ins) : Int :=
  if i.op ≤ 11 then sevenM i.op * 33554432 + i.rt * 1048576 + midM i 51 + i.rd * 128
  else if i.op ≤ 15 then mod2 i.imm 4096 * 1048576 + midM i (opcM i.op) + i.rd * 128
  else if i.op = 16 then bitsM (mod2 i.imm 4096) 5 7 * 33554432 + i.rt * 1048576 + midM i 35 + bitsM (mod2 i.imm 4096) 0 5 * 128
  else if i.op ≤ 18 then bitsM (mod2 i.imm 8192) 12 1 * 2147483648 + bitsM (mod2 i.imm 8192) 5 6 * 33554432 + i.rt * 1048576 + midM i 99 + bitsM (mod2 i.imm 8192) 1 4 * 256 + bitsM (mod2 i.imm 8192) 11 1 * 128
  else if i.op = 19 then i.imm * 4096 + i.rd * 128 + 55
  else if i.op = 20 then bitsM (mod2 i.imm 2097152) 20 1 * 2147483648 + bitsM (mod2 i.imm 2097152) 1 10 * 2097152 + bitsM (mod2 i.imm 2097152) 11 1 * 1048576 + bitsM (mod2 i.imm 2097152) 12 8 * 4096 + i.rd * 128 + 111
  else 115
/-- The fields of a word, as those of an operation. -/
def fldM (op u : Int) : Ins :=
  if op ≤ 11 then ⟨op, bitsM u 7 5, bitsM u 15 5, bitsM u 20 5, 0⟩
  else if op ≤ 15 then ⟨op, bitsM u 7 5, bitsM u 15 5, 0, signM (bitsM u 20 12) 12⟩
  else if op = 16 then ⟨op, 0, bitsM u 15 5, bitsM u 20 5, signM (bitsM u 25 7 * 32 + bitsM u 7 5) 12⟩
  else if op ≤ 18 then ⟨op, 0, bitsM u 15 5, bitsM u 20 5, signM (bitsM u 31 1 * 4096 + bitsM u 7 1 * 2048 + bitsM u 25 6 * 32 + bitsM u 8 4 * 2) 13⟩
  else if op = 19 then ⟨op, bitsM u 7 5, 0, 0, bitsM u 12 20⟩
  else if op = 20 then ⟨op, bitsM u 7 5, 0, 0, signM (bitsM u 31 1 * 1048576 + bitsM u 12 8 * 4096 + bitsM u 20 1 * 2048 + bitsM u 21 10 * 2) 21⟩
  else ⟨op, 0, 0, 0, 0⟩
/-- The operation of a word, by its opcode and its fixed fields. -/
def opS (u : Int) : Int :=
  if bitsM u 0 7 = 51 then (((List.range 11).map fun (n : Nat) => (n : Int) + 1).find? fun op => decide (bitsM u 12 3 = threeM op ∧ bitsM u 25 7 = sevenM op)).getD 0
  else if bitsM u 0 7 = 19 then (if bitsM u 12 3 = 0 then 12 else 13)
  else if bitsM u 0 7 = 3 then 14
  else if bitsM u 0 7 = 103 then 15
  else if bitsM u 0 7 = 35 then 16
  else if bitsM u 0 7 = 99 then (if bitsM u 12 3 = 0 then 17 else 18)
  else if bitsM u 0 7 = 55 then 19
  else if bitsM u 0 7 = 111 then 20
  else if bitsM u 0 7 = 115 then 21
  else 0
def okM (u : Int) : Bool := isU u && decide (opS u ≠ 0) && decide (encM (fldM (opS u) u) = u)
def decI (u : Int) : Ins := if okM u = true then fldM (opS u) u else ⟨0, 0, 0, 0, 0⟩
def matchM (op u : Int) : Bool := decide (opcM op = bitsM u 0 7) && (if op ≤ 11 then decide (threeM op = bitsM u 12 3 ∧ sevenM op = bitsM u 25 7) else if op ≤ 18 then decide (threeM op = bitsM u 12 3) else true)

theorem bits_lt {u lo many : Int} : 0 ≤ bitsM u lo many ∧ bitsM u lo many < 2 ^ many.toNat := by
  unfold bitsM
  split
  · exact mod_pow_lt
  · exact ⟨Int.le_refl _, pow_pos2⟩
theorem sign_lt {u many : Int} {m : Nat} (hm : many = m + 1) : -(2 ^ m) ≤ signM u many ∧ signM u many < 2 ^ m := by
  have h1 : many.toNat = m + 1 := by omega
  have h2 : (2 : Int) ^ (m + 1) = 2 * 2 ^ m := by rw [Int.pow_succ]; omega
  have h3 := @pow_pos2 m
  unfold signM
  rw [h1]
  simp only [Nat.add_sub_cancel, h2]
  split
  · split <;> omega
  · omega
theorem sign12 {u : Int} : -2048 ≤ signM u 12 ∧ signM u 12 ≤ 2047 := by have := @sign_lt u 12 11 rfl; simp at this; omega
theorem sign13 {u : Int} : -4096 ≤ signM u 13 ∧ signM u 13 ≤ 4095 := by have := @sign_lt u 13 12 rfl; simp at this; omega
theorem sign21 {u : Int} : -1048576 ≤ signM u 21 ∧ signM u 21 ≤ 1048575 := by have := @sign_lt u 21 20 rfl; simp at this; omega
theorem sign_even {u : Int} {many : Int} (h : u % 2 = 0) (hm : 2 ≤ many) : signM u many % 2 = 0 := by
  unfold signM
  obtain ⟨m, hm'⟩ : ∃ m : Nat, many.toNat = m + 1 := ⟨many.toNat - 1, by omega⟩
  have : (2 : Int) ^ many.toNat = 2 * 2 ^ m := by rw [hm', Int.pow_succ]; omega
  rw [this]
  split
  · split <;> omega
  · rfl
end Go.Proofs.YtdgmihohmkdpjaaDoor.AM
