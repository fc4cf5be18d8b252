/-
  What the operators compute, in the program and in the spec. No condition.
-/
import Derived.Test.YtdgmihohmkdpjaaDoorAMzg
namespace Go.Proofs.YtdgmihohmkdpjaaDoor.AM
set_option linter.unusedSimpArgs false
set_option linter.unusedVariables false
open Go

def ibitsV (f : BitVec 64 → BitVec 64 → BitVec 64) (x y : Int) : Int := (f (BitVec.ofInt 64 x) (BitVec.ofInt 64 y)).toInt
theorem wrap_toNat {v : BitVec 64} : IntKind.i64.wrap (v.toNat : Int) = v.toInt := by
  rw [BitVec.toInt_eq_toNat_cond]
  have := v.isLt
  unfold IntKind.wrap
  simp [IntKind.bits, IntKind.signed]
  split <;> split <;> omega
theorem ibits_V {f : BitVec 64 → BitVec 64 → BitVec 64} {x y : Int} : ibits .i64 f x y = some (.I (ibitsV f x y)) := by
  unfold ibits ibitsV
  exact congrArg (fun z => some (AV.I z)) wrap_toNat
theorem ibits_orV {x y : Int} : ibits .i64 (· ||| ·) x y = some (.I (ibitsV (· ||| ·) x y)) := ibits_V
theorem ibits_andV {x y : Int} : ibits .i64 (· &&& ·) x y = some (.I (ibitsV (· &&& ·) x y)) := ibits_V
theorem ibits_xorV {x y : Int} : ibits .i64 (· ^^^ ·) x y = some (.I (ibitsV (· ^^^ ·) x y)) := ibits_V
theorem ibits_notV {x y : Int} : ibits .i64 (fun a b => a &&& ~~~b) x y = some (.I (ibitsV (fun a b => a &&& ~~~b) x y)) := ibits_V
theorem ofInt_sign {a : Int} (h : -2147483648 ≤ a ∧ a ≤ 2147483647) : BitVec.ofInt 64 a = (BitVec.ofInt 32 a).signExtend 64 := by
  apply BitVec.eq_of_toInt_eq
  rw [BitVec.toInt_signExtend_of_le (by omega)]
  simp [BitVec.toInt_ofInt, Int.bmod_def]
  omega
theorem sext_lt {v : BitVec 32} : -2147483648 ≤ (v.signExtend 64).toInt ∧ (v.signExtend 64).toInt ≤ 2147483647 := by
  rw [BitVec.toInt_signExtend_of_le (by omega)]
  have h1 := BitVec.le_toInt v
  have h2 := @BitVec.toInt_lt 32 v
  simp at h1 h2
  omega
section
variable {a b : Int}
theorem or_W (ha : -2147483648 ≤ a ∧ a ≤ 2147483647) (hb : -2147483648 ≤ b ∧ b ≤ 2147483647) : -2147483648 ≤ ibitsV (· ||| ·) a b ∧ ibitsV (· ||| ·) a b ≤ 2147483647 := by
  unfold ibitsV; dsimp only; rw [ofInt_sign ha, ofInt_sign hb, ← BitVec.signExtend_or]; exact sext_lt
theorem and_W (ha : -2147483648 ≤ a ∧ a ≤ 2147483647) (hb : -2147483648 ≤ b ∧ b ≤ 2147483647) : -2147483648 ≤ ibitsV (· &&& ·) a b ∧ ibitsV (· &&& ·) a b ≤ 2147483647 := by
  unfold ibitsV; dsimp only; rw [ofInt_sign ha, ofInt_sign hb, ← BitVec.signExtend_and]; exact sext_lt
theorem xor_W (ha : -2147483648 ≤ a ∧ a ≤ 2147483647) (hb : -2147483648 ≤ b ∧ b ≤ 2147483647) : -2147483648 ≤ ibitsV (· ^^^ ·) a b ∧ ibitsV (· ^^^ ·) a b ≤ 2147483647 := by
  unfold ibitsV; dsimp only; rw [ofInt_sign ha, ofInt_sign hb, ← BitVec.signExtend_xor]; exact sext_lt
theorem and_31 (ha : -2147483648 ≤ a ∧ a ≤ 2147483647) : ibitsV (· &&& ·) a 31 = a % 32 := by
  unfold ibitsV
  dsimp only
  have e : (BitVec.ofInt 64 a &&& BitVec.ofInt 64 31).toNat = (a % 32).toNat := by
    rw [BitVec.toNat_and]
    have h31 : (BitVec.ofInt 64 31).toNat = 2 ^ 5 - 1 := by decide
    rw [h31, Nat.and_two_pow_sub_one_eq_mod, BitVec.toNat_ofInt]
    omega
  rw [BitVec.toInt_eq_toNat_cond, e]
  split <;> omega
theorem and_1 (ha : -2147483648 ≤ a ∧ a ≤ 2147483647) : ibitsV (· &&& ·) a 1 = a % 2 := by
  unfold ibitsV
  dsimp only
  have e : (BitVec.ofInt 64 a &&& BitVec.ofInt 64 1).toNat = (a % 2).toNat := by
    rw [BitVec.toNat_and]
    have h31 : (BitVec.ofInt 64 1).toNat = 2 ^ 1 - 1 := by decide
    rw [h31, Nat.and_two_pow_sub_one_eq_mod, BitVec.toNat_ofInt]
    omega
  rw [BitVec.toInt_eq_toNat_cond, e]
  split <;> omega
theorem andNot_1 (ha : -2147483648 ≤ a ∧ a ≤ 2147483647) : ibitsV (fun a b => a &&& ~~~b) a 1 = a - a % 2 := by
  have h := @and_1 a ha
  unfold ibitsV at h ⊢
  dsimp only at h ⊢
  have e : BitVec.ofInt 64 a &&& ~~~(BitVec.ofInt 64 1) = BitVec.ofInt 64 a - (BitVec.ofInt 64 a &&& BitVec.ofInt 64 1) := by
    have : ∀ x : BitVec 64, x &&& ~~~(BitVec.ofInt 64 1) = x - (x &&& BitVec.ofInt 64 1) := by
      intro x
      have h1 : (x &&& ~~~(BitVec.ofInt 64 1)) + (x &&& BitVec.ofInt 64 1) = x := by
        rw [BitVec.add_eq_or_of_and_eq_zero]
        · rw [← BitVec.and_or_distrib_left, show (~~~(BitVec.ofInt 64 1) ||| BitVec.ofInt 64 1) = BitVec.allOnes 64 by decide, BitVec.and_allOnes]
        · rw [BitVec.and_assoc, ← BitVec.and_assoc (~~~(BitVec.ofInt 64 1)), BitVec.and_comm (~~~(BitVec.ofInt 64 1)) x, BitVec.and_assoc]
          simp
      exact BitVec.eq_sub_iff_add_eq.2 h1
    exact this _
  rw [e, BitVec.toInt_sub, h]
  simp [BitVec.toInt_ofInt, Int.bmod_def]
  omega
end
/-- What an operator gives. -/
def applyM (op a b : Int) : Int :=
  if op = 1 then ibitsV (· ||| ·) a b
  else if op = 2 then ibitsV (· ^^^ ·) a b
  else if op = 3 then ibitsV (· &&& ·) a b
  else if op = 4 then (if a = b then 1 else 0)
  else if op = 5 then (if a < b then 1 else 0)
  else if op = 6 then wrapM (IntKind.i64.wrap (a * 2 ^ (b % 32).toNat))
  else if op = 7 then a / 2 ^ (b % 32).toNat
  else if op = 8 then wrapM (a + b)
  else if op = 9 then wrapM (a - b)
  else if op = 10 then wrapM (IntKind.i64.wrap (a * b))
  else if op = 11 then (if b = 0 then -1 else wrapM (IntKind.i64.wrap (a.tdiv b)))
  else if b = 0 then a else a.tmod b
theorem iteW {c : Prop} [Decidable c] {x y : Int} (h1 : c → -2147483648 ≤ x ∧ x ≤ 2147483647) (h2 : ¬c → -2147483648 ≤ y ∧ y ≤ 2147483647) : -2147483648 ≤ (if c then x else y) ∧ (if c then x else y) ≤ 2147483647 := by
  by_cases h : c
  · rw [if_pos h]; exact h1 h
  · rw [if_neg h]; exact h2 h
theorem apply_W {op a b : Int} (ha : -2147483648 ≤ a ∧ a ≤ 2147483647) (hb : -2147483648 ≤ b ∧ b ≤ 2147483647) : -2147483648 ≤ applyM op a b ∧ applyM op a b ≤ 2147483647 := by
  have w1 := @wrapM_lt (IntKind.i64.wrap (a * 2 ^ (b % 32).toNat))
  have w2 := @wrapM_lt (a + b)
  have w3 := @wrapM_lt (a - b)
  have w4 := @wrapM_lt (IntKind.i64.wrap (a * b))
  have w5 := @wrapM_lt (IntKind.i64.wrap (a.tdiv b))
  have o1 := or_W ha hb
  have o2 := xor_W ha hb
  have o3 := and_W ha hb
  have hshr : -2147483648 ≤ a / 2 ^ (b % 32).toNat ∧ a / 2 ^ (b % 32).toNat ≤ 2147483647 := by
    have hp := @pow_pos2 (b % 32).toNat
    generalize (2 : Int) ^ (b % 32).toNat = c at *
    clear w1 w2 w3 w4 w5 o1 o2 o3
    by_cases h : 0 ≤ a
    · have h1 := Int.ediv_nonneg h (Int.le_of_lt hp)
      have h2 := Int.ediv_le_self c h
      omega
    · have h1 : a ≤ a / c := by
        rw [Int.le_ediv_iff_mul_le hp]
        have : a * c ≤ a * 1 := Int.mul_le_mul_of_nonpos_left (by omega) (by omega)
        omega
      have h2 : a / c < 0 := Int.ediv_neg_of_neg_of_pos (by omega) hp
      omega
  have htm : b ≠ 0 → -2147483648 ≤ a.tmod b ∧ a.tmod b ≤ 2147483647 := by
    intro hb0
    clear w1 w2 w3 w4 w5 o1 o2 o3 hshr
    have h := Int.natAbs_tmod a b
    have h2 : a.natAbs % b.natAbs ≤ a.natAbs := Nat.mod_le _ _
    have h3 : a.natAbs % b.natAbs < b.natAbs := Nat.mod_lt _ (by omega)
    generalize a.tmod b = t at *
    generalize a.natAbs % b.natAbs = r at *
    by_cases hs : 0 ≤ a
    · omega
    · omega
  unfold applyM
  refine iteW (fun _ => o1) fun _ => iteW (fun _ => o2) fun _ => iteW (fun _ => o3) fun _ => iteW (fun _ => iteW (fun _ => by omega) fun _ => by omega) fun _ => iteW (fun _ => iteW (fun _ => by omega) fun _ => by omega) fun _ =>
    iteW (fun _ => w1) fun _ => iteW (fun _ => hshr) fun _ => iteW (fun _ => w2) fun _ => iteW (fun _ => w3) fun _ => iteW (fun _ => w4) fun _ => iteW (fun _ => iteW (fun _ => by omega) fun _ => w5) fun _ => iteW (fun _ => ha) fun h => htm h
section
variable {H : AH} {K : AV → AH → Prop} {op a b : Int} {w : Fk K}
theorem K_itruth {x : Bool} : CallF Cd f_itruth [.b x] H K w = K (.I (if x = true then 1 else 0)) H := by
  rw [CallF_eq e_itruth rfl]
  cases x <;> simp
theorem K_sl2Flag {x : Bool} : CallF Cd f_sl2Flag [.b x] H K w = K (.I (if x = true then 1 else 0)) H := by
  rw [CallF_eq e_sl2Flag rfl]
  cases x <;> simp
theorem K_iapply (ha : -2147483648 ≤ a ∧ a ≤ 2147483647) (hb : -2147483648 ≤ b ∧ b ≤ 2147483647) : CallF Cd f_iapply [.I op, .I a, .I b] H K w = K (.I (applyM op a b)) H := by
  rw [CallF_eq e_iapply rfl]
  have h31 := and_31 hb
  simp
  repeat' (refine cnd_iff (fun h => ?_) (fun h => ?_) <;> try simp (disch := omega) [h, ibits_orV, ibits_andV, ibits_xorV, K_itruth, h31, K_iWrap])
  all_goals (refine Ki_fin ?_; simp [applyM, *])
theorem K_sl2Shift {x : Bool} (ha : -2147483648 ≤ a ∧ a ≤ 2147483647) (hb : -2147483648 ≤ b ∧ b ≤ 2147483647) : CallF Cd f_sl2Shift [.I a, .I b, .b x] H K w = K (.I (if x = true then a / 2 ^ (b % 32).toNat else wrapM (IntKind.i64.wrap (a * 2 ^ (b % 32).toNat)))) H := by
  rw [CallF_eq e_sl2Shift rfl]
  have h31 := and_31 hb
  cases x <;> simp (disch := omega) [ibits_orV, ibits_andV, ibits_xorV, h31, K_sWrap]
theorem K_sl2Divide : CallF Cd f_sl2Divide [.I a, .I b] H K w = K (.I (if b = 0 then -1 else wrapM (IntKind.i64.wrap (a.tdiv b)))) H := by
  rw [CallF_eq e_sl2Divide rfl]
  simp
  refine cnd_iff (fun h => ?_) (fun h => ?_)
  · simp [h]
  · simp (disch := omega) [h, K_sWrap]
theorem K_sl2Remain : CallF Cd f_sl2Remain [.I a, .I b] H K w = K (.I (if b = 0 then a else a.tmod b)) H := by
  rw [CallF_eq e_sl2Remain rfl]
  simp
  refine cnd_iff (fun h => ?_) (fun h => ?_)
  · simp [h]
  · simp (disch := omega) [h]
theorem Kt_fin {x y : Int} {z : AV} (h : x = y) : K (.tup [.I x, z]) H ↔ K (.tup [.I y, z]) H := by rw [h]
theorem K_sApply (ho : 1 ≤ op ∧ op ≤ 12) (ha : -2147483648 ≤ a ∧ a ≤ 2147483647) (hb : -2147483648 ≤ b ∧ b ≤ 2147483647) : CallF Cd f_sApply [.I op, .I a, .I b] H K w = K (.tup [.I (applyM op a b), .b true]) H := by
  rw [CallF_eq e_sApply rfl]
  have wa : isW a = true := by simp [isW]; omega
  have wb : isW b = true := by simp [isW]; omega
  have eo : ∀ (K : AV → AH → Prop) (w : Fk K), CallF Cd f_sOpValid [.I op] H K w = K (.b true) H := fun K w => by
    rw [CallF_eq e_sOpValid rfl]; simp [K_sl6In, ho]
  simp [eo, K_sWordValid, wa, wb]
  repeat' (refine cnd_iff (fun h => ?_) (fun h => ?_) <;> try simp (disch := omega) [h, ibits_orV, ibits_andV, ibits_xorV, K_sl2Flag, K_sl2Shift, K_sl2Divide, K_sl2Remain, K_sWrap])
  all_goals (refine Kt_fin ?_; simp [applyM, *])
theorem K_iApply (ho : 1 ≤ op ∧ op ≤ 12) (ha : -2147483648 ≤ a ∧ a ≤ 2147483647) (hb : -2147483648 ≤ b ∧ b ≤ 2147483647) : CallF Cd f_iApply [.I op, .I a, .I b] H K w = K (.tup [.I (applyM op a b), .b true]) H := by
  rw [CallF_eq e_iApply rfl]
  have wa : isW a = true := by simp [isW]; omega
  have wb : isW b = true := by simp [isW]; omega
  have eo : ∀ (K : AV → AH → Prop) (w : Fk K), CallF Cd f_iOpValid [.I op] H K w = K (.b true) H := fun K w => by
    rw [CallF_eq e_iOpValid rfl]; simp [ho]
  simp [eo, K_iWordValid, wa, wb, K_iapply ha hb]
end
end Go.Proofs.YtdgmihohmkdpjaaDoor.AM
