/-
  What the functions on words compute. No condition.
-/
import Derived.Test.YtdgmihohmkdpjaaDoorCd
namespace Go.Proofs.YtdgmihohmkdpjaaDoor.AM
set_option linter.unusedSimpArgs false
set_option linter.unusedVariables false
open Go

def isW (n : Int) : Bool := decide (-2147483648 ≤ n ∧ n ≤ 2147483647)
def isU (n : Int) : Bool := decide (0 ≤ n ∧ n ≤ 4294967295)
def bitsM (u low many : Int) : Int := if 0 ≤ u ∧ u ≤ 4294967295 ∧ 0 ≤ low ∧ low ≤ 31 ∧ 1 ≤ many ∧ many ≤ 32 - low then u / 2 ^ low.toNat % 2 ^ many.toNat else 0
def unsM (n : Int) : Int := if -2147483648 ≤ n ∧ n ≤ 2147483647 then n % 4294967296 else -1
def signM (u many : Int) : Int := if 1 ≤ many ∧ many ≤ 32 ∧ 0 ≤ u ∧ u < 2 ^ many.toNat then if 2 ^ (many.toNat - 1) ≤ u then u - 2 ^ many.toNat else u else 0
def wrapM (n : Int) : Int := (n + 2147483648) % 4294967296 - 2147483648

section
variable {H : AH} {K : AV → AH → Prop} {n u low many lo hi : Int} {w : Fk K}
theorem K_iWordValid : CallF Cd f_iWordValid [.I n] H K w = K (.b (isW n)) H := by
  rw [CallF_eq e_iWordValid rfl]
  simp
  repeat' (refine cnd_iff (fun h => ?_) (fun h => ?_) <;> try simp (disch := omega) [*])
  all_goals (refine Kb_fin ?_; simp [isW]; try omega)
theorem K_iisUnsigned : CallF Cd f_iisUnsigned [.I n] H K w = K (.b (isU n)) H := by
  rw [CallF_eq e_iisUnsigned rfl]
  simp
  repeat' (refine cnd_iff (fun h => ?_) (fun h => ?_) <;> try simp (disch := omega) [*])
  all_goals (refine Kb_fin ?_; simp [isU]; try omega)
theorem K_sl6In : CallF Cd f_sl6In [.I n, .I lo, .I hi] H K w = K (.b (decide (lo ≤ n ∧ n ≤ hi))) H := by
  rw [CallF_eq e_sl6In rfl]
  simp
  repeat' (refine cnd_iff (fun h => ?_) (fun h => ?_) <;> try simp (disch := omega) [*])
  all_goals (refine Kb_fin ?_; simp; try omega)
theorem K_sWordValid : CallF Cd f_sWordValid [.I n] H K w = K (.b (isW n)) H := by
  rw [CallF_eq e_sWordValid rfl]
  simp [K_sl6In, isW]
theorem wrap_i32 : IntKind.i32.wrap n = wrapM n := by
  unfold IntKind.wrap wrapM
  simp [IntKind.bits, IntKind.signed]
  split <;> omega
theorem wrap_u32 : IntKind.u32.wrap n = n % 4294967296 := by
  unfold IntKind.wrap
  simp [IntKind.bits, IntKind.signed]
theorem wrapM_lt : -2147483648 ≤ wrapM n ∧ wrapM n ≤ 2147483647 := by unfold wrapM; omega
theorem K_iWrap : CallF Cd f_iWrap [.I n] H K w = K (.I (wrapM n)) H := by
  rw [CallF_eq e_iWrap rfl]
  have := @wrapM_lt n
  simp (disch := omega) [wrap_i32]
theorem K_sWrap : CallF Cd f_sWrap [.I n] H K w = K (.I (wrapM n)) H := by
  rw [CallF_eq e_sWrap rfl]
  have h1 : n.tmod 4294967296 < 4294967296 := Int.tmod_lt_of_pos _ (by omega)
  have h2 : -4294967296 < n.tmod 4294967296 := by have := Int.lt_tmod_of_pos n (show (0:Int) < 4294967296 by omega); omega
  have h3 : ∃ q : Int, n = 4294967296 * q + n.tmod 4294967296 := ⟨n.tdiv 4294967296, (Int.mul_tdiv_add_tmod n _).symm⟩
  simp
  generalize n.tmod 4294967296 = m at *
  obtain ⟨q, hq⟩ := h3
  repeat' (refine cnd_iff (fun h => ?_) (fun h => ?_) <;> try simp (disch := omega) [*])
  all_goals (refine Ki_fin ?_; unfold wrapM; omega)
theorem K_iUnsigned : CallF Cd f_iUnsigned [.I n] H K w = K (.I (unsM n)) H := by
  rw [CallF_eq e_iUnsigned rfl]
  simp [K_iWordValid, isW]
  repeat' (refine cnd_iff (fun h => ?_) (fun h => ?_) <;> try simp (disch := omega) [*, wrap_u32])
  all_goals (refine Ki_fin ?_; unfold unsM; try rw [wrap64 (by omega)])
  all_goals (split <;> omega)
theorem K_sUnsigned : CallF Cd f_sUnsigned [.I n] H K w = K (.I (unsM n)) H := by
  rw [CallF_eq e_sUnsigned rfl]
  simp [K_sWordValid, isW]
  repeat' (refine cnd_iff (fun h => ?_) (fun h => ?_) <;> try simp (disch := omega) [*])
  all_goals (refine Ki_fin ?_; unfold unsM; try rw [wrap64 (by omega)])
  all_goals (split <;> omega)
theorem div_pow_lt {u : Int} {m : Nat} (h0 : 0 ≤ u) : 0 ≤ u / 2 ^ m ∧ u / 2 ^ m ≤ u :=
  ⟨Int.ediv_nonneg h0 (Int.le_of_lt pow_pos2), Int.ediv_le_self _ h0⟩
theorem mod_pow_lt {u : Int} {m : Nat} : 0 ≤ u % 2 ^ m ∧ u % 2 ^ m < 2 ^ m :=
  ⟨Int.emod_nonneg _ (Int.ne_of_gt pow_pos2), Int.emod_lt_of_pos _ pow_pos2⟩
theorem ibits_mask {x : Int} {m : Nat} (hx : 0 ≤ x ∧ x < 9223372036854775808) (hm : m ≤ 62) : ibits .i64 (· &&& ·) x (2 ^ m - 1) = some (.I (x % 2 ^ m)) := by
  have h1 := @pow_le2 m 62 hm
  have h2 := @pow_pos2 m
  rw [ibits_and hx (by omega), and_mask _ _ hx.1]
theorem wrap_pow1 {m : Nat} (h : m ≤ 62) : IntKind.i64.wrap (2 ^ m - 1) = 2 ^ m - 1 := by
  have h1 := @pow_le2 m 62 h
  have h2 := @pow_pos2 m
  rw [wrap64 (by omega)]
theorem K_iBits : CallF Cd f_iBits [.I u, .I low, .I many] H K w = K (.I (bitsM u low many)) H := by
  rw [CallF_eq e_iBits rfl]
  simp [K_iisUnsigned, isU]
  repeat' (refine cnd_iff (fun h => ?_) (fun h => ?_) <;> try simp (disch := omega) [*])
  all_goals (try (refine Ki_fin ?_; unfold bitsM; rw [if_neg (by omega)]; done))
  have := @div_pow_lt u low.toNat (by omega)
  simp (disch := omega) [wrap_pow1, ibits_mask]
  refine Ki_fin ?_; unfold bitsM; rw [if_pos (by omega)]
theorem K_iSignExtend : CallF Cd f_iSignExtend [.I u, .I many] H K w = K (.I (signM u many)) H := by
  rw [CallF_eq e_iSignExtend rfl]
  simp
  repeat' (refine cnd_iff (fun h => ?_) (fun h => ?_) <;> try simp (disch := omega) [*])
  all_goals refine Ki_fin ?_
  all_goals unfold signM
  · rw [if_neg (by omega)]
  · rw [if_neg (by omega)]
  · rw [if_neg (by omega)]
  · rw [if_neg (by omega)]
  · rw [if_pos (by omega), if_pos (by assumption)]
    have h1 := @pow_le2 many.toNat 32 (by omega)
    have h2 := @pow_pos2 many.toNat
    rw [wrap64 (by omega)]
  · rw [if_pos (by omega), if_neg (by assumption)]
theorem K_sl1Power_l {Q : Out → Env → AH → Prop} {n m i : Nat} (hn : n ≤ 62) (hi : i + m = n)
    (h : ∀ e, Q (.brk 0) ((0, .I n) :: (3, .I (2 ^ n)) :: e) H = K (.I (2 ^ n)) H) :
    W Cd (.loop c_sl1Power_l0) [(0, .I n), (3, .I (2 ^ i)), (4, .I i)] H Q = K (.I (2 ^ n)) H := by
  induction m generalizing i with
  | zero =>
    rw [W_loop_as c_sl1Power_l0.eq_1]
    have : i = n := by omega
    subst this
    simp [h]
  | succ m ih =>
    rw [W_loop_as c_sl1Power_l0.eq_1]
    have := @ih (i + 1) (by omega)
    have h1 := @pow_le2 (i + 1) 62 (by omega)
    have h2 := @pow_pos2 (i + 1)
    rw [Int.pow_succ] at this h1 h2
    have hlt : (i : Int) < n := by omega
    simp (disch := omega) [hlt]
    simpa using this
theorem K_sl1Power (h : 0 ≤ n ∧ n ≤ 62) : CallF Cd f_sl1Power [.I n] H K w = K (.I (2 ^ n.toNat)) H := by
  rw [CallF_eq e_sl1Power rfl]
  obtain ⟨m, rfl⟩ := Int.eq_ofNat_of_zero_le h.1
  simp
  exact iff_of_eq (K_sl1Power_l (m := m) (i := 0) (by omega) (by omega) (fun e => by simp))
theorem tmod_pow {x : Int} {m : Nat} (hx : 0 ≤ x) : x.tmod (2 ^ m) = x % 2 ^ m := Int.tmod_eq_emod_of_nonneg hx
theorem tdiv_pow {x : Int} {m : Nat} (hx : 0 ≤ x) : x.tdiv (2 ^ m) = x / 2 ^ m := Int.tdiv_eq_ediv_of_nonneg hx
theorem pow_ne0 {m : Nat} : (2 : Int) ^ m ≠ 0 := Int.ne_of_gt pow_pos2
theorem K_sBits : CallF Cd f_sBits [.I u, .I low, .I many] H K w = K (.I (bitsM u low many)) H := by
  rw [CallF_eq e_sBits rfl]
  simp [K_sl6In]
  repeat' (refine cnd_iff (fun h => ?_) (fun h => ?_) <;> try simp (disch := omega) [*, K_sl6In])
  all_goals (try (refine Ki_fin ?_; unfold bitsM; rw [if_neg (by omega)]; done))
  have := @div_pow_lt u low.toNat (by omega)
  simp (disch := first | omega | exact pow_ne0) [K_sl1Power, tdiv_pow, tmod_pow]
  refine Ki_fin ?_; unfold bitsM; rw [if_pos (by omega)]
theorem K_sSignExtend : CallF Cd f_sSignExtend [.I u, .I many] H K w = K (.I (signM u many)) H := by
  rw [CallF_eq e_sSignExtend rfl]
  simp [K_sl6In]
  repeat' (refine cnd_iff (fun h => ?_) (fun h => ?_) <;> try simp (disch := omega) [*, K_sl6In, K_sl1Power, wrap_pow1])
  all_goals refine Ki_fin ?_
  all_goals unfold signM
  · rw [if_neg (by omega)]
  · rw [if_neg (by omega)]
  · rw [if_pos (by omega), if_pos (by assumption)]
    have h1 := @pow_le2 many.toNat 32 (by omega)
    have h2 := @pow_pos2 many.toNat
    rw [wrap64 (by omega)]
  · rw [if_pos (by omega), if_neg (by assumption)]
end
end Go.Proofs.YtdgmihohmkdpjaaDoor.AM
