/-
  The abstract machine's walk: more equations. No condition.
-/
import Derived.Test.YtdgmihohmkdpjaaDoorAMn
namespace Go.Proofs.YtdgmihohmkdpjaaDoor.AM
set_option linter.unusedSimpArgs false
set_option linter.unusedVariables false
open Go

theorem CallK_eq {C : FuncId → Option AFn} {f fn args H} {K : AV → AH → Prop} (hf : C f = some fn) (hn : args.length = fn.np) : CallK C f args H K = W C fn.body (enterE 0 args) H (retK fn.res K) := by
  apply propext; constructor
  · rintro ⟨v, H', h, k⟩
    cases h with
    | enter hf' hn' h1 ho hr =>
      rw [hf] at hf'; cases hf'
      refine ⟨_, _, _, h1, ?_⟩
      rcases ho with rfl | rfl
      · exact ⟨_, hr, k⟩
      · exact ⟨_, hr, k⟩
  · exact CallK_enter hf hn

theorem CallF_eq {C : FuncId → Option AFn} {f np body res args H} {K : AV → AH → Prop} {w} (hf : C f = some ⟨np, body, res⟩) (hn : args.length = np) : CallF C f args H K w = bindE (enterE 0 args) fun e => W C body e H (retK res K) := CallK_eq hf hn
theorem W_loop_as {C : FuncId → Option AFn} {a b : AC} {e H Q} (h : a = b) : W C (.loop a) e H Q = W C b e H (loopK C a Q) := by rw [W_loop, h]
theorem Kb_ite {c : Prop} [Decidable c] {K : AV → AH → Prop} {x y : Bool} {H : AH} : (if c then K (.b x) H else K (.b y) H) = K (.b (if c then x else y)) H := by by_cases h : c <;> simp [h]
/-- What a slice reads as. -/
def Sees (H : AH) (v : AV) (l : List AV) : Prop := alen v = some l.length ∧ l.length ≤ big ∧ ∀ i x, l[i]? = some x → ∃ b o, asSl v = some (b, o, l.length) ∧ H.load b (o + i) = some x
theorem Kb_fin {K : AV → AH → Prop} {x y : Bool} {H : AH} (h : x = true ↔ y = true) : K (.b x) H ↔ K (.b y) H := by
  rw [Bool.eq_iff_iff.2 h]
theorem Kb_true {K : AV → AH → Prop} {y : Bool} {H : AH} (h : y = true) : K (.b true) H ↔ K (.b y) H := by rw [h]
theorem Kb_false {K : AV → AH → Prop} {y : Bool} {H : AH} (h : y = false) : K (.b false) H ↔ K (.b y) H := by rw [h]
theorem Ki_fin {K : AV → AH → Prop} {k : IntKind} {x y : Int} {H : AH} (h : x = y) : K (.i k x) H ↔ K (.i k y) H := by rw [h]

theorem Ext_self {H : AH} : Ext H H = True := eq_true (Ext.refl H)
attribute [simp] Ext_self
theorem getE0 {x0 : AV} {l : List AV} : (x0 :: l)[0]? = some x0 := rfl
theorem getE1 {x0 x1 : AV} {l : List AV} : (x0 :: x1 :: l)[1]? = some x1 := rfl
theorem getE2 {x0 x1 x2 : AV} {l : List AV} : (x0 :: x1 :: x2 :: l)[2]? = some x2 := rfl
theorem getE3 {x0 x1 x2 x3 : AV} {l : List AV} : (x0 :: x1 :: x2 :: x3 :: l)[3]? = some x3 := rfl
theorem getE4 {x0 x1 x2 x3 x4 : AV} {l : List AV} : (x0 :: x1 :: x2 :: x3 :: x4 :: l)[4]? = some x4 := rfl
theorem getE5 {x0 x1 x2 x3 x4 x5 : AV} {l : List AV} : (x0 :: x1 :: x2 :: x3 :: x4 :: x5 :: l)[5]? = some x5 := rfl
theorem getE6 {x0 x1 x2 x3 x4 x5 x6 : AV} {l : List AV} : (x0 :: x1 :: x2 :: x3 :: x4 :: x5 :: x6 :: l)[6]? = some x6 := rfl
theorem getE7 {x0 x1 x2 x3 x4 x5 x6 x7 : AV} {l : List AV} : (x0 :: x1 :: x2 :: x3 :: x4 :: x5 :: x6 :: x7 :: l)[7]? = some x7 := rfl
theorem getE8 {x0 x1 x2 x3 x4 x5 x6 x7 x8 : AV} {l : List AV} : (x0 :: x1 :: x2 :: x3 :: x4 :: x5 :: x6 :: x7 :: x8 :: l)[8]? = some x8 := rfl
theorem getE9 {x0 x1 x2 x3 x4 x5 x6 x7 x8 x9 : AV} {l : List AV} : (x0 :: x1 :: x2 :: x3 :: x4 :: x5 :: x6 :: x7 :: x8 :: x9 :: l)[9]? = some x9 := rfl
theorem getE10 {x0 x1 x2 x3 x4 x5 x6 x7 x8 x9 x10 : AV} {l : List AV} : (x0 :: x1 :: x2 :: x3 :: x4 :: x5 :: x6 :: x7 :: x8 :: x9 :: x10 :: l)[10]? = some x10 := rfl
theorem getE11 {x0 x1 x2 x3 x4 x5 x6 x7 x8 x9 x10 x11 : AV} {l : List AV} : (x0 :: x1 :: x2 :: x3 :: x4 :: x5 :: x6 :: x7 :: x8 :: x9 :: x10 :: x11 :: l)[11]? = some x11 := rfl
theorem getE12 {x0 x1 x2 x3 x4 x5 x6 x7 x8 x9 x10 x11 x12 : AV} {l : List AV} : (x0 :: x1 :: x2 :: x3 :: x4 :: x5 :: x6 :: x7 :: x8 :: x9 :: x10 :: x11 :: x12 :: l)[12]? = some x12 := rfl
theorem getE13 {x0 x1 x2 x3 x4 x5 x6 x7 x8 x9 x10 x11 x12 x13 : AV} {l : List AV} : (x0 :: x1 :: x2 :: x3 :: x4 :: x5 :: x6 :: x7 :: x8 :: x9 :: x10 :: x11 :: x12 :: x13 :: l)[13]? = some x13 := rfl
attribute [simp high] getE0 getE1 getE2 getE3 getE4 getE5 getE6 getE7 getE8 getE9 getE10 getE11 getE12 getE13
theorem chk_true {i : Decidable True} : @chk True i = some () := by unfold chk; simp
theorem ares_one {e : Env} {H : AH} {n : Nat} : ares e H [.t n] = get e n := by
  simp only [ares, aress, ares1]; cases get e n <;> rfl
theorem ares_of {e : Env} {H : AH} {r : ARes} : ares e H [r] = ares1 e H r := by
  simp only [ares, aress]; cases ares1 e H r <;> rfl
theorem ares_c {e : Env} {H : AH} {n sz : Nat} : ares e H [.c n sz] = (get e n).bind fun p => (asPtr p).bind fun a => (H.loadN a.1 a.2 sz).map AV.agg := by
  rw [ares_of, ares1_c]
theorem ares_c1 {e : Env} {H : AH} {n : Nat} : ares e H [.c1 n] = (get e n).bind fun p => (asPtr p).bind fun a => H.load a.1 a.2 := by
  rw [ares_of, ares1_c1]
theorem ares_nil {e : Env} {H : AH} : ares e H [] = some (.tup []) := rfl
theorem ares_two {e : Env} {H : AH} {a b rs} : ares e H (a :: b :: rs) = (aress e H (a :: b :: rs)).map .tup := by
  unfold ares
  simp only [aress]
  cases ares1 e H a <;> cases ares1 e H b <;> cases aress e H rs <;> rfl
attribute [simp] ares_c ares_c1 ares_nil ares_two
attribute [simp] chk_true
attribute [simp] ares_one
/-! ### Bits of numbers that are not negative -/
theorem toNat_ofInt64 {x : Int} (h0 : 0 ≤ x) (h1 : x < 9223372036854775808) : (BitVec.ofInt IntKind.i64.bits x).toNat = x.toNat := by
  simp only [IntKind.bits, BitVec.toNat_ofInt]
  omega
theorem ibits_small {f : BitVec 64 → BitVec 64 → BitVec 64} {g : Nat → Nat → Nat} (hf : ∀ a b, (f a b).toNat = g a.toNat b.toNat) {x y : Int} (hx : 0 ≤ x ∧ x < 9223372036854775808) (hy : 0 ≤ y ∧ y < 9223372036854775808)
    (hg : g x.toNat y.toNat < 9223372036854775808) : ibits .i64 f x y = some (.I (g x.toNat y.toNat : Nat)) := by
  have h1 := toNat_ofInt64 hx.1 hx.2
  have h2 := toNat_ofInt64 hy.1 hy.2
  unfold ibits
  simp only [IntKind.bits] at h1 h2 ⊢
  rw [hf, h1, h2, wrap64 (by omega)]
theorem ibits_and {x y : Int} (hx : 0 ≤ x ∧ x < 9223372036854775808) (hy : 0 ≤ y ∧ y < 9223372036854775808) : ibits .i64 (· &&& ·) x y = some (.I ((x.toNat &&& y.toNat : Nat) : Int)) :=
  ibits_small (g := (· &&& ·)) (fun a b => BitVec.toNat_and a b) hx hy (by have := @Nat.and_le_left x.toNat y.toNat; show x.toNat &&& y.toNat < _; omega)
theorem ibits_or {x y : Int} (hx : 0 ≤ x ∧ x < 9223372036854775808) (hy : 0 ≤ y ∧ y < 9223372036854775808) : ibits .i64 (· ||| ·) x y = some (.I ((x.toNat ||| y.toNat : Nat) : Int)) :=
  ibits_small (g := (· ||| ·)) (fun a b => BitVec.toNat_or a b) hx hy (Nat.or_lt_two_pow (n := 63) (by omega) (by omega))
theorem ibits_xor {x y : Int} (hx : 0 ≤ x ∧ x < 9223372036854775808) (hy : 0 ≤ y ∧ y < 9223372036854775808) : ibits .i64 (· ^^^ ·) x y = some (.I ((x.toNat ^^^ y.toNat : Nat) : Int)) :=
  ibits_small (g := (· ^^^ ·)) (fun a b => BitVec.toNat_xor a b) hx hy (Nat.xor_lt_two_pow (n := 63) (by omega) (by omega))
theorem and_mask (x : Int) (m : Nat) (hx : 0 ≤ x) : ((x.toNat &&& ((2 ^ m - 1 : Int)).toNat : Nat) : Int) = x % 2 ^ m := by
  have h1 : ((2 ^ m - 1 : Int)).toNat = 2 ^ m - 1 := by
    have : ((2 ^ m - 1 : Int)) = ((2 ^ m - 1 : Nat) : Int) := by
      rw [Int.natCast_sub (Nat.one_le_two_pow)]; simp
    rw [this, Int.toNat_natCast]
  rw [h1, Nat.and_two_pow_sub_one_eq_mod]
  obtain ⟨n, rfl⟩ := Int.eq_ofNat_of_zero_le hx
  simp
end Go.Proofs.YtdgmihohmkdpjaaDoor.AM
