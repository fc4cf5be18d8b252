/-
  The abstract machine and its walks, merged by program out of smaller texts (part 3). No condition.
-/
import Derived.Test.YtmecbehegmgbhaaGreatYCd
namespace Go.Proofs.YtmecbehegmgbhaaGreat.AM
set_option linter.unusedSimpArgs false
set_option linter.unusedVariables false
open Go

def isW (n : Int) : Bool := decide (-2147483648 ≤ n ∧ n ≤ 2147483647)
def bitsM (u low many : Int) : Int := if 0 ≤ u ∧ u ≤ 4294967295 ∧ 0 ≤ low ∧ low ≤ 31 ∧ 1 ≤ many ∧ many ≤ 32 - low then u / 2 ^ low.toNat % 2 ^ many.toNat else 0
def wrapM (n : Int) : Int := (n + 2147483648) % 4294967296 - 2147483648

section
variable {H : AH} {K : AV → AH → Prop} {n u low many lo hi : Int} {w : Fk K}
theorem K_iWordValid : CallF Cd f_iWordValid [.I n] H K w = K (.b (isW n)) H := by
  rw [CallF_eq e_iWordValid rfl]
  simp
  repeat' (refine cnd_iff (fun h => ?_) (fun h => ?_) <;> try simp (disch := omega) [*])
  all_goals (refine Kb_fin ?_; simp [isW]; try omega)
theorem K_sl6In : CallF Cd f_sl6In [.I n, .I lo, .I hi] H K w = K (.b (decide (lo ≤ n ∧ n ≤ hi))) H := by
  rw [CallF_eq e_sl6In rfl]
  simp
  repeat' (refine cnd_iff (fun h => ?_) (fun h => ?_) <;> try simp (disch := omega) [*])
  all_goals (refine Kb_fin ?_; simp; try omega)
theorem wrap_i32 : IntKind.i32.wrap n = wrapM n := by
  unfold IntKind.wrap wrapM
  simp [IntKind.bits, IntKind.signed]
  split <;> omega
theorem wrapM_lt : -2147483648 ≤ wrapM n ∧ wrapM n ≤ 2147483647 := by unfold wrapM; omega
theorem K_iWrap : CallF Cd f_iWrap [.I n] H K w = K (.I (wrapM n)) H := by
  rw [CallF_eq e_iWrap rfl]
  have := @wrapM_lt n
  simp (disch := omega) [wrap_i32]
theorem mod_pow_lt {u : Int} {m : Nat} : 0 ≤ u % 2 ^ m ∧ u % 2 ^ m < 2 ^ m :=
  ⟨Int.emod_nonneg _ (Int.ne_of_gt pow_pos2), Int.emod_lt_of_pos _ pow_pos2⟩
end
end Go.Proofs.YtmecbehegmgbhaaGreat.AM
namespace Go.Proofs.YtmecbehegmgbhaaGreat.AM
set_option linter.unusedSimpArgs false
set_option linter.unusedVariables false
open Go

theorem load_eq {H : AH} {b o : Nat} : H.load b o = (H.bk b).bind fun k => k.cells[o]? := rfl
theorem tmod_lt {a b : Int} (ha : 0 ≤ a) (hb : 0 < b) : 0 ≤ a.tmod b ∧ a.tmod b < b := ⟨Int.tmod_nonneg _ ha, Int.tmod_lt_of_pos _ hb⟩
theorem tdiv_lt {a b : Int} (ha : 0 ≤ a) (hb : 0 < b) : 0 ≤ a.tdiv b ∧ a.tdiv b ≤ a := by
  rw [Int.tdiv_eq_ediv_of_nonneg ha]
  exact ⟨Int.ediv_nonneg ha (by omega), Int.ediv_le_self _ ha⟩
def St (r : Nat) (H H' : AH) : Prop := H.n ≤ H'.n ∧ ∀ b, b < H.n → b ≠ r → H'.bk b = H.bk b
theorem St.refl {r H} : St r H H := ⟨Nat.le_refl _, fun _ _ _ => rfl⟩
theorem St.trans {r a b c} (h : St r a b) (k : St r b c) : St r a c := ⟨Nat.le_trans h.1 k.1, fun x hx hr => (k.2 x (Nat.lt_of_lt_of_le hx h.1) hr).trans (h.2 x hx hr)⟩
theorem St.push {r a b cs} (h : St r a b) : St r a (b.push cs) := h.trans ⟨Nat.le_succ _, fun x hx _ => by simp only [push_bk]; rw [if_neg (by omega)]⟩
def Bytes (H : AH) (r : Nat) (s : AV) (l : List Int) : Prop := alen s = some l.length ∧ l.length ≤ 8589934592 ∧
  ∀ (i : Nat) x, l[i]? = some x → (0 ≤ x ∧ x < 256) ∧ ∃ b o, asSl s = some (b, o, l.length) ∧ b < r ∧ b < H.n ∧ ((H.bk b).bind fun k => k.cells[o + i]?) = some (.i .u8 x)
def Rd (H : AH) (r : Nat) (p : Int) : Prop := r < H.n ∧ ∃ s l, H.bk r = some ⟨[s, .I p], true⟩ ∧ Bytes H r s l
theorem Bytes.st {H H' : AH} {r s l} (h : Bytes H r s l) (k : St r H H') : Bytes H' r s l :=
  ⟨h.1, h.2.1, fun i x hx => let ⟨h1, b, o, h2, h3, h4, h5⟩ := h.2.2 i x hx; ⟨h1, b, o, h2, h3, Nat.lt_of_lt_of_le h4 k.1, by rw [k.2 b h4 (by omega)]; exact h5⟩⟩
theorem Rd.push {H : AH} {r p cs} (h : Rd H r p) : Rd (H.push cs) r p := by
  obtain ⟨h1, s, l, h2, h3⟩ := h
  exact ⟨Nat.lt_succ_of_lt h1, s, l, by simp only [push_bk]; rw [if_neg (by omega)]; exact h2, h3.st (St.push St.refl)⟩

section
variable {H : AH} {K : AV → AH → Prop} {n p : Int} {r : Nat} {w : Fk K}
theorem K_pick (h : Rd H r p) (hp : 0 ≤ p ∧ p ≤ 1099511627776) (hn : 1 ≤ n ∧ n ≤ 1099511627776)
    (k : ∀ x H', 0 ≤ x ∧ x < n → Rd H' r (p + 1) → St r H H' → K (.I x) H') : CallF Cd f_sl6Rd_pick [.ptr r 0, .I n] H K w := by
  rw [CallF_eq e_sl6Rd_pick rfl]
  obtain ⟨h1, s, l, h2, h3⟩ := h
  have hn1 : ¬ n < 1 := by omega
  have ret : ∀ x, 0 ≤ x ∧ x < n → K (.I x) (H.put r (some ⟨[s, .I (p + 1)], true⟩)) := by
    intro x hx
    have hs : St r H (H.put r (some ⟨[s, .I (p + 1)], true⟩)) := ⟨Nat.le_refl _, fun b _ hb => by simp only [put_bk]; rw [if_neg hb]⟩
    exact k x _ hx ⟨h1, s, l, by simp only [put_bk, if_true], h3.st hs⟩ hs
  simp (disch := omega) [load_eq, AH.store, h2, h3.1, hn1]
  refine cnd_mk (fun hl => ?_) (fun hl => ?_)
  · simp
    exact ret 0 (by omega)
  have hl0 : 0 < l.length := by cases l with | nil => exact absurd rfl hl | cons a l => simp
  obtain ⟨_, b, o, hs, hbr, hbn, _⟩ := h3.2.2 0 l[0] (by simp [hl0])
  have hbr : b ≠ r := by omega
  have hb : ∀ i : Int, 0 ≤ i ∧ i < l.length → ∃ x, (0 ≤ x ∧ x < 256) ∧ ((H.bk b).bind fun k => k.cells[o + i.toNat]?) = some (.i .u8 x) := by
    intro i hi
    obtain ⟨hx, b', o', hs', _, _, h5⟩ := h3.2.2 i.toNat l[i.toNat] (by simp)
    rw [hs] at hs'
    simp only [Option.some.injEq, Prod.mk.injEq] at hs'
    obtain ⟨rfl, rfl, _⟩ := hs'
    exact ⟨_, hx, h5⟩
  simp (disch := omega) [load_eq, h3.1]
  refine cnd_mk (fun hq => ?_) (fun hq => ?_)
  · obtain ⟨x, hx, hv⟩ := hb p (by omega)
    simp (disch := omega) [load_eq, hs, hbr, hv]
    exact ret _ (tmod_lt hx.1 (by omega))
  · have hlz : (l.length : Int) ≠ 0 := by omega
    have t1 := @tmod_lt p l.length (by omega) (by omega)
    have t2 := @tmod_lt (p * 7 + 3) l.length (by omega) (by omega)
    have t3 := @tdiv_lt p l.length (by omega) (by omega)
    obtain ⟨x, hx, hv⟩ := hb _ t1
    obtain ⟨y, hy, hv'⟩ := hb _ t2
    have hX : 0 ≤ x * 131 + y * 1117 + p * 29 + p.tdiv l.length * 53 ∧ x * 131 + y * 1117 + p * 29 + p.tdiv l.length * 53 < 4611686018427387904 := by omega
    have t4 := @tdiv_lt _ 64 hX.1 (by omega)
    simp (disch := omega) [load_eq, hs, hbr, hv, hv', h3.1, ibits_xor]
    exact ret _ (tmod_lt (by omega) (by omega))

theorem SlI.bytes {v : AV} {zs : List Int} (h : SlI H .u8 v zs) (hz : ∀ n ∈ zs, 0 ≤ n ∧ n < 256) {r : Nat} (hr : H.n ≤ r) (hl : zs.length ≤ 1048576) : Bytes H r v zs := by
  rcases h with ⟨rfl, rfl⟩ | ⟨rfl, rfl⟩ | ⟨b, rest, hb, rfl, h⟩
  · exact ⟨rfl, by simp, fun i x hx => by simp at hx⟩
  · exact ⟨rfl, by simp, fun i x hx => by simp at hx⟩
  · refine ⟨rfl, by omega, fun i x hx => ⟨hz x (List.mem_of_getElem? hx), b, 0, rfl, by omega, hb, ?_⟩⟩
    have hi := (List.getElem?_eq_some_iff.1 hx).1
    rw [h]
    simp only [Option.bind_some, Nat.zero_add, List.getElem?_map, List.getElem?_append_left hi, hx, Option.map_some]
theorem SlI.len {v : AV} {k : IntKind} {zs : List Int} (h : SlI H k v zs) : alen v = some zs.length := by
  rcases h with ⟨rfl, rfl⟩ | ⟨rfl, rfl⟩ | ⟨b, rest, hb, rfl, h⟩ <;> rfl
theorem SlI.cut {v : AV} {k : IntKind} {zs : List Int} (h : SlI H k v zs) (hl : 2000 < zs.length) : ∃ v', aslice 1 v none (some (.I 2000)) none = some v' ∧ SlI H k v' (zs.take 2000) := by
  rcases h with ⟨rfl, rfl⟩ | ⟨rfl, rfl⟩ | ⟨b, rest, hb, rfl, h⟩
  · simp at hl
  · simp at hl
  · refine ⟨.sl b 0 2000 .ro, ?_, .inr (.inr ⟨b, zs.drop 2000 ++ rest, hb, ?_, ?_⟩)⟩
    · simp [aslice, bnd, aint]; omega
    · rw [List.length_take, Nat.min_eq_left (by omega)]
    · rw [h, ← List.append_assoc, List.take_append_drop]
theorem K_l6Open {v : AV} {zs : List Int} (h : SlI H .u8 v zs) (hz : ∀ n ∈ zs, 0 ≤ n ∧ n < 256) (hl : zs.length ≤ 1048576)
    (k : ∀ H', Rd H' H.n 0 → St H.n H H' → K (.ptr H.n 0) H') : CallF Cd f_sl6Open [v] H K w := by
  rw [CallF_eq e_sl6Open rfl]
  simp [h.len]
  have fin : ∀ v zs, SlI H .u8 v zs → (∀ n ∈ zs, 0 ≤ n ∧ n < 256) → zs.length ≤ 1048576 → K (.ptr H.n 0) (H.push [v, .I 0]) := by
    intro v zs h hz hl
    refine k _ ⟨Nat.lt_succ_self _, v, zs, by simp, (h.bytes hz (Nat.le_refl _) hl).st (St.push St.refl)⟩ (St.push St.refl)
  have flat : ∀ v zs, SlI H .u8 v zs → v.cells = [v] ∧ v.isTup = false := by
    intro v zs h
    rcases h with ⟨rfl, rfl⟩ | ⟨rfl, rfl⟩ | ⟨b, rest, hb, rfl, h⟩ <;> exact ⟨rfl, rfl⟩
  refine cnd_mk (fun hq => ?_) (fun hq => ?_)
  · obtain ⟨v', e, h'⟩ := h.cut (by omega)
    obtain ⟨f1, f2⟩ := flat _ _ h'
    simp [e, f1, f2]
    exact fin _ _ h' (fun n hn => hz n (List.mem_of_mem_take hn)) (by rw [List.length_take]; omega)
  · obtain ⟨f1, f2⟩ := flat _ _ h
    simp [f1, f2]
    exact fin _ _ h hz hl

def Rdx (H : AH) (r : Nat) (m : Int) : Prop := ∃ p, 0 ≤ p ∧ p ≤ m ∧ Rd H r p
theorem Rdx.push {r m cs} (h : Rdx H r m) : Rdx (H.push cs) r m := let ⟨p, a, b, c⟩ := h; ⟨p, a, b, c.push⟩
theorem Rdx.up {r m m'} (h : Rdx H r m) (k : m ≤ m') : Rdx H r m' := let ⟨p, a, b, c⟩ := h; ⟨p, a, by omega, c⟩
theorem Rdx.lt {r m} (h : Rdx H r m) : r < H.n := let ⟨p, a, b, c⟩ := h; c.1
theorem P_pick {m : Int} (h : Rdx H r m) (hm : m ≤ 1099511627776) (hn : 1 ≤ n ∧ n ≤ 1099511627776)
    (k : ∀ x H', 0 ≤ x ∧ x < n → Rdx H' r (m + 1) → St r H H' → K (.I x) H') : CallF Cd f_sl6Rd_pick [.ptr r 0, .I n] H K w := by
  obtain ⟨p, a, b, c⟩ := h
  exact K_pick c (by omega) hn fun x H' hx hR hS => k x H' hx ⟨p + 1, by omega, by omega, hR⟩ hS
def Ints (l : List Int) : List AV := l.map (.i .i64 ·)
theorem Ints_get {l : List Int} {x : Int} {j : Nat} (h : 0 ≤ x ∧ x < j) (hj : j = l.length) : ∃ y, y ∈ l ∧ (Ints l)[x.toNat]? = some (.I y) := by
  have hi : x.toNat < l.length := by omega
  exact ⟨l[x.toNat], List.getElem_mem hi, by simp [Ints, hi]⟩
theorem St.at {r : Nat} {H H' : AH} {b : Nat} (h : St r H H') (hb : b < H.n) (hr : b ≠ r) {o} (e : H.bk b = o) : H'.bk b = o := (h.2 b hb hr).trans e

end
end Go.Proofs.YtmecbehegmgbhaaGreat.AM
namespace Go.Proofs.YtmecbehegmgbhaaGreat.AM
set_option linter.unusedSimpArgs false
set_option linter.unusedVariables false
open Go

theorem load_push {H : AH} {cs : List AV} {b o : Nat} : (H.push cs).load b o = if b = H.n then cs[o]? else H.load b o := by
  unfold AH.load; simp only [push_bk]; split <;> rfl
theorem loadN_push {H : AH} {cs : List AV} {b o n : Nat} : (H.push cs).loadN b o n = if b = H.n then seg cs o n else H.loadN b o n := by
  unfold AH.loadN; simp only [push_bk]; split <;> rfl
theorem load_ext {H H' : AH} {b o : Nat} (h : Ext H H') (hb : b < H.n) : H'.load b o = H.load b o := by unfold AH.load; rw [h.2 b hb]
theorem loadN_ext {H H' : AH} {b o n : Nat} (h : Ext H H') (hb : b < H.n) : H'.loadN b o n = H.loadN b o n := by unfold AH.loadN; rw [h.2 b hb]
theorem seg_at {cs x : List AV} {o n j : Nat} (h : seg cs o n = some x) (hj : j < n) : cs[o + j]? = x[j]? := by
  unfold seg at h
  split at h
  · cases h
    rw [List.getElem?_take, if_pos hj, List.getElem?_drop]
  · cases h
theorem loadN_at {H : AH} {b o n j : Nat} {x : List AV} (h : H.loadN b o n = some x) (hj : j < n) : H.load b (o + j) = x[j]? := by
  unfold AH.loadN at h
  unfold AH.load
  cases hb : H.bk b with
  | none => rw [hb] at h; cases h
  | some k => rw [hb] at h; exact seg_at h hj

def SeesN (sz : Nat) (H : AH) (v : AV) (l : List (List AV)) : Prop := alen v = some l.length ∧ l.length ≤ 8589934592 ∧
  ∀ (i : Nat) x, l[i]? = some x → ∃ b o, asSl v = some (b, o, l.length) ∧ b < H.n ∧ H.loadN b (o + i * sz) sz = some x
theorem SeesN.ext {sz : Nat} {H H' : AH} {v l} (h : SeesN sz H v l) (k : Ext H H') : SeesN sz H' v l :=
  ⟨h.1, h.2.1, fun i x hx => let ⟨b, o, h1, h2, h3⟩ := h.2.2 i x hx; ⟨b, o, h1, Nat.lt_of_lt_of_le h2 k.1, by rw [loadN_ext k h2]; exact h3⟩⟩

theorem seg_flatten {sz : Nat} : ∀ {l : List (List AV)}, (∀ x ∈ l, x.length = sz) → ∀ {i : Nat} {x : List AV}, l[i]? = some x → seg l.flatten (i * sz) sz = some x
  | [], _, i, x, h => by simp at h
  | y :: l, hs, 0, x, h => by
    simp only [List.getElem?_cons_zero, Option.some.injEq] at h
    subst h
    have := hs y (by simp)
    unfold seg
    simp only [Nat.zero_mul, Nat.zero_add, List.flatten_cons, List.length_append, List.drop_zero]
    rw [if_pos (by omega), ← this, List.take_left']
    rfl
  | y :: l, hs, i + 1, x, h => by
    have hy := hs y (by simp)
    have ih := seg_flatten (l := l) (fun z hz => hs z (by simp [hz])) (i := i) (x := x) (by simpa using h)
    unfold seg at ih ⊢
    split at ih
    · cases ih
      simp only [List.flatten_cons, List.length_append]
      rw [if_pos (by rw [Nat.succ_mul]; omega), Nat.succ_mul, Nat.add_comm, ← hy, ← List.drop_drop, List.drop_left']
      rfl
    · cases ih
theorem SeesN.new {sz : Nat} {H : AH} {l : List (List AV)} {cap : ACap} {n : Nat} {cs : List AV} (hs : ∀ x ∈ l, x.length = sz) (hl : l.length ≤ 8589934592) (hn : n = l.length) (hc : cs = l.flatten) : SeesN sz (H.push cs) (.sl H.n 0 n cap) l := by
  subst hn hc
  refine ⟨rfl, hl, fun i x hx => ⟨H.n, 0, rfl, Nat.lt_succ_self _, ?_⟩⟩
  rw [loadN_push, if_pos rfl, Nat.zero_add]
  exact seg_flatten hs hx
theorem SeesN.nil {sz : Nat} {H : AH} {v : AV} (h : alen v = some 0) : SeesN sz H v [] := ⟨h, by simp, fun i x hx => by simp at hx⟩

structure Ins where
  op : Int
  rd : Int
  rs : Int
  rt : Int
  imm : Int
deriving DecidableEq
def Ins.cs (i : Ins) : List AV := [.I i.op, .I i.rd, .I i.rs, .I i.rt, .I i.imm]
def SeesI (H : AH) (v : AV) (l : List Ins) : Prop := SeesN 5 H v (l.map Ins.cs)

section
variable {H : AH} {K : AV → AH → Prop} {n rd rs imm : Int} {w : Fk K}
theorem SeesI.new {H : AH} {l : List Ins} {cap : ACap} {n : Nat} {cs : List AV} (hl : l.length ≤ 8589934592) (hn : n = l.length) (hc : cs = (l.map Ins.cs).flatten) : SeesI (H.push cs) (.sl H.n 0 n cap) l :=
  SeesN.new (fun x hx => by obtain ⟨i, _, rfl⟩ := List.mem_map.1 hx; rfl) (by simpa using hl) (by simpa using hn) hc
end
end Go.Proofs.YtmecbehegmgbhaaGreat.AM
namespace Go.Proofs.YtmecbehegmgbhaaGreat.AM
set_option linter.unusedSimpArgs false
set_option linter.unusedVariables false
open Go

section
variable {H : AH} {K : AV → AH → Prop} {n rd : Int} {w : Fk K}
theorem SeesI.at {H : AH} {v : AV} {l : List Ins} (h : SeesI H v l) {i : Nat} (hi : i < l.length) : ∃ b o, asSl v = some (b, o, l.length) ∧ b < H.n ∧ H.loadN b (o + i * 5) 5 = some l[i].cs := by
  obtain ⟨b, o, h1, h2, h3⟩ := h.2.2 i (l[i].cs) (by simp [hi])
  exact ⟨b, o, by simpa using h1, h2, h3⟩
theorem SeesI.len {H : AH} {v : AV} {l : List Ins} (h : SeesI H v l) : alen v = some l.length := by simpa using h.1
theorem SeesI.big {H : AH} {v : AV} {l : List Ins} (h : SeesI H v l) : l.length ≤ 8589934592 := by simpa using h.2.1
end
end Go.Proofs.YtmecbehegmgbhaaGreat.AM
namespace Go.Proofs.YtmecbehegmgbhaaGreat.AM
set_option linter.unusedSimpArgs false
set_option linter.unusedVariables false
open Go

section
variable {H : AH} {K : AV → AH → Prop} {n rd : Int} {w : Fk K}
end
end Go.Proofs.YtmecbehegmgbhaaGreat.AM
namespace Go.Proofs.YtmecbehegmgbhaaGreat.AM
set_option linter.unusedSimpArgs false
set_option linter.unusedVariables false
open Go

theorem put_put {H : AH} {b : Nat} {x y : Option Blk} : (H.put b x).put b y = H.put b y := by
  unfold AH.put; congr 1; funext c; by_cases h : c = b <;> simp [h]
section
variable {H : AH} {K : AV → AH → Prop} {n rd rs imm : Int} {w : Fk K}
theorem NewI.sees {H : AH} {b : Nat} {cap : ACap} {l : List Ins} (hb : b < H.n) (h : H.bk b = some ⟨(l.map Ins.cs).flatten, true⟩) (hl : l.length ≤ 8589934592) : SeesI H (.sl b 0 l.length cap) l := by
  refine ⟨by simp [alen], by simpa using hl, fun i x hx => ⟨b, 0, by simp [asSl], hb, ?_⟩⟩
  unfold AH.loadN
  rw [h, Nat.zero_add]
  exact seg_flatten (fun y hy => by obtain ⟨j, _, rfl⟩ := List.mem_map.1 hy; rfl) hx
end
end Go.Proofs.YtmecbehegmgbhaaGreat.AM
namespace Go.Proofs.YtmecbehegmgbhaaGreat.AM
set_option linter.unusedSimpArgs false
set_option linter.unusedVariables false
open Go

def SeesZ (H : AH) (v : AV) (l : List Int) : Prop := alen v = some l.length ∧ l.length ≤ 8589934592 ∧
  ∀ (i : Nat) x, l[i]? = some x → ∃ b o, asSl v = some (b, o, l.length) ∧ b < H.n ∧ H.load b (o + i) = some (.I x)
theorem SeesZ.ext {H H' : AH} {v l} (h : SeesZ H v l) (k : Ext H H') : SeesZ H' v l :=
  ⟨h.1, h.2.1, fun i x hx => let ⟨b, o, h1, h2, h3⟩ := h.2.2 i x hx; ⟨b, o, h1, Nat.lt_of_lt_of_le h2 k.1, by rw [load_ext k h2]; exact h3⟩⟩
theorem SeesZ.at {H : AH} {v : AV} {l : List Int} (h : SeesZ H v l) {i : Nat} (hi : i < l.length) : ∃ b o, asSl v = some (b, o, l.length) ∧ b < H.n ∧ H.load b (o + i) = some (.I l[i]) :=
  h.2.2 i l[i] (by simp [hi])
theorem SeesZ.nil {H : AH} {v : AV} (h : alen v = some 0) : SeesZ H v [] := ⟨h, by simp, fun i x hx => by simp at hx⟩

section
variable {H : AH} {K : AV → AH → Prop} {n : Int} {w : Fk K}
theorem K_iareWords_l {v : AV} {l : List Int} (h : SeesZ H v l) {Q : Out → Env → AH → Prop}
    (h1 : ∀ e H, Q (.brk 0) e H = K (.b true) H) (h2 : ∀ e H, Q .ret e H = bindO (get e 2) fun v => K v H) (m i : Nat) (hm : i + m = l.length) :
    W Cd (.loop c_iareWords_l0) [(5, v), (6, .I l.length), (7, .I i)] H Q ↔ K (.b ((l.drop i).all isW)) H := by
  have hbig := h.2.1
  induction m generalizing i with
  | zero =>
    rw [W_loop_as c_iareWords_l0.eq_1]
    have : ¬ (i : Int) < l.length := by omega
    simp [this, h1]
    rw [List.drop_eq_nil_of_le (by omega)]; rfl
  | succ m ih =>
    rw [W_loop_as c_iareWords_l0.eq_1]
    have hi : i < l.length := by omega
    obtain ⟨b, o, s1, _, l1⟩ := h.at hi
    have hlt : (i : Int) < l.length := by omega
    have hr := ih (i + 1) (by omega)
    have d1 := List.drop_eq_getElem_cons hi
    simp (disch := omega) [hlt, s1, l1, K_iWordValid]
    refine cnd_iff (fun h => ?_) (fun h => ?_)
    · simp [h2]
      refine Kb_false ?_
      rw [d1, List.all_cons]; simp [h]
    · simp (disch := omega)
      have e : (l.drop i).all isW = (l.drop (i + 1)).all isW := by rw [d1, List.all_cons]; simp at h; simp [h]
      rw [e]
      simpa using hr
theorem K_iareWords {v : AV} {l : List Int} (h : SeesZ H v l) : CallF Cd f_iareWords [v] H K w = K (.b (l.all isW)) H := by
  rw [CallF_eq e_iareWords rfl]
  simp [h.1]
  have := K_iareWords_l (K := K) h (Q := ?_) ?_ ?_ l.length 0 (by omega)
  · simpa using this
  · intros; simp
  · intros; simp
structure Mach where
  regs : List Int
  pc : Int
  mem : List Int
deriving DecidableEq
def SeesM (H : AH) (c : List AV) (m : Mach) : Prop := ∃ r e, c = [r, .I m.pc, e] ∧ SeesZ H r m.regs ∧ SeesZ H e m.mem ∧ r.flat = true ∧ e.flat = true
theorem SeesM.ext {H H' : AH} {c m} (h : SeesM H c m) (k : Ext H H') : SeesM H' c m := let ⟨r, e, h1, h2, h3, h4, h5⟩ := h; ⟨r, e, h1, h2.ext k, h3.ext k, h4, h5⟩
theorem push_put {H : AH} {cs cs' : List AV} : (H.push cs).put H.n (some ⟨cs', true⟩) = H.push cs' := by
  unfold AH.push AH.put; congr 1; funext c; by_cases h : c = H.n <;> simp [h]
theorem splice_at {A B : List AV} {x y : AV} : splice (A ++ x :: B) A.length [y] = A ++ y :: B := by
  simp [splice]
end
end Go.Proofs.YtmecbehegmgbhaaGreat.AM
namespace Go.Proofs.YtmecbehegmgbhaaGreat.AM
set_option linter.unusedSimpArgs false
set_option linter.unusedVariables false
open Go

theorem nf2 {a : Nat} : (a = a + 1 + 1) = False := eq_false (by omega)
theorem ng2 {a : Nat} : (a + 1 + 1 = a) = False := eq_false (by omega)
theorem nf3 {a : Nat} : (a = a + 1 + 1 + 1) = False := eq_false (by omega)
theorem ng3 {a : Nat} : (a + 1 + 1 + 1 = a) = False := eq_false (by omega)
theorem nf4 {a : Nat} : (a = a + 1 + 1 + 1 + 1) = False := eq_false (by omega)
theorem ng4 {a : Nat} : (a + 1 + 1 + 1 + 1 = a) = False := eq_false (by omega)
theorem nf5 {a : Nat} : (a = a + 1 + 1 + 1 + 1 + 1) = False := eq_false (by omega)
theorem ng5 {a : Nat} : (a + 1 + 1 + 1 + 1 + 1 = a) = False := eq_false (by omega)
theorem nf6 {a : Nat} : (a = a + 1 + 1 + 1 + 1 + 1 + 1) = False := eq_false (by omega)
theorem ng6 {a : Nat} : (a + 1 + 1 + 1 + 1 + 1 + 1 = a) = False := eq_false (by omega)
theorem nf7 {a : Nat} : (a = a + 1 + 1 + 1 + 1 + 1 + 1 + 1) = False := eq_false (by omega)
theorem ng7 {a : Nat} : (a + 1 + 1 + 1 + 1 + 1 + 1 + 1 = a) = False := eq_false (by omega)
attribute [simp] nf2 ng2 nf3 ng3 nf4 ng4 nf5 ng5 nf6 ng6 nf7 ng7

section
variable {H : AH} {K : AV → AH → Prop} {n : Int} {w : Fk K}
theorem SeesZ.new {H : AH} {l : List Int} {cap : ACap} (hl : l.length ≤ 8589934592) : SeesZ (H.push (Ints l)) (.sl H.n 0 l.length cap) l :=
  ⟨rfl, hl, fun i x hx => ⟨H.n, 0, rfl, Nat.lt_succ_self _, by rw [load_push, if_pos rfl, Nat.zero_add]; simp [Ints, hx]⟩⟩
theorem SeesZ.of {H : AH} {l : List Int} {cap : ACap} {b : Nat} {q : Bool} (hl : l.length ≤ 8589934592) (hb : b < H.n) (h : H.bk b = some ⟨Ints l, q⟩) : SeesZ H (.sl b 0 l.length cap) l :=
  ⟨rfl, hl, fun i x hx => ⟨b, 0, rfl, hb, by unfold AH.load; rw [h, Nat.zero_add]; simp [Ints, hx]⟩⟩
theorem Ext.put {H G : AH} {b : Nat} {o : Option Blk} (h : Ext H G) (hb : H.n ≤ b) : Ext H (G.put b o) := ⟨h.1, fun x hx => by simp only [put_bk]; rw [if_neg (by omega)]; exact h.2 x hx⟩
def ArgZ (H : AH) (v : AV) (l : List Int) : Prop := alen v = some l.length ∧ l.length ≤ 9223372036854775807 ∧ v.flat = true ∧
  ∀ (i : Nat) x, l[i]? = some x → ∃ b o, asSl v = some (b, o, l.length) ∧ b < H.n ∧ H.load b (o + i) = some (.I x)
theorem ArgZ.sees {v l} (h : ArgZ H v l) (k : l.length ≤ 8589934592) : SeesZ H v l := ⟨h.1, k, h.2.2.2⟩
end
end Go.Proofs.YtmecbehegmgbhaaGreat.AM
namespace Go.Proofs.YtmecbehegmgbhaaGreat.AM
set_option linter.unusedSimpArgs false
set_option linter.unusedVariables false
open Go Go.RowKit

end Go.Proofs.YtmecbehegmgbhaaGreat.AM
namespace Go.Proofs.YtmecbehegmgbhaaGreat.AM
set_option linter.unusedSimpArgs false
set_option linter.unusedVariables false
open Go

section
variable {H : AH} {K : AV → AH → Prop} {n p : Int} {r : Nat} {w : Fk K}
theorem Rdx.put {m : Int} {b : Nat} {o : Option Blk} (h : Rdx H r m) (hb : r < b) : Rdx (H.put b o) r m := by
  obtain ⟨p, h1, h2, h3, s, l, h4, h5⟩ := h
  refine ⟨p, h1, h2, h3, s, l, ?_, h5.1, h5.2.1, fun i x hx => ?_⟩
  · simp only [put_bk]; rw [if_neg (by omega)]; exact h4
  · obtain ⟨q1, b', o', q2, q3, q4, q5⟩ := h5.2.2 i x hx
    exact ⟨q1, b', o', q2, q3, q4, by simp only [put_bk]; rw [if_neg (by omega)]; exact q5⟩
theorem St.put {a b : AH} {x : Nat} {o : Option Blk} (h : St r a b) (hx : a.n ≤ x) : St r a (b.put x o) :=
  ⟨h.1, fun y hy hr => by simp only [put_bk]; rw [if_neg (by omega)]; exact h.2 y hy hr⟩
end
end Go.Proofs.YtmecbehegmgbhaaGreat.AM
namespace Go.Proofs.YtmecbehegmgbhaaGreat.AM
set_option linter.unusedSimpArgs false
set_option linter.unusedVariables false
open Go

section
variable {H : AH} {K : AV → AH → Prop} {n a b : Int} {w : Fk K}
end
end Go.Proofs.YtmecbehegmgbhaaGreat.AM
namespace Go.Proofs.YtmecbehegmgbhaaGreat.AM
set_option linter.unusedSimpArgs false
set_option linter.unusedVariables false
open Go

section
variable {H : AH} {K : AV → AH → Prop} {n a b : Int} {r : Nat} {w : Fk K}
end
end Go.Proofs.YtmecbehegmgbhaaGreat.AM
namespace Go.Proofs.YtmecbehegmgbhaaGreat.AM
set_option linter.unusedSimpArgs false
set_option linter.unusedVariables false
open Go

def Only (bs : List Nat) (H H' : AH) : Prop := H.n ≤ H'.n ∧ ∀ b, b < H.n → b ∉ bs → H'.bk b = H.bk b
theorem Only.refl {bs H} : Only bs H H := ⟨Nat.le_refl _, fun _ _ _ => rfl⟩
theorem Only.trans {bs a b c} (h : Only bs a b) (k : Only bs b c) : Only bs a c := ⟨Nat.le_trans h.1 k.1, fun x hx hr => (k.2 x (Nat.lt_of_lt_of_le hx h.1) hr).trans (h.2 x hx hr)⟩
theorem Only.push {bs a b cs} (h : Only bs a b) : Only bs a (b.push cs) := ⟨Nat.le_succ_of_le h.1, fun x hx hr => by simp only [push_bk]; rw [if_neg (by have := h.1; omega)]; exact h.2 x hx hr⟩
theorem Only.put {bs a b x o} (h : Only bs a b) (hx : a.n ≤ x ∨ x ∈ bs) : Only bs a (b.put x o) := ⟨h.1, fun y hy hr => by
  simp only [put_bk]; rw [if_neg (by rintro rfl; rcases hx with hx | hx; omega; exact hr hx)]; exact h.2 y hy hr⟩
theorem St.only {r H H' bs} (h : St r H H') (hb : r ∈ bs) : Only bs H H' := ⟨h.1, fun x hx hr => h.2 x hx (by rintro rfl; exact hr hb)⟩
theorem Only.bk {bs H H' b o} (h : Only bs H H') (hb : b < H.n) (hr : b ∉ bs) (e : H.bk b = o) : H'.bk b = o := (h.2 b hb hr).trans e
theorem Only.st {r bs H G G'} (h : Only bs G G') (k : St r H G) (hb : ∀ b ∈ bs, b = r ∨ H.n ≤ b) : St r H G' := ⟨Nat.le_trans k.1 h.1, fun x hx hr => (h.2 x (Nat.lt_of_lt_of_le hx k.1) (fun hm => by
  rcases hb x hm with e | e
  · exact hr e
  · omega)).trans (k.2 x hx hr)⟩
theorem Ints_len {l : List Int} : (Ints l).length = l.length := by simp [Ints]
theorem splice_set : ∀ {l : List AV} {i : Nat} {x : AV}, i < l.length → splice l i [x] = l.set i x
  | [], _, _, h => by simp at h
  | a :: l, 0, x, _ => by simp [splice]
  | a :: l, i + 1, x, h => by
    have := splice_set (l := l) (i := i) (x := x) (by simpa using h)
    unfold splice at this ⊢
    have e : i + 1 + [x].length = (i + [x].length) + 1 := by omega
    rw [e]
    simp only [List.take_succ_cons, List.drop_succ_cons, List.cons_append, List.set_cons_succ]
    rw [this]
theorem Ints_set {l : List Int} {i : Nat} {x : Int} (h : i < l.length) : splice (Ints l) i [.I x] = Ints (l.set i x) := by
  rw [splice_set (by rw [Ints_len]; exact h)]
  unfold Ints; rw [List.map_set]

theorem load_bk {H : AH} {b o : Nat} {cs : List AV} {q : Bool} (h : H.bk b = some ⟨cs, q⟩) : H.load b o = cs[o]? := by unfold AH.load; rw [h]; rfl
theorem loadN_bk {H : AH} {b o n : Nat} {cs : List AV} {q : Bool} (h : H.bk b = some ⟨cs, q⟩) : H.loadN b o n = seg cs o n := by unfold AH.loadN; rw [h]; rfl
theorem store_bk {H : AH} {b o : Nat} {vs cs : List AV} (h : H.bk b = some ⟨cs, true⟩) (hl : o + vs.length ≤ cs.length) : H.store b o vs = some (H.put b (some ⟨splice cs o vs, true⟩)) := store_of h hl

theorem push_old {H : AH} {cs b o} (hb : b < H.n) (e : H.bk b = o) : (H.push cs).bk b = o := by simp only [push_bk]; rw [if_neg (by omega)]; exact e
theorem push_new {H : AH} {cs} : (H.push cs).bk H.n = some ⟨cs, true⟩ := by simp only [push_bk, if_true]
theorem put_same {H : AH} {b o} : (H.put b o).bk b = o := by simp
theorem put_other {H : AH} {b b' o o'} (hb : ¬ b = b') (e : H.bk b = o) : (H.put b' o').bk b = o := by simp [hb]; exact e
theorem SeesZ.off {H : AH} {l : List Int} {cap : ACap} {b o : Nat} {q : Bool} (hl : l.length ≤ 8589934592) (hb : b < H.n) (h : H.bk b = some ⟨Ints l, q⟩) (ho : o ≤ l.length) : SeesZ H (.sl b o (l.drop o).length cap) (l.drop o) :=
  ⟨rfl, by rw [List.length_drop]; omega, fun i x hx => ⟨b, o, rfl, hb, by rw [load_bk h]; rw [List.getElem?_drop] at hx; simp [Ints, hx]⟩⟩
theorem push_put2 {H : AH} {a b cs cs' : List AV} : (((H.push a).push b).push cs).put (H.n + 1 + 1) (some ⟨cs', true⟩) = ((H.push a).push b).push cs' := push_put
section
variable {H : AH} {K : AV → AH → Prop} {n p : Int} {r : Nat} {w : Fk K}
def MemS (base : Nat) (no : List Nat) (G : AH) (v : AV) (l : List Int) : Prop := ∃ b cap, v = .sl b 0 l.length cap ∧ base ≤ b ∧ b ∉ no ∧ b < G.n ∧ G.bk b = some ⟨Ints l, true⟩ ∧ (cap = .ex l.length ∨ cap = .lb l.length 1)
theorem seg_all {l : List Int} : seg (Ints l) 0 (l.length * 1) = some (Ints l) := by
  unfold seg; rw [Ints_len, if_pos (by omega), List.drop_zero, List.take_of_length_le (by rw [Ints_len]; omega)]
theorem MemS.app {base no} {G : AH} {v : AV} {l : List Int} {x : Int} (h : MemS base no G v l) (hl : l.length < 1000) (hn : ∀ y ∈ no, y < G.n) (hb : base ≤ G.n) :
    ∃ v' G', aapp G 1 v 1 [.I x] = some (v', G') ∧ MemS base no G' v' (l ++ [x]) ∧ G.n ≤ G'.n ∧ (∀ y, y < G.n → (y < base ∨ y ∈ no) → G'.bk y = G.bk y) ∧ v'.flat = true := by
  obtain ⟨b, cap, rfl, h1, h2, h3, h4, h5⟩ := h
  have e1 : Ints l ++ [.I x] = Ints (l ++ [x]) := by simp [Ints]
  have nn : G.n ∉ no := fun hm => by have := hn _ hm; omega
  rcases h5 with rfl | rfl
  · refine ⟨.sl G.n 0 (l.length + 1) (.lb (l.length + 1) 1), G.push (Ints l ++ [.I x]), ?_, ⟨G.n, .lb (l.length + 1) 1, by simp, hb, nn, Nat.lt_succ_self _, by rw [e1]; simp, .inr (by simp)⟩, Nat.le_succ _, fun y hy _ => ?_, rfl⟩
    · unfold aapp
      simp only
      rw [if_neg (show ¬ 1 = 0 by omega), if_neg (show ¬ big < l.length + 1 by unfold big; omega), if_neg (show ¬ l.length + 1 ≤ l.length by omega), loadN_bk h4, seg_all]
    · simp only [push_bk]; rw [if_neg (by omega)]
  · refine ⟨.sl G.n 0 (l.length + 1) (.lb (l.length + 1) 1), (G.put b none).push (Ints l ++ [.I x]), ?_, ⟨G.n, .lb (l.length + 1) 1, by simp, hb, nn, Nat.lt_succ_self _, by rw [e1]; simp, .inr (by simp)⟩, Nat.le_succ _, fun y hy hq => ?_, rfl⟩
    · unfold aapp
      simp only
      rw [if_neg (show ¬ 1 = 0 by omega), if_neg (show ¬ big < l.length + 1 by unfold big; omega), if_neg (show ¬ (1 ≠ 1) by omega), if_neg (show ¬ l.length + 1 ≤ l.length by omega), h4, loadN_bk h4, seg_all]
      simp
    · have hy' : ¬ y = (G.put b none).n := Nat.ne_of_lt hy
      simp only [push_bk, put_bk]; rw [if_neg hy', if_neg]; rintro rfl; rcases hq with hq | hq
      · omega
      · exact h2 hq
theorem flat_cells {v : AV} (h : v.flat = true) : v.cells = [v] := by cases v <;> first | rfl | cases h
theorem flat_tup {v : AV} (h : v.flat = true) : v.isTup = false := by cases v <;> first | rfl | cases h
theorem Rdx.same {m : Int} {G G' : AH} (h : Rdx G r m) (hn : G.n ≤ G'.n) (k : ∀ b, b ≤ r → G'.bk b = G.bk b) : Rdx G' r m := by
  obtain ⟨p, h1, h2, h3, s, l, h4, h5⟩ := h
  refine ⟨p, h1, h2, by omega, s, l, (k r (Nat.le_refl _)).trans h4, h5.1, h5.2.1, fun i x hx => ?_⟩
  obtain ⟨q1, b', o', q2, q3, q4, q5⟩ := h5.2.2 i x hx
  exact ⟨q1, b', o', q2, q3, by omega, by rw [k b' (by omega)]; exact q5⟩
theorem MemS.sees {base no} {G : AH} {v : AV} {l : List Int} (h : MemS base no G v l) (hl : l.length ≤ 8589934592) : SeesZ G v l := by
  obtain ⟨b, cap, rfl, h1, h2, h3, h4, h5⟩ := h
  exact SeesZ.of hl h3 h4
def Regs (base : Nat) (c : List AV) (m : Mach) : Prop := ∃ b o e, c = [.sl b o m.regs.length (.ex m.regs.length), .I m.pc, e] ∧ base ≤ b ∧ ∀ b' o' n', asSl e = some (b', o', n') → base ≤ b'
theorem SeesZ.put {H : AH} {v l b o} (h : SeesZ H v l) (k : ∀ b' o' n', asSl v = some (b', o', n') → b' ≠ b) : SeesZ (H.put b o) v l :=
  ⟨h.1, h.2.1, fun i x hx => let ⟨b1, o1, h1, h2, h3⟩ := h.2.2 i x hx; ⟨b1, o1, h1, h2, by unfold AH.load at h3 ⊢; simp only [put_bk]; rw [if_neg (k _ _ _ h1)]; exact h3⟩⟩
def Src (H : AH) (v : AV) (l : List Int) : Prop := l.length ≤ 8589934592 ∧ ((v = .nils ∧ l = []) ∨ (v = .esl ∧ l = []) ∨ ∃ b o c, v = .sl b o l.length c ∧ b < H.n ∧ H.loadN b o l.length = some (Ints l))
theorem Src.sees {H : AH} {v : AV} {l : List Int} (h : Src H v l) : SeesZ H v l := by
  obtain ⟨h0, h | h | ⟨b, o, c, rfl, hb, hl⟩⟩ := h
  · obtain ⟨rfl, rfl⟩ := h; exact SeesZ.nil rfl
  · obtain ⟨rfl, rfl⟩ := h; exact SeesZ.nil rfl
  · refine ⟨rfl, h0, fun i x hx => ⟨b, o, rfl, hb, ?_⟩⟩
    have hi := (List.getElem?_eq_some_iff.1 hx).1
    rw [loadN_at hl hi]; simp [Ints, hx]
theorem Src.flat {H : AH} {v : AV} {l : List Int} (h : Src H v l) : v.flat = true := by
  obtain ⟨h0, h | h | ⟨b, o, c, rfl, hb, hl⟩⟩ := h
  · rw [h.1]; rfl
  · rw [h.1]; rfl
  · rfl
theorem Src.elems {H : AH} {v : AV} {l : List Int} (h : Src H v l) : elems H 1 v = some (Ints l) := by
  obtain ⟨h0, h | h | ⟨b, o, c, rfl, hb, hl⟩⟩ := h
  · obtain ⟨rfl, rfl⟩ := h; rfl
  · obtain ⟨rfl, rfl⟩ := h; rfl
  · simpa [AM.elems] using hl
theorem Src.same {H H' : AH} {v : AV} {l : List Int} (h : Src H v l) (hn : H.n ≤ H'.n) (k : ∀ b o n, asSl v = some (b, o, n) → b < H.n → H'.bk b = H.bk b) : Src H' v l := by
  obtain ⟨h0, h | h | ⟨b, o, c, rfl, hb, hl⟩⟩ := h
  · exact ⟨h0, .inl h⟩
  · exact ⟨h0, .inr (.inl h)⟩
  · refine ⟨h0, .inr (.inr ⟨b, o, c, rfl, Nat.lt_of_lt_of_le hb hn, ?_⟩)⟩
    unfold AH.loadN at hl ⊢
    rw [k _ _ _ rfl hb]; exact hl
theorem Src.ext {H H' : AH} {v : AV} {l : List Int} (h : Src H v l) (k : Ext H H') : Src H' v l := h.same k.1 fun b o n _ hb => k.2 b hb
def SrcM (H : AH) (c : List AV) (m : Mach) : Prop := ∃ r e, c = [r, .I m.pc, e] ∧ Src H r m.regs ∧ Src H e m.mem
theorem SrcM.sees {H : AH} {c m} (h : SrcM H c m) : SeesM H c m := let ⟨r, e, h1, h2, h3⟩ := h; ⟨r, e, h1, h2.sees, h3.sees, h2.flat, h3.flat⟩
theorem SrcM.ext {H H' : AH} {c m} (h : SrcM H c m) (k : Ext H H') : SrcM H' c m := let ⟨r, e, h1, h2, h3⟩ := h; ⟨r, e, h1, h2.ext k, h3.ext k⟩
theorem MemS.src {base no} {G : AH} {v : AV} {l : List Int} (h : MemS base no G v l) (hl : l.length ≤ 8589934592) : Src G v l := by
  obtain ⟨b, cap, rfl, h1, h2, h3, h4, h5⟩ := h
  refine ⟨hl, .inr (.inr ⟨b, 0, cap, rfl, h3, ?_⟩)⟩
  rw [loadN_bk h4]; have := @seg_all l; simpa using this
theorem Src.off {H : AH} {l : List Int} {cap : ACap} {b o n : Nat} {q : Bool} (hl : l.length ≤ 8589934592) (hn : n = (l.drop o).length) (hb : b < H.n) (h : H.bk b = some ⟨Ints l, q⟩) (ho : o ≤ l.length) : Src H (.sl b o n cap) (l.drop o) := by
  subst hn
  refine ⟨by rw [List.length_drop]; omega, .inr (.inr ⟨b, o, cap, rfl, hb, ?_⟩)⟩
  rw [loadN_bk h]
  unfold seg
  rw [if_pos (by rw [Ints_len, List.length_drop]; omega)]
  congr 1
  unfold Ints
  rw [List.map_drop, List.take_of_length_le (by simp)]
theorem Regs.put {base b : Nat} {o} {H : AH} {c : List AV} {m : Mach} (h : Regs base c m) (k : SrcM H c m) (hb : b < base) : SrcM (H.put b o) c m := by
  obtain ⟨b1, o1, e, rfl, h1, h2⟩ := h
  obtain ⟨r', e', hc, k1, k2⟩ := k
  simp only [List.cons.injEq, and_true, true_and] at hc
  obtain ⟨rfl, rfl⟩ := hc
  exact ⟨_, _, rfl, k1.same (Nat.le_refl _) (fun b' o' n' q _ => by simp at q; simp only [put_bk]; rw [if_neg (by omega)]), k2.same (Nat.le_refl _) (fun b' o' n' q _ => by have := h2 _ _ _ q; simp only [put_bk]; rw [if_neg (by omega)])⟩
end
end Go.Proofs.YtmecbehegmgbhaaGreat.AM
namespace Go.Proofs.YtmecbehegmgbhaaGreat.AM
set_option linter.unusedSimpArgs false
set_option linter.unusedVariables false
open Go

theorem SlI.ext {H H' : AH} {k : IntKind} {v : AV} {zs : List Int} (h : SlI H k v zs) (e : Ext H H') : SlI H' k v zs := by
  rcases h with ⟨rfl, rfl⟩ | ⟨rfl, rfl⟩ | ⟨b, rest, hb, rfl, h⟩
  · exact .inl ⟨rfl, rfl⟩
  · exact .inr (.inl ⟨rfl, rfl⟩)
  · exact .inr (.inr ⟨b, rest, Nat.lt_of_lt_of_le hb e.1, rfl, (e.2 b hb).trans h⟩)
theorem SeesZ.loadN {H : AH} {b o n : Nat} {cap : ACap} {l : List Int} (h : SeesZ H (.sl b o n cap) l) (hn : n = l.length) (hl : 0 < l.length) : H.loadN b o n = some (Ints l) := by
  have q : ∀ i (hi : i < l.length), H.load b (o + i) = some (.I l[i]) := fun i hi => by
    obtain ⟨b1, o1, q1, q2, q3⟩ := h.at hi
    simp at q1
    obtain ⟨rfl, rfl, _⟩ := q1
    exact q3
  unfold AH.loadN AH.load at *
  cases hb : H.bk b with
  | none => have := q 0 hl; rw [hb] at this; cases this
  | some k =>
    rw [hb] at q
    simp only [Option.bind_some] at q ⊢
    have q1 := q (l.length - 1) (by omega)
    have q2 := (List.getElem?_eq_some_iff.1 q1).1
    unfold seg
    rw [if_pos (by omega), hn]
    congr 1
    apply List.ext_getElem?
    intro i
    by_cases hi : i < l.length
    · rw [List.getElem?_take, if_pos hi, List.getElem?_drop, q i hi]; simp [Ints, hi]
    · rw [List.getElem?_take, if_neg hi, List.getElem?_eq_none (by rw [Ints_len]; omega)]
section
variable {H : AH} {K : AV → AH → Prop} {w : Fk K}
end
end Go.Proofs.YtmecbehegmgbhaaGreat.AM
namespace Go.Proofs.YtmecbehegmgbhaaGreat.AM
set_option linter.unusedSimpArgs false
set_option linter.unusedVariables false
open Go

section
variable {x y : Int}
end

def threeM (op : Int) : Int := ([0, 0, 0, 4, 6, 7, 6, 4, 1, 5, 2, 0, 3, 2, 0, 2, 0, 1, 0, 0, 0] : List Int).getD (op - 1).toNat 0
def sevenM (op : Int) : Int := ([0, 32, 1, 1, 1, 0, 0, 0, 0, 32, 0] : List Int).getD (op - 1).toNat 0
def opcM (op : Int) : Int := ([51, 51, 51, 51, 51, 51, 51, 51, 51, 51, 51, 19, 19, 3, 103, 35, 99, 99, 55, 111, 115] : List Int).getD (op - 1).toNat 0
theorem bits_lt {u lo many : Int} : 0 ≤ bitsM u lo many ∧ bitsM u lo many < 2 ^ many.toNat := by
  unfold bitsM
  split
  · exact mod_pow_lt
  · exact ⟨Int.le_refl _, pow_pos2⟩
end Go.Proofs.YtmecbehegmgbhaaGreat.AM
namespace Go.Proofs.YtmecbehegmgbhaaGreat.AM
set_option linter.unusedSimpArgs false
set_option linter.unusedVariables false
open Go

theorem b5 {u lo : Int} : 0 ≤ bitsM u lo 5 ∧ bitsM u lo 5 < 32 := bits_lt
theorem b1 {u lo : Int} : 0 ≤ bitsM u lo 1 ∧ bitsM u lo 1 < 2 := bits_lt
theorem b3 {u lo : Int} : 0 ≤ bitsM u lo 3 ∧ bitsM u lo 3 < 8 := bits_lt
theorem b4 {u lo : Int} : 0 ≤ bitsM u lo 4 ∧ bitsM u lo 4 < 16 := bits_lt
theorem b6 {u lo : Int} : 0 ≤ bitsM u lo 6 ∧ bitsM u lo 6 < 64 := bits_lt
theorem b7 {u lo : Int} : 0 ≤ bitsM u lo 7 ∧ bitsM u lo 7 < 128 := bits_lt
theorem b8 {u lo : Int} : 0 ≤ bitsM u lo 8 ∧ bitsM u lo 8 < 256 := bits_lt
end Go.Proofs.YtmecbehegmgbhaaGreat.AM
namespace Go.Proofs.YtmecbehegmgbhaaGreat.AM
set_option linter.unusedSimpArgs false
set_option linter.unusedVariables false
open Go

section
variable {H : AH} {K : AV → AH → Prop} {n a b : Int} {w : Fk K}
end
end Go.Proofs.YtmecbehegmgbhaaGreat.AM
namespace Go.Proofs.YtmecbehegmgbhaaGreat.AM
set_option linter.unusedSimpArgs false
set_option linter.unusedVariables false
set_option maxRecDepth 10000
open Go

theorem B1 {u lo : Int} : 0 ≤ bitsM u lo 1 ∧ bitsM u lo 1 < 2 := bits_lt
theorem B4 {u lo : Int} : 0 ≤ bitsM u lo 4 ∧ bitsM u lo 4 < 16 := bits_lt
def tabRows (ns : Nat → ByteArray) : List (List AV) := (List.range 21).map fun j => [.str (ns j), .I (opcM ((j : Int) + 1)), .I (threeM ((j : Int) + 1)), .I (sevenM ((j : Int) + 1))]
def mops : List Int := [8, 9, 10, 11, 12, 3, 1, 2, 6, 7, 5]
def Glob (H : AH) : Prop := 2 ≤ H.n ∧ (∃ ns q, H.bk 0 = some ⟨(tabRows ns).flatten, q⟩) ∧ ∃ q, H.bk 1 = some ⟨Ints mops, q⟩
theorem Glob.ext {H H' : AH} (h : Glob H) (e : Ext H H') : Glob H' := by
  obtain ⟨h0, ⟨ns, q, h1⟩, q', h2⟩ := h
  exact ⟨Nat.le_trans h0 e.1, ⟨ns, q, (e.2 0 (by omega)).trans h1⟩, q', (e.2 1 (by omega)).trans h2⟩
theorem Glob.row {H : AH} (h : Glob H) {op : Int} (ho : 1 ≤ op ∧ op ≤ 21) : ∃ s, H.loadN 0 ((op.toNat - 1) * 4) 4 = some [.str s, .I (opcM op), .I (threeM op), .I (sevenM op)] := by
  obtain ⟨_, ⟨ns, q, h1⟩, _⟩ := h
  refine ⟨ns (op.toNat - 1), ?_⟩
  rw [loadN_bk h1]
  refine seg_flatten (fun x hx => ?_) ?_
  · simp only [tabRows, List.mem_map] at hx
    obtain ⟨j, _, rfl⟩ := hx
    rfl
  · have e : ((op.toNat - 1 : Nat) : Int) + 1 = op := by omega
    simp only [tabRows, List.getElem?_map]
    rw [List.getElem?_range (by omega)]
    simp only [Option.map_some, e]
section
variable {H : AH} {K : AV → AH → Prop} {n a b op u : Int} {w : Fk K}
theorem cs0 {i : Ins} : i.cs[0]? = some (.I i.op) := rfl
theorem cs1 {i : Ins} : i.cs[1]? = some (.I i.rd) := rfl
theorem cs2 {i : Ins} : i.cs[2]? = some (.I i.rs) := rfl
theorem cs3 {i : Ins} : i.cs[3]? = some (.I i.rt) := rfl
theorem cs4 {i : Ins} : i.cs[4]? = some (.I i.imm) := rfl
attribute [simp] cs0 cs1 cs2 cs3 cs4
end
end Go.Proofs.YtmecbehegmgbhaaGreat.AM
namespace Go.Proofs.YtmecbehegmgbhaaGreat.AM
set_option linter.unusedSimpArgs false
set_option linter.unusedVariables false
open Go

def ibitsV (f : BitVec 64 → BitVec 64 → BitVec 64) (x y : Int) : Int := (f (BitVec.ofInt 64 x) (BitVec.ofInt 64 y)).toInt
theorem wrap_toNat {v : BitVec 64} : IntKind.i64.wrap (v.toNat : Int) = v.toInt := by
  rw [BitVec.toInt_eq_toNat_cond]
  have := v.isLt
  unfold IntKind.wrap
  simp [IntKind.bits, IntKind.signed]
  split <;> split <;> omega
theorem ibits_V {f : BitVec 64 → BitVec 64 → BitVec 64} {x y : Int} : ibits .i64 f x y = some (.I (ibitsV f x y)) := by
  unfold ibits ibitsV
  exact congrArg (fun z => some (AV.I z)) wrap_toNat
theorem ibits_orV {x y : Int} : ibits .i64 (· ||| ·) x y = some (.I (ibitsV (· ||| ·) x y)) := ibits_V
theorem ibits_andV {x y : Int} : ibits .i64 (· &&& ·) x y = some (.I (ibitsV (· &&& ·) x y)) := ibits_V
theorem ibits_xorV {x y : Int} : ibits .i64 (· ^^^ ·) x y = some (.I (ibitsV (· ^^^ ·) x y)) := ibits_V
theorem ofInt_sign {a : Int} (h : -2147483648 ≤ a ∧ a ≤ 2147483647) : BitVec.ofInt 64 a = (BitVec.ofInt 32 a).signExtend 64 := by
  apply BitVec.eq_of_toInt_eq
  rw [BitVec.toInt_signExtend_of_le (by omega)]
  simp [BitVec.toInt_ofInt, Int.bmod_def]
  omega
theorem sext_lt {v : BitVec 32} : -2147483648 ≤ (v.signExtend 64).toInt ∧ (v.signExtend 64).toInt ≤ 2147483647 := by
  rw [BitVec.toInt_signExtend_of_le (by omega)]
  have h1 := BitVec.le_toInt v
  have h2 := @BitVec.toInt_lt 32 v
  simp at h1 h2
  omega
section
variable {a b : Int}
theorem or_W (ha : -2147483648 ≤ a ∧ a ≤ 2147483647) (hb : -2147483648 ≤ b ∧ b ≤ 2147483647) : -2147483648 ≤ ibitsV (· ||| ·) a b ∧ ibitsV (· ||| ·) a b ≤ 2147483647 := by
  unfold ibitsV; dsimp only; rw [ofInt_sign ha, ofInt_sign hb, ← BitVec.signExtend_or]; exact sext_lt
theorem and_W (ha : -2147483648 ≤ a ∧ a ≤ 2147483647) (hb : -2147483648 ≤ b ∧ b ≤ 2147483647) : -2147483648 ≤ ibitsV (· &&& ·) a b ∧ ibitsV (· &&& ·) a b ≤ 2147483647 := by
  unfold ibitsV; dsimp only; rw [ofInt_sign ha, ofInt_sign hb, ← BitVec.signExtend_and]; exact sext_lt
theorem xor_W (ha : -2147483648 ≤ a ∧ a ≤ 2147483647) (hb : -2147483648 ≤ b ∧ b ≤ 2147483647) : -2147483648 ≤ ibitsV (· ^^^ ·) a b ∧ ibitsV (· ^^^ ·) a b ≤ 2147483647 := by
  unfold ibitsV; dsimp only; rw [ofInt_sign ha, ofInt_sign hb, ← BitVec.signExtend_xor]; exact sext_lt
theorem and_31 (ha : -2147483648 ≤ a ∧ a ≤ 2147483647) : ibitsV (· &&& ·) a 31 = a % 32 := by
  unfold ibitsV
  dsimp only
  have e : (BitVec.ofInt 64 a &&& BitVec.ofInt 64 31).toNat = (a % 32).toNat := by
    rw [BitVec.toNat_and]
    have h31 : (BitVec.ofInt 64 31).toNat = 2 ^ 5 - 1 := by decide
    rw [h31, Nat.and_two_pow_sub_one_eq_mod, BitVec.toNat_ofInt]
    omega
  rw [BitVec.toInt_eq_toNat_cond, e]
  split <;> omega
end
def applyM (op a b : Int) : Int :=
  if op = 1 then ibitsV (· ||| ·) a b
  else if op = 2 then ibitsV (· ^^^ ·) a b
  else if op = 3 then ibitsV (· &&& ·) a b
  else if op = 4 then (if a = b then 1 else 0)
  else if op = 5 then (if a < b then 1 else 0)
  else if op = 6 then wrapM (IntKind.i64.wrap (a * 2 ^ (b % 32).toNat))
  else if op = 7 then a / 2 ^ (b % 32).toNat
  else if op = 8 then wrapM (a + b)
  else if op = 9 then wrapM (a - b)
  else if op = 10 then wrapM (IntKind.i64.wrap (a * b))
  else if op = 11 then (if b = 0 then -1 else wrapM (IntKind.i64.wrap (a.tdiv b)))
  else if b = 0 then a else a.tmod b
theorem iteW {c : Prop} [Decidable c] {x y : Int} (h1 : c → -2147483648 ≤ x ∧ x ≤ 2147483647) (h2 : ¬c → -2147483648 ≤ y ∧ y ≤ 2147483647) : -2147483648 ≤ (if c then x else y) ∧ (if c then x else y) ≤ 2147483647 := by
  by_cases h : c
  · rw [if_pos h]; exact h1 h
  · rw [if_neg h]; exact h2 h
theorem apply_W {op a b : Int} (ha : -2147483648 ≤ a ∧ a ≤ 2147483647) (hb : -2147483648 ≤ b ∧ b ≤ 2147483647) : -2147483648 ≤ applyM op a b ∧ applyM op a b ≤ 2147483647 := by
  have w1 := @wrapM_lt (IntKind.i64.wrap (a * 2 ^ (b % 32).toNat))
  have w2 := @wrapM_lt (a + b)
  have w3 := @wrapM_lt (a - b)
  have w4 := @wrapM_lt (IntKind.i64.wrap (a * b))
  have w5 := @wrapM_lt (IntKind.i64.wrap (a.tdiv b))
  have o1 := or_W ha hb
  have o2 := xor_W ha hb
  have o3 := and_W ha hb
  have hshr : -2147483648 ≤ a / 2 ^ (b % 32).toNat ∧ a / 2 ^ (b % 32).toNat ≤ 2147483647 := by
    have hp := @pow_pos2 (b % 32).toNat
    generalize (2 : Int) ^ (b % 32).toNat = c at *
    clear w1 w2 w3 w4 w5 o1 o2 o3
    by_cases h : 0 ≤ a
    · have h1 := Int.ediv_nonneg h (Int.le_of_lt hp)
      have h2 := Int.ediv_le_self c h
      omega
    · have h1 : a ≤ a / c := by
        rw [Int.le_ediv_iff_mul_le hp]
        have : a * c ≤ a * 1 := Int.mul_le_mul_of_nonpos_left (by omega) (by omega)
        omega
      have h2 : a / c < 0 := Int.ediv_neg_of_neg_of_pos (by omega) hp
      omega
  have htm : b ≠ 0 → -2147483648 ≤ a.tmod b ∧ a.tmod b ≤ 2147483647 := by
    intro hb0
    clear w1 w2 w3 w4 w5 o1 o2 o3 hshr
    have h := Int.natAbs_tmod a b
    have h2 : a.natAbs % b.natAbs ≤ a.natAbs := Nat.mod_le _ _
    have h3 : a.natAbs % b.natAbs < b.natAbs := Nat.mod_lt _ (by omega)
    generalize a.tmod b = t at *
    generalize a.natAbs % b.natAbs = r at *
    by_cases hs : 0 ≤ a
    · omega
    · omega
  unfold applyM
  refine iteW (fun _ => o1) fun _ => iteW (fun _ => o2) fun _ => iteW (fun _ => o3) fun _ => iteW (fun _ => iteW (fun _ => by omega) fun _ => by omega) fun _ => iteW (fun _ => iteW (fun _ => by omega) fun _ => by omega) fun _ =>
    iteW (fun _ => w1) fun _ => iteW (fun _ => hshr) fun _ => iteW (fun _ => w2) fun _ => iteW (fun _ => w3) fun _ => iteW (fun _ => w4) fun _ => iteW (fun _ => iteW (fun _ => by omega) fun _ => w5) fun _ => iteW (fun _ => ha) fun h => htm h
section
variable {H : AH} {K : AV → AH → Prop} {op a b : Int} {w : Fk K}
theorem K_itruth {x : Bool} : CallF Cd f_itruth [.b x] H K w = K (.I (if x = true then 1 else 0)) H := by
  rw [CallF_eq e_itruth rfl]
  cases x <;> simp
theorem K_iapply (ha : -2147483648 ≤ a ∧ a ≤ 2147483647) (hb : -2147483648 ≤ b ∧ b ≤ 2147483647) : CallF Cd f_iapply [.I op, .I a, .I b] H K w = K (.I (applyM op a b)) H := by
  rw [CallF_eq e_iapply rfl]
  have h31 := and_31 hb
  simp
  repeat' (refine cnd_iff (fun h => ?_) (fun h => ?_) <;> try simp (disch := omega) [h, ibits_orV, ibits_andV, ibits_xorV, K_itruth, h31, K_iWrap])
  all_goals (refine Ki_fin ?_; simp [applyM, *])
end
end Go.Proofs.YtmecbehegmgbhaaGreat.AM
namespace Go.Proofs.YtmecbehegmgbhaaGreat.AM
set_option linter.unusedSimpArgs false
set_option linter.unusedVariables false
set_option maxRecDepth 10000
open Go

def Own (H : AH) (v : AV) (b : Nat) (l : List Int) : Prop := l.length ≤ 8589934592 ∧ ((v = .nils ∧ l = []) ∨ ∃ c, v = .sl b 0 l.length c ∧ H.bk b = some ⟨Ints l, true⟩ ∧ b < H.n)
theorem Own.only {H H' : AH} {v b l bs} (h : Own H v b l) (k : Only bs H H') (hb : b ∉ bs) : Own H' v b l := by
  obtain ⟨h0, h | ⟨c, rfl, h1, h2⟩⟩ := h
  · exact ⟨h0, .inl h⟩
  · exact ⟨h0, .inr ⟨c, rfl, k.bk h2 hb h1, Nat.lt_of_lt_of_le h2 k.1⟩⟩
theorem Ext.only {H H' bs} (h : Ext H H') : Only bs H H' := ⟨h.1, fun b hb _ => h.2 b hb⟩
theorem Own.ext {H H' : AH} {v b l} (h : Own H v b l) (k : Ext H H') : Own H' v b l := h.only (bs := []) k.only (by simp)
theorem Own.src {H : AH} {v b l} (h : Own H v b l) : Src H v l := by
  obtain ⟨h0, ⟨rfl, rfl⟩ | ⟨c, rfl, h1, h2⟩⟩ := h
  · exact ⟨h0, .inl ⟨rfl, rfl⟩⟩
  · refine ⟨h0, .inr (.inr ⟨b, 0, c, rfl, h2, ?_⟩)⟩
    rw [loadN_bk h1]; have := @seg_all l; simpa using this
theorem Own.flat {H : AH} {v b l} (h : Own H v b l) : v.flat = true := h.src.flat
theorem Own.len {H : AH} {v b l} (h : Own H v b l) : alen v = some l.length := h.src.sees.1
structure MAt (H : AH) (P rb mb : Nat) (c1 : ACap) (e : AV) (m : Mach) : Prop where
  p : H.bk P = some ⟨[.sl rb 0 32 c1, .I m.pc, e], true⟩
  r : H.bk rb = some ⟨Ints m.regs, true⟩
  rl : m.regs.length = 32
  own : Own H e mb m.mem
  mp : mb ≠ P
  mr : mb ≠ rb
  pr : P ≠ rb
  pn : P < H.n
  rn : rb < H.n
  ml : m.mem.length ≤ 10000
theorem MAt.only {H H' : AH} {P rb mb c1 e m bs} (h : MAt H P rb mb c1 e m) (k : Only bs H H') (hb : P ∉ bs ∧ rb ∉ bs ∧ mb ∉ bs) : MAt H' P rb mb c1 e m :=
  ⟨k.bk h.pn hb.1 h.p, k.bk h.rn hb.2.1 h.r, h.rl, h.own.only k hb.2.2, h.mp, h.mr, h.pr, Nat.lt_of_lt_of_le h.pn k.1, Nat.lt_of_lt_of_le h.rn k.1, h.ml⟩
theorem MAt.ext {H H' : AH} {P rb mb c1 e m} (h : MAt H P rb mb c1 e m) (k : Ext H H') : MAt H' P rb mb c1 e m := h.only (bs := []) k.only (by simp)
theorem MAt.setPc {H : AH} {P rb mb c1 e m} (h : MAt H P rb mb c1 e m) (x : Int) : MAt (H.put P (some ⟨[.sl rb 0 32 c1, .I x, e], true⟩)) P rb mb c1 e ⟨m.regs, x, m.mem⟩ :=
  ⟨put_same, put_other h.pr.symm h.r, h.rl, h.own.only (bs := [P]) (Only.refl.put (by simp)) (by simpa using h.mp), h.mp, h.mr, h.pr, h.pn, h.rn, h.ml⟩
section
variable {H : AH} {K : AV → AH → Prop} {a x rd : Int} {w : Fk K} {P rb mb : Nat} {c1 : ACap} {e : AV} {m : Mach}
end
end Go.Proofs.YtmecbehegmgbhaaGreat.AM
namespace Go.Proofs.YtmecbehegmgbhaaGreat.AM
set_option linter.unusedSimpArgs false
set_option linter.unusedVariables false
set_option maxRecDepth 10000
open Go

section
variable {H : AH} {K : AV → AH → Prop} {w : Fk K} {P rb mb : Nat} {c1 : ACap} {e : AV} {m : Mach}
end
end Go.Proofs.YtmecbehegmgbhaaGreat.AM
namespace Go.Proofs.YtmecbehegmgbhaaGreat.AM
set_option linter.unusedSimpArgs false
set_option linter.unusedVariables false
set_option maxRecDepth 10000
open Go

section
variable {H : AH} {K : AV → AH → Prop} {w : Fk K} {P rb mb : Nat} {c1 : ACap} {e : AV} {m : Mach} {i : Ins}
end
end Go.Proofs.YtmecbehegmgbhaaGreat.AM
namespace Go.Proofs.YtmecbehegmgbhaaGreat.AM
set_option linter.unusedSimpArgs false
set_option linter.unusedVariables false
set_option maxRecDepth 10000
open Go

def OwnM (base : Nat) (H : AH) (c : List AV) (rb mb : Nat) (m : Mach) : Prop := ∃ r e, c = [r, .I m.pc, e] ∧ Own H r rb m.regs ∧ Own H e mb m.mem ∧ base ≤ rb ∧ base ≤ mb ∧ rb ≠ mb
theorem OwnM.src {base H c rb mb m} (h : OwnM base H c rb mb m) : SrcM H c m := let ⟨r, e, h1, h2, h3, _⟩ := h; ⟨r, e, h1, h2.src, h3.src⟩
theorem OwnM.ext {base H H' c rb mb m} (h : OwnM base H c rb mb m) (k : Ext H H') : OwnM base H' c rb mb m := let ⟨r, e, h1, h2, h3, h4⟩ := h; ⟨r, e, h1, h2.ext k, h3.ext k, h4⟩
section
variable {H : AH} {K : AV → AH → Prop} {w : Fk K} {m : Mach}
end
end Go.Proofs.YtmecbehegmgbhaaGreat.AM
namespace Go.Proofs.YtmecbehegmgbhaaGreat.AM
set_option linter.unusedSimpArgs false
set_option linter.unusedVariables false
open Go

inductive Exs where
  | nil
  | cons (op n : Int) (args rest : Exs)
deriving DecidableEq, Inhabited
structure Ex where
  op : Int
  n : Int
  args : Exs
deriving DecidableEq, Inhabited
@[simp] def Exs.list : Exs → List Ex
  | .nil => []
  | .cons op n a r => ⟨op, n, a⟩ :: r.list
@[simp] def Exs.of : List Ex → Exs
  | [] => .nil
  | e :: l => .cons e.op e.n e.args (Exs.of l)
theorem Exs.list_of : ∀ l : List Ex, (Exs.of l).list = l
  | [] => rfl
  | e :: l => by simp [Exs.list_of l]
theorem Exs.of_list : ∀ l : Exs, Exs.of l.list = l
  | .nil => rfl
  | .cons op n a r => by simp [Exs.of_list r]
theorem Exs.both {Q : Exs → Prop} (h : ∀ a : Exs, (∀ e ∈ a.list, Q e.args) → Q a) : ∀ a : Exs, Q a ∧ ∀ e ∈ a.list, Q e.args
  | .nil => ⟨h _ (by simp), by simp⟩
  | .cons op n a r => by
    have h1 := (Exs.both h a).1
    have h2 := (Exs.both h r).2
    have h3 : ∀ e ∈ (Exs.cons op n a r).list, Q e.args := by
      intro e he
      rcases List.mem_cons.1 he with rfl | he
      · exact h1
      · exact h2 e he
    exact ⟨h _ h3, h3⟩
theorem Exs.ind {Q : Exs → Prop} (h : ∀ a : Exs, (∀ e ∈ a.list, Q e.args) → Q a) (a : Exs) : Q a := (Exs.both h a).1

inductive Sts where
  | nil
  | cons (k v b : Int) (e : Ex) (body els rest : Sts)
deriving DecidableEq, Inhabited
structure St1 where
  k : Int
  v : Int
  b : Int
  e : Ex
  body : Sts
  els : Sts
deriving DecidableEq, Inhabited
@[simp] def Sts.list : Sts → List St1
  | .nil => []
  | .cons k v b e y z r => ⟨k, v, b, e, y, z⟩ :: r.list
@[simp] def Sts.of : List St1 → Sts
  | [] => .nil
  | s :: l => .cons s.k s.v s.b s.e s.body s.els (Sts.of l)
theorem Sts.list_of : ∀ l : List St1, (Sts.of l).list = l
  | [] => rfl
  | e :: l => by simp [Sts.list_of l]
theorem Sts.of_list : ∀ l : Sts, Sts.of l.list = l
  | .nil => rfl
  | .cons k v b e y z r => by simp [Sts.of_list r]
theorem Sts.both {Q : Sts → Prop} (h : ∀ a : Sts, (∀ s ∈ a.list, Q s.body ∧ Q s.els) → Q a) : ∀ a : Sts, Q a ∧ ∀ s ∈ a.list, Q s.body ∧ Q s.els
  | .nil => ⟨h _ (by simp), by simp⟩
  | .cons k v b e y z r => by
    have h1 := (Sts.both h y).1
    have h1' := (Sts.both h z).1
    have h2 := (Sts.both h r).2
    have h3 : ∀ s ∈ (Sts.cons k v b e y z r).list, Q s.body ∧ Q s.els := by
      intro e he
      rcases List.mem_cons.1 he with rfl | he
      · exact ⟨h1, h1'⟩
      · exact h2 e he
    exact ⟨h _ h3, h3⟩
theorem Sts.ind {Q : Sts → Prop} (h : ∀ a : Sts, (∀ s ∈ a.list, Q s.body ∧ Q s.els) → Q a) (a : Sts) : Q a := (Sts.both h a).1

def capOk (n sz : Nat) : ACap → Prop
  | .ex c => n ≤ c
  | .lb c z => n ≤ c ∧ z = sz
  | .ro => True
def SlC (ok : Nat → Prop) (H : AH) (v : AV) (n sz : Nat) (cs : List AV) : Prop :=
  n ≤ 8589934592 ∧ cs.length = n * sz ∧ ((n = 0 ∧ (v = .nils ∨ v = .esl)) ∨ ∃ b o cap, v = .sl b o n cap ∧ (ok b ∧ capOk n sz cap) ∧ b < H.n ∧ H.loadN b o (n * sz) = some cs)
theorem SlC.flat {ok H v n sz cs} (h : SlC ok H v n sz cs) : v.flat = true := by
  obtain ⟨_, _, ⟨_, rfl | rfl⟩ | ⟨b, o, c, rfl, _⟩⟩ := h <;> rfl
theorem SlC.alen {ok H v n sz cs} (h : SlC ok H v n sz cs) : alen v = some n := by
  obtain ⟨_, _, ⟨rfl, rfl | rfl⟩ | ⟨b, o, c, rfl, _⟩⟩ := h <;> rfl
theorem SlC.mono {ok ok' : Nat → Prop} {H H' v n sz cs} (h : SlC ok H v n sz cs) (hn : H.n ≤ H'.n) (hk : ∀ b, ok b → b < H.n → H'.bk b = H.bk b) (ho : ∀ b, ok b → b < H.n → ok' b) : SlC ok' H' v n sz cs := by
  refine ⟨h.1, h.2.1, ?_⟩
  rcases h.2.2 with q | ⟨b, o, cap, h1, h2, h3, h4⟩
  · exact .inl q
  · exact .inr ⟨b, o, cap, h1, ⟨ho b h2.1 h3, h2.2⟩, Nat.lt_of_lt_of_le h3 hn, by unfold AH.loadN at h4 ⊢; rw [hk b h2.1 h3]; exact h4⟩
theorem SlC.elems {ok H v n sz cs} (h : SlC ok H v n sz cs) : AM.elems H sz v = some cs := by
  obtain ⟨h1, h2, ⟨rfl, rfl | rfl⟩ | ⟨b, o, c, rfl, _, _, h3⟩⟩ := h
  · have : cs = [] := List.eq_nil_of_length_eq_zero (by omega)
    subst this; rfl
  · have : cs = [] := List.eq_nil_of_length_eq_zero (by omega)
    subst this; rfl
  · exact h3
theorem seg_seg {cs c1 : List AV} {o n o1 n1 : Nat} (h : seg cs o n = some c1) (h1 : o1 + n1 ≤ n) : seg cs (o + o1) n1 = seg c1 o1 n1 := by
  unfold seg at h ⊢
  split at h
  · rename_i hl
    simp only [Option.some.injEq] at h
    subst h
    rw [if_pos (by omega), if_pos (by simp; omega), List.drop_take, List.drop_drop, List.take_take]
    congr 2; omega
  · cases h
theorem SlC.at {ok H v n sz cs} (h : SlC ok H v n sz cs) {i : Nat} (hi : i < n) : ∃ b o cap, v = .sl b o n cap ∧ ok b ∧ b < H.n ∧ ∀ j m, j + m ≤ n * sz → H.loadN b (o + j) m = seg cs j m := by
  obtain ⟨h1, h2, ⟨rfl, _⟩ | ⟨b, o, c, rfl, h3, h4, h5⟩⟩ := h
  · omega
  · refine ⟨b, o, c, rfl, h3.1, h4, fun j m hj => ?_⟩
    unfold AH.loadN at h5 ⊢
    obtain ⟨k, hk, hs⟩ := Option.bind_eq_some_iff.1 h5
    rw [hk]; exact seg_seg hs hj

theorem drop3 {a b c : AV} {l : List AV} {n : Nat} : (a :: b :: c :: l).drop (n + 3) = l.drop n := rfl
theorem drop8 {a b c d e f g h : AV} {l : List AV} {n : Nat} : (a :: b :: c :: d :: e :: f :: g :: h :: l).drop (n + 8) = l.drop n := rfl
def EF (ok : Nat → Prop) (H : AH) : Exs → List AV → Prop
  | .nil, cs => cs = []
  | .cons op n a r, cs => ∃ v ca cr, cs = .I op :: .I n :: v :: cr ∧ SlC ok H v a.list.length 3 ca ∧ EF ok H a ca ∧ EF ok H r cr
def EV (ok : Nat → Prop) (H : AH) (v : AV) (a : Exs) : Prop := ∃ ca, SlC ok H v a.list.length 3 ca ∧ EF ok H a ca
theorem EF.mono {ok ok' : Nat → Prop} {H H' : AH} (hn : H.n ≤ H'.n) (hk : ∀ b, ok b → b < H.n → H'.bk b = H.bk b) (ho : ∀ b, ok b → b < H.n → ok' b) : ∀ {f cs}, EF ok H f cs → EF ok' H' f cs
  | .nil, _, h => h
  | .cons _ _ _ _, _, ⟨v, ca, cr, h1, h2, h3, h4⟩ => ⟨v, ca, cr, h1, h2.mono hn hk ho, EF.mono hn hk ho h3, EF.mono hn hk ho h4⟩
theorem EV.mono {ok ok' : Nat → Prop} {H H' : AH} {v f} (h : EV ok H v f) (hn : H.n ≤ H'.n) (hk : ∀ b, ok b → b < H.n → H'.bk b = H.bk b) (ho : ∀ b, ok b → b < H.n → ok' b) : EV ok' H' v f := let ⟨ca, h1, h2⟩ := h; ⟨ca, h1.mono hn hk ho, h2.mono hn hk ho⟩
theorem EV.ext {ok H H' v f} (h : EV ok H v f) (k : Ext H H') : EV ok H' v f := h.mono k.1 (fun b _ hb => k.2 b hb) (fun _ h _ => h)
theorem EF.ext {ok H H' v f} (h : EF ok H v f) (k : Ext H H') : EF ok H' v f := h.mono k.1 (fun b _ hb => k.2 b hb) (fun _ h _ => h)
theorem EF.len {ok H} : ∀ {f cs}, EF ok H f cs → cs.length = f.list.length * 3
  | .nil, _, h => by cases h; rfl
  | .cons _ _ _ _, _, ⟨v, ca, cr, h1, h2, h3, h4⟩ => by subst h1; have := h4.len; simp; omega
theorem EF.get {ok H} : ∀ {f cs}, EF ok H f cs → ∀ {i e}, f.list[i]? = some e → ∃ v, seg cs (i * 3) 3 = some [.I e.op, .I e.n, v] ∧ EV ok H v e.args
  | .nil, _, _, i, e, hi => by simp at hi
  | .cons op n a r, _, ⟨v, ca, cr, h1, h2, h3, h4⟩, i, e, hi => by
    subst h1
    cases i with
    | zero =>
      simp at hi; subst hi
      exact ⟨v, by simp [seg], ca, h2, h3⟩
    | succ i =>
      obtain ⟨v', h5, h6⟩ := h4.get (i := i) (e := e) (by simpa using hi)
      refine ⟨v', ?_, h6⟩
      rw [← h5]
      unfold seg
      have : (i + 1) * 3 = i * 3 + 3 := by omega
      rw [this]
      rw [drop3]
      simp only [List.length_cons]
      by_cases hq : i * 3 + 3 ≤ cr.length
      · rw [if_pos (by omega), if_pos hq]
      · rw [if_neg (by omega), if_neg hq]
theorem EF.app {ok H} : ∀ {f cs} {g : Exs} {cg}, EF ok H f cs → EF ok H g cg → EF ok H (Exs.of (f.list ++ g.list)) (cs ++ cg)
  | .nil, _, g, cg, h, k => by cases h; simpa [Exs.of_list] using k
  | .cons _ _ _ _, _, g, cg, ⟨v, ca, cr, h1, h2, h3, h4⟩, k => by
    subst h1
    exact ⟨v, ca, cr ++ cg, by simp, h2, h3, EF.app h4 k⟩
theorem EF.one {ok H} {e : Ex} {v} (h : EV ok H v e.args) : EF ok H (.cons e.op e.n e.args .nil) [.I e.op, .I e.n, v] := let ⟨ca, h1, h2⟩ := h; ⟨v, ca, [], rfl, h1, h2, rfl⟩

def SF (ok : Nat → Prop) (H : AH) : Sts → List AV → Prop
  | .nil, cs => cs = []
  | .cons k v b e y z r, cs => ∃ va vy vz cy cz cr, cs = .I k :: .I v :: .I b :: .I e.op :: .I e.n :: va :: vy :: vz :: cr ∧ EV ok H va e.args ∧ SlC ok H vy y.list.length 8 cy ∧ SF ok H y cy ∧ SlC ok H vz z.list.length 8 cz ∧ SF ok H z cz ∧ SF ok H r cr
def SV (ok : Nat → Prop) (H : AH) (v : AV) (a : Sts) : Prop := ∃ ca, SlC ok H v a.list.length 8 ca ∧ SF ok H a ca
def S1 (ok : Nat → Prop) (H : AH) (c : List AV) (s : St1) : Prop := ∃ va vy vz, c = [.I s.k, .I s.v, .I s.b, .I s.e.op, .I s.e.n, va, vy, vz] ∧ EV ok H va s.e.args ∧ SV ok H vy s.body ∧ SV ok H vz s.els
theorem SF.mono {ok ok' : Nat → Prop} {H H' : AH} (hn : H.n ≤ H'.n) (hk : ∀ b, ok b → b < H.n → H'.bk b = H.bk b) (ho : ∀ b, ok b → b < H.n → ok' b) : ∀ {f cs}, SF ok H f cs → SF ok' H' f cs
  | .nil, _, h => h
  | .cons _ _ _ _ _ _ _, _, ⟨va, vy, vz, cy, cz, cr, h1, h2, h3, h4, h5, h6, h7⟩ => ⟨va, vy, vz, cy, cz, cr, h1, h2.mono hn hk ho, h3.mono hn hk ho, SF.mono hn hk ho h4, h5.mono hn hk ho, SF.mono hn hk ho h6, SF.mono hn hk ho h7⟩
theorem SV.mono {ok ok' : Nat → Prop} {H H' : AH} {v f} (h : SV ok H v f) (hn : H.n ≤ H'.n) (hk : ∀ b, ok b → b < H.n → H'.bk b = H.bk b) (ho : ∀ b, ok b → b < H.n → ok' b) : SV ok' H' v f := let ⟨ca, h1, h2⟩ := h; ⟨ca, h1.mono hn hk ho, h2.mono hn hk ho⟩
theorem S1.mono {ok ok' : Nat → Prop} {H H' : AH} {v f} (h : S1 ok H v f) (hn : H.n ≤ H'.n) (hk : ∀ b, ok b → b < H.n → H'.bk b = H.bk b) (ho : ∀ b, ok b → b < H.n → ok' b) : S1 ok' H' v f :=
  let ⟨va, vy, vz, h0, h1, h2, h3⟩ := h; ⟨va, vy, vz, h0, h1.mono hn hk ho, h2.mono hn hk ho, h3.mono hn hk ho⟩
theorem SV.ext {ok H H' v f} (h : SV ok H v f) (k : Ext H H') : SV ok H' v f := h.mono k.1 (fun b _ hb => k.2 b hb) (fun _ h _ => h)
theorem S1.ext {ok H H' v f} (h : S1 ok H v f) (k : Ext H H') : S1 ok H' v f := h.mono k.1 (fun b _ hb => k.2 b hb) (fun _ h _ => h)
theorem SF.ext {ok H H' v f} (h : SF ok H v f) (k : Ext H H') : SF ok H' v f := h.mono k.1 (fun b _ hb => k.2 b hb) (fun _ h _ => h)
theorem SF.len {ok H} : ∀ {f cs}, SF ok H f cs → cs.length = f.list.length * 8
  | .nil, _, h => by cases h; rfl
  | .cons _ _ _ _ _ _ _, _, ⟨va, vy, vz, cy, cz, cr, h1, h2, h3, h4, h5, h6, h7⟩ => by subst h1; have := h7.len; simp; omega
theorem SF.get {ok H} : ∀ {f cs}, SF ok H f cs → ∀ {i s}, f.list[i]? = some s → ∃ c, seg cs (i * 8) 8 = some c ∧ S1 ok H c s
  | .nil, _, _, i, e, hi => by simp at hi
  | .cons k v b e y z r, _, ⟨va, vy, vz, cy, cz, cr, h1, h2, h3, h4, h5, h6, h7⟩, i, s, hi => by
    subst h1
    cases i with
    | zero =>
      simp at hi; subst hi
      exact ⟨[.I k, .I v, .I b, .I e.op, .I e.n, va, vy, vz], by simp [seg], va, vy, vz, rfl, h2, ⟨cy, h3, h4⟩, cz, h5, h6⟩
    | succ i =>
      obtain ⟨v', h5, h6⟩ := h7.get (i := i) (s := s) (by simpa using hi)
      refine ⟨v', ?_, h6⟩
      rw [← h5]
      unfold seg
      have : (i + 1) * 8 = i * 8 + 8 := by omega
      rw [this]
      rw [drop8]
      simp only [List.length_cons]
      by_cases hq : i * 8 + 8 ≤ cr.length
      · rw [if_pos (by omega), if_pos hq]
      · rw [if_neg (by omega), if_neg hq]
theorem SF.app {ok H} : ∀ {f cs} {g : Sts} {cg}, SF ok H f cs → SF ok H g cg → SF ok H (Sts.of (f.list ++ g.list)) (cs ++ cg)
  | .nil, _, g, cg, h, k => by cases h; simpa [Sts.of_list] using k
  | .cons _ _ _ _ _ _ _, _, g, cg, ⟨va, vy, vz, cy, cz, cr, h1, h2, h3, h4, h5, h6, h7⟩, k => by
    subst h1
    exact ⟨va, vy, vz, cy, cz, cr ++ cg, by simp, h2, h3, h4, h5, h6, SF.app h7 k⟩
theorem S1.one {ok H c s} (h : S1 ok H c s) : SF ok H (Sts.of [s]) c := by
  obtain ⟨va, vy, vz, h0, h1, ⟨cy, h2, h2'⟩, cz, h3, h3'⟩ := h
  exact ⟨va, vy, vz, cy, cz, [], h0, h1, h2, h2', h3, h3', rfl⟩
theorem S1.len {ok H c s} (h : S1 ok H c s) : c.length = 8 := by
  obtain ⟨va, vy, vz, rfl, _⟩ := h; rfl
theorem SV.at {ok H v f} (h : SV ok H v f) {i : Nat} {s : St1} (hi : f.list[i]? = some s) : ∃ b o cap c, v = .sl b o f.list.length cap ∧ ok b ∧ b < H.n ∧ H.loadN b (o + i * 8) 8 = some c ∧ S1 ok H c s := by
  obtain ⟨ca, h1, h2⟩ := h
  have hl := (List.getElem?_eq_some_iff.1 hi).1
  obtain ⟨b, o, cap, e1, e2, e3, e4⟩ := h1.at hl
  obtain ⟨c, e5, e6⟩ := h2.get hi
  exact ⟨b, o, cap, c, e1, e2, e3, by rw [e4 _ _ (by omega)]; exact e5, e6⟩
theorem EV.at {ok H v f} (h : EV ok H v f) {i : Nat} {e : Ex} (hi : f.list[i]? = some e) : ∃ b o cap va, v = .sl b o f.list.length cap ∧ ok b ∧ b < H.n ∧ H.loadN b (o + i * 3) 3 = some [.I e.op, .I e.n, va] ∧ EV ok H va e.args := by
  obtain ⟨ca, h1, h2⟩ := h
  have hl := (List.getElem?_eq_some_iff.1 hi).1
  obtain ⟨b, o, cap, e1, e2, e3, e4⟩ := h1.at hl
  obtain ⟨c, e5, e6⟩ := h2.get hi
  exact ⟨b, o, cap, c, e1, e2, e3, by rw [e4 _ _ (by omega)]; exact e5, e6⟩
theorem EV.flat {ok H v f} (h : EV ok H v f) : v.flat = true := let ⟨_, h1, _⟩ := h; h1.flat
theorem SV.flat {ok H v f} (h : SV ok H v f) : v.flat = true := let ⟨_, h1, _⟩ := h; h1.flat
theorem EV.alen {ok H v f} (h : EV ok H v f) : alen v = some f.list.length := let ⟨_, h1, _⟩ := h; h1.alen
theorem SV.alen {ok H v f} (h : SV ok H v f) : alen v = some f.list.length := let ⟨_, h1, _⟩ := h; h1.alen
theorem EV.big {ok H v f} (h : EV ok H v f) : f.list.length ≤ 8589934592 := let ⟨_, h1, _⟩ := h; h1.1
theorem SV.big {ok H v f} (h : SV ok H v f) : f.list.length ≤ 8589934592 := let ⟨_, h1, _⟩ := h; h1.1
theorem EV.nil {ok H v} (h : v = .nils ∨ v = .esl) : EV ok H v .nil := ⟨[], ⟨by simp, rfl, .inl ⟨rfl, h⟩⟩, rfl⟩
theorem SV.nil {ok H v} (h : v = .nils ∨ v = .esl) : SV ok H v .nil := ⟨[], ⟨by simp, rfl, .inl ⟨rfl, h⟩⟩, rfl⟩

def okE1 (d op n : Int) (k : Nat) (sub : Bool) : Bool :=
  if op = 0 then decide (0 ≤ n ∧ n ≤ 99999 ∧ k = 0 ∧ 0 < d) else if op = 13 then decide (0 ≤ n ∧ n < 4 ∧ k = 0 ∧ 0 < d)
  else decide (1 ≤ op ∧ op ≤ 12 ∧ n = 0 ∧ k = 2 ∧ 1 < d) && sub
def okF : Int → Exs → Bool
  | _, .nil => true
  | d, .cons op n a r => okE1 d op n a.list.length (okF (d - 1) a) && okF d r
def okE (d : Int) (e : Ex) : Bool := okE1 d e.op e.n e.args.list.length (okF (d - 1) e.args)
theorem okF_mem {d : Int} : ∀ {f : Exs}, okF d f = f.list.all (okE d)
  | .nil => rfl
  | .cons op n a r => by simp only [okF, Exs.list, List.all_cons, okF_mem (f := r)]; rfl
def evE1 (vars : List Int) (op n : Int) (xs : List Int) : Int :=
  if op = 0 then n else if op = 13 then vars.getD n.toNat 0 else applyM op (xs.getD 0 0) (xs.getD 1 0)
def evF (vars : List Int) : Exs → List Int
  | .nil => []
  | .cons op n a r => evE1 vars op n (evF vars a) :: evF vars r
def evE (vars : List Int) (e : Ex) : Int := evE1 vars e.op e.n (evF vars e.args)
theorem evF_map {vars : List Int} : ∀ {f : Exs}, evF vars f = f.list.map (evE vars)
  | .nil => rfl
  | .cons op n a r => by simp only [evF, Exs.list, List.map_cons, evF_map (f := r)]; rfl
def cpE1 (n : Int) (k : Nat) (sub : Bool) : Bool := decide (k = 0) || (decide (k = 2 ∧ n = 0) && sub)
def cpF : Exs → Bool
  | .nil => true
  | .cons _ n a r => cpE1 n a.list.length (cpF a) && cpF r
def cpE (e : Ex) : Bool := cpE1 e.n e.args.list.length (cpF e.args)
theorem cp_of_ok : ∀ {f : Exs} {d : Int}, okF d f = true → cpF f = true
  | .nil, _, _ => rfl
  | .cons op n a r, d, h => by
    simp only [okF, Bool.and_eq_true] at h
    simp only [cpF, Bool.and_eq_true]
    refine ⟨?_, cp_of_ok h.2⟩
    have h1 := h.1
    unfold okE1 at h1; unfold cpE1
    split at h1
    · simp at h1; simp [h1]
    · split at h1
      · simp at h1; simp [h1]
      · simp at h1; simp [h1, cp_of_ok h1.2]
theorem cpE_of_ok {e : Ex} {d : Int} (h : okE d e = true) : cpE e = true := by
  have := cp_of_ok (f := .cons e.op e.n e.args .nil) (d := d) (by simp [okF]; exact h)
  simp only [cpF, Bool.and_true] at this
  exact this
end Go.Proofs.YtmecbehegmgbhaaGreat.AM
namespace Go.Proofs.YtmecbehegmgbhaaGreat.AM
set_option linter.unusedSimpArgs false
set_option linter.unusedVariables false
open Go

theorem two_of {α : Type} {l : List α} (h : l.length = 2) : ∃ a b, l = [a, b] := by
  match l, h with
  | [a, b], _ => exact ⟨a, b, rfl⟩
theorem EV.two {ok H v} {f : Exs} (h : EV ok H v f) {x y : Ex} (hl : f.list = [x, y]) : ∃ b o cap vx vy, v = .sl b o 2 cap ∧ ok b ∧ b < H.n ∧ H.loadN b o 3 = some [.I x.op, .I x.n, vx] ∧ H.loadN b (o + 3) 3 = some [.I y.op, .I y.n, vy] ∧ EV ok H vx x.args ∧ EV ok H vy y.args := by
  obtain ⟨b, o, cap, vx, e1, e2, e3, e4, e5⟩ := h.at (i := 0) (e := x) (by rw [hl]; rfl)
  obtain ⟨b', o', cap', vy, e6, e7, e8, e9, e10⟩ := h.at (i := 1) (e := y) (by rw [hl]; rfl)
  rw [e1] at e6
  simp only [AV.sl.injEq, true_and] at e6
  obtain ⟨rfl, rfl, rfl⟩ := e6
  rw [hl] at e1
  exact ⟨b, o, cap, vx, vy, e1, e2, e3, by simpa using e4, by simpa using e9, e5, e10⟩
theorem loadN_extE {H H' : AH} {b o n : Nat} {cs : List AV} (h : H.loadN b o n = some cs) (k : Ext H H') (hb : b < H.n) : H'.loadN b o n = some cs := by
  unfold AH.loadN at h ⊢; rw [k.2 b hb]; exact h
theorem loadN_get {H : AH} {b o n : Nat} {cs : List AV} (h : H.loadN b o n = some cs) {i : Nat} (hi : i < n) : H.load b (o + i) = cs[i]? := by
  unfold AH.loadN at h; unfold AH.load
  obtain ⟨k, hk, hs⟩ := Option.bind_eq_some_iff.1 h
  rw [hk]
  unfold seg at hs
  split at hs
  · simp only [Option.some.injEq] at hs
    subst hs
    simp [List.getElem?_take, hi]
  · cases hs
theorem loadN_at0 {H : AH} {b o : Nat} {x y z : AV} (h : H.loadN b o 3 = some [x, y, z]) : H.load b o = some x := by
  have := loadN_get h (i := 0) (by omega); simpa using this
theorem loadN_at1 {H : AH} {b o : Nat} {x y z : AV} (h : H.loadN b o 3 = some [x, y, z]) : H.load b (o + 1) = some y := by
  have := loadN_get h (i := 1) (by omega); simpa using this
theorem loadN_at2 {H : AH} {b o : Nat} {x y z : AV} (h : H.loadN b o 3 = some [x, y, z]) : H.load b (o + 2) = some z := by
  have := loadN_get h (i := 2) (by omega); simpa using this
section
variable {H : AH} {K : AV → AH → Prop} {w : Fk K} {n : Int}
theorem K_iOpValid : CallF Cd f_iOpValid [.I n] H K w = K (.b (decide (1 ≤ n ∧ n ≤ 12))) H := by
  rw [CallF_eq e_iOpValid rfl]
  by_cases h : 1 ≤ n <;> simp [h]
theorem K_sOpValid : CallF Cd f_sOpValid [.I n] H K w = K (.b (decide (1 ≤ n ∧ n ≤ 12))) H := by
  apply propext
  rw [CallF_eq e_sOpValid rfl]
  simp [K_sl6In]
end
theorem K_iexprValid (a : Exs) : ∀ {ok : Nat → Prop} {H : AH} {K : AV → AH → Prop} {w : Fk K} {op n d : Int} {v : AV}, EV ok H v a → -100 ≤ d ∧ d ≤ 100 →
    (∀ H', Ext H H' → K (.b (okE1 d op n a.list.length (okF (d - 1) a))) H') → CallF Cd f_iexprValid [.agg [.I op, .I n, v], .I d] H K w := by
  induction a using Exs.ind with
  | h a ih =>
  intro ok H K w op n d v h hd k
  have hl := h.alen
  have hb := h.big
  have x1 := Ext.push H [.I op, .I n, v]
  have fin : ∀ b, b = okE1 d op n a.list.length (okF (d - 1) a) → K (.b b) (H.push [.I op, .I n, v]) := fun b hb => by rw [hb]; exact k _ x1
  rw [CallF_eq e_iexprValid rfl]
  generalize hm : a.list.length = m at *
  by_cases h0 : op = 0
  · by_cases c1 : 0 ≤ n <;> by_cases c2 : n ≤ 99999 <;> by_cases c3 : m = 0 <;> by_cases c4 : 0 < d <;> simp (disch := omega) [load_push, hl, h0, c1, c2, c3, c4] <;> simp only [h0] at fin <;> exact fin _ (by simp [okE1, c1, c2, c3, c4])
  by_cases h1 : op = 13
  · by_cases c1 : 0 ≤ n <;> by_cases c2 : n < 4 <;> by_cases c3 : m = 0 <;> by_cases c4 : 0 < d <;> simp (disch := omega) [load_push, hl, h1, c1, c2, c3, c4] <;> simp only [h1] at fin <;> exact fin _ (by simp [okE1, c1, c2, c3, c4])
  by_cases c0 : 1 ≤ op ∧ op ≤ 12
  rotate_left
  · simp (disch := omega) [load_push, hl, h0, h1, K_iOpValid, c0]
    exact fin _ (by simp [okE1, h0, h1, c0]; omega)
  by_cases c1 : n = 0
  rotate_left
  · simp (disch := omega) [load_push, hl, h0, h1, K_iOpValid, c0, c1]
    exact fin _ (by simp [okE1, h0, h1, c1])
  subst c1
  by_cases c2 : m = 2
  rotate_left
  · have c2' : ¬ (m : Int) = 2 := by omega
    simp (disch := omega) [load_push, hl, h0, h1, K_iOpValid, c0, c2']
    refine fin _ ?_; simp [okE1, h0, h1, c2]
  by_cases c3 : 1 < d
  rotate_left
  · simp (disch := omega) [load_push, hl, h0, h1, K_iOpValid, c0, c2, c3]
    refine fin _ ?_; simp [okE1, h0, h1, c2, c3]
  subst c2
  obtain ⟨x, y, hxy⟩ := two_of hm
  obtain ⟨b, o, cap, vx, vy, rfl, ob, hbn, l1, l2, ex, ey⟩ := h.two hxy
  have ev : okE1 d op 0 2 (okF (d - 1) a) = (okE (d - 1) x && okE (d - 1) y) := by
    rw [okF_mem, hxy]; simp [okE1, h0, h1, c0, c3]
  rw [ev] at k
  have l1' := loadN_extE l1 x1 hbn
  simp (disch := omega) [load_push, h0, h1, K_iOpValid, c0, c3, l1']
  refine ih x (by rw [hxy]; simp) (ex.ext x1) (by omega) fun H1 x2 => ?_
  have q1 : H1.bk H.n = some ⟨[.I op, .I 0, .sl b o 2 cap], true⟩ := (x2.2 H.n (by simp)).trans push_new
  have l2' := loadN_extE (loadN_extE l2 x1 hbn) x2 (by simp; omega)
  generalize hx : okE1 (d - 1) x.op x.n x.args.list.length (okF (d - 1 - 1) x.args) = bx
  have hx' : okE (d - 1) x = bx := hx
  rw [hx'] at k
  cases bx with
  | false =>
    simp [x2]
    exact k _ (x1.trans x2)
  | true =>
    simp (disch := omega) [x2, load_bk q1, l2']
    refine ih y (by rw [hxy]; simp) (ey.ext (x1.trans x2)) (by omega) fun H2 x3 => ?_
    simp [x3]
    exact k _ ((x1.trans x2).trans x3)
theorem K_sl4Ok (a : Exs) : ∀ {ok : Nat → Prop} {H : AH} {K : AV → AH → Prop} {w : Fk K} {op n d : Int} {v : AV}, EV ok H v a → -100 ≤ d ∧ d ≤ 100 →
    (∀ H', Ext H H' → K (.b (okE1 d op n a.list.length (okF (d - 1) a))) H') → CallF Cd f_sl4Ok [.agg [.I op, .I n, v], .I d] H K w := by
  induction a using Exs.ind with
  | h a ih =>
  intro ok H K w op n d v h hd k
  have hl := h.alen
  have hb := h.big
  have x1 := Ext.push H [.I op, .I n, v]
  have fin : ∀ b, b = okE1 d op n a.list.length (okF (d - 1) a) → K (.b b) (H.push [.I op, .I n, v]) := fun b hb => by rw [hb]; exact k _ x1
  rw [CallF_eq e_sl4Ok rfl]
  generalize hm : a.list.length = m at *
  by_cases hd1 : d < 1
  · simp (disch := omega) [hd1]
    refine fin _ ?_
    unfold okE1
    split
    · simp; omega
    · split
      · simp; omega
      · have : ¬ 1 < d := by omega
        simp [this]
  have hd2 : 0 < d := by omega
  by_cases h0 : op = 0
  · by_cases c1 : 0 ≤ n ∧ n ≤ 99999 <;> by_cases c3 : m = 0 <;> simp (disch := omega) [load_push, hl, h0, c1, c3, hd1, K_sl6In] <;> simp only [h0] at fin <;> refine fin _ ?_ <;> simp [okE1, c1, c3, hd2] <;> omega
  by_cases h1 : op = 13
  · by_cases c1 : 0 ≤ n ∧ n ≤ 3 <;> by_cases c3 : m = 0 <;> simp (disch := omega) [load_push, hl, h1, c1, c3, hd1, K_sl6In] <;> simp only [h1] at fin <;> refine fin _ ?_ <;> simp [okE1, c1, c3, hd2] <;> omega
  by_cases c0 : 1 ≤ op ∧ op ≤ 12
  rotate_left
  · simp (disch := omega) [load_push, hl, h0, h1, K_sOpValid, c0, hd1]
    exact fin _ (by simp [okE1, h0, h1, c0]; omega)
  by_cases c1 : n = 0
  rotate_left
  · simp (disch := omega) [load_push, hl, h0, h1, K_sOpValid, c0, c1, hd1]
    exact fin _ (by simp [okE1, h0, h1, c1])
  subst c1
  by_cases c2 : m = 2
  rotate_left
  · have c2' : ¬ (m : Int) = 2 := by omega
    simp (disch := omega) [load_push, hl, h0, h1, K_sOpValid, c0, c2', hd1]
    refine fin _ ?_; simp [okE1, h0, h1, c2]
  subst c2
  obtain ⟨x, y, hxy⟩ := two_of hm
  obtain ⟨b, o, cap, vx, vy, rfl, ob, hbn, l1, l2, ex, ey⟩ := h.two hxy
  have z : ∀ e : Ex, okE 0 e = false := fun e => by
    unfold okE okE1
    split
    · simp
    · split <;> simp
  have ev : okE1 d op 0 2 (okF (d - 1) a) = (okE (d - 1) x && okE (d - 1) y) := by
    rw [okF_mem, hxy]
    by_cases c3 : 1 < d
    · simp [okE1, h0, h1, c0, c3]
    · have : d = 1 := by omega
      subst this
      simp [okE1, h0, h1, c0, z]
  rw [ev] at k
  have l1' := loadN_extE l1 x1 hbn
  simp (disch := omega) [load_push, h0, h1, K_sOpValid, c0, hd1, l1']
  refine ih x (by rw [hxy]; simp) (ex.ext x1) (by omega) fun H1 x2 => ?_
  have q1 : H1.bk H.n = some ⟨[.I op, .I 0, .sl b o 2 cap], true⟩ := (x2.2 H.n (by simp)).trans push_new
  have l2' := loadN_extE (loadN_extE l2 x1 hbn) x2 (by simp; omega)
  generalize hx : okE1 (d - 1) x.op x.n x.args.list.length (okF (d - 1 - 1) x.args) = bx
  have hx' : okE (d - 1) x = bx := hx
  rw [hx'] at k
  cases bx with
  | false =>
    simp [x2]
    exact k _ (x1.trans x2)
  | true =>
    simp (disch := omega) [x2, load_bk q1, l2']
    refine ih y (by rw [hxy]; simp) (ey.ext (x1.trans x2)) (by omega) fun H2 x3 => ?_
    simp [x3]
    exact k _ ((x1.trans x2).trans x3)
section
variable {H : AH} {K : AV → AH → Prop} {w : Fk K} {e : Ex} {v : AV} {ok : Nat → Prop}
theorem K_iExprValid (h : EV ok H v e.args) (k : ∀ H', Ext H H' → K (.b (okE 5 e)) H') : CallF Cd f_iExprValid [.agg [.I e.op, .I e.n, v]] H K w := by
  rw [CallF_eq e_iExprValid rfl]
  simp [loadN_push]
  refine K_iexprValid e.args (d := 5) (h.ext (Ext.push _ _)) (by omega) fun H1 x1 => ?_
  simp [x1]
  exact k _ ((Ext.push _ _).trans x1)
theorem K_sExprValid (h : EV ok H v e.args) (k : ∀ H', Ext H H' → K (.b (okE 5 e)) H') : CallF Cd f_sExprValid [.agg [.I e.op, .I e.n, v]] H K w := by
  rw [CallF_eq e_sExprValid rfl]
  simp [loadN_push]
  refine K_sl4Ok e.args (d := 5) (h.ext (Ext.push _ _)) (by omega) fun H1 x1 => ?_
  simp [x1]
  exact k _ ((Ext.push _ _).trans x1)
end
theorem isW_iff {n : Int} : isW n = true ↔ -2147483648 ≤ n ∧ n ≤ 2147483647 := by unfold isW; simp
theorem okE1_op {d op n : Int} {k : Nat} {sub : Bool} (h : okE1 d op n k sub = true) (h0 : ¬ op = 0) (h1 : ¬ op = 13) : (1 ≤ op ∧ op ≤ 12) ∧ n = 0 ∧ k = 2 ∧ sub = true := by
  unfold okE1 at h
  rw [if_neg h0, if_neg h1] at h
  simp at h
  exact ⟨⟨h.1.1, h.1.2.1⟩, h.1.2.2.1, h.1.2.2.2.1, h.2⟩
theorem evE_word {vars : List Int} (hv : vars.all isW = true) (a : Exs) : ∀ {d op n : Int}, okE1 d op n a.list.length (okF (d - 1) a) = true → isW (evE1 vars op n (evF vars a)) = true := by
  induction a using Exs.ind with
  | h a ih =>
  intro d op n h
  by_cases h0 : op = 0
  · unfold okE1 at h
    unfold evE1
    rw [if_pos h0] at h ⊢
    simp at h
    rw [isW_iff]; omega
  by_cases h1 : op = 13
  · unfold evE1
    rw [if_neg h0, if_pos h1]
    rw [List.getD_eq_getElem?_getD]
    cases hx : vars[n.toNat]? with
    | none => rfl
    | some x => exact List.all_eq_true.1 hv x (List.mem_of_getElem? hx)
  obtain ⟨c0, c1, c2, c3⟩ := okE1_op h h0 h1
  obtain ⟨x, y, hxy⟩ := two_of c2
  rw [okF_mem, hxy] at c3
  simp at c3
  have wx := ih x (by rw [hxy]; simp) (d := d - 1) (op := x.op) (n := x.n) c3.1
  have wy := ih y (by rw [hxy]; simp) (d := d - 1) (op := y.op) (n := y.n) c3.2
  unfold evE1
  rw [if_neg h0, if_neg h1, evF_map, hxy]
  exact isW_iff.2 (apply_W (isW_iff.1 wx) (isW_iff.1 wy))
theorem K_iexprEval (a : Exs) : ∀ {ok : Nat → Prop} {H : AH} {K : AV → AH → Prop} {w : Fk K} {op n d : Int} {b o : Nat} {v vv : AV} {vars : List Int}, EV ok H v a → b < H.n → H.loadN b o 3 = some [.I op, .I n, v] →
    SeesZ H vv vars → vars.length = 4 → vars.all isW = true → okE1 d op n a.list.length (okF (d - 1) a) = true → (∀ H', Ext H H' → K (.I (evE1 vars op n (evF vars a))) H') → CallF Cd f_iexprEval [.ptr b o, vv] H K w := by
  induction a using Exs.ind with
  | h a ih =>
  intro ok H K w op n d b o v vv vars h hb hl hv h4 hw hok k
  rw [CallF_eq e_iexprEval rfl]
  have l0 : H.load b o = some (.I op) := loadN_at0 hl
  have l1 : H.load b (o + 1) = some (.I n) := loadN_at1 hl
  have l2 : H.load b (o + 2) = some v := loadN_at2 hl
  have fin : ∀ x, x = evE1 vars op n (evF vars a) → K (.I x) H := fun b hb => by rw [hb]; exact k _ (Ext.refl _)
  by_cases h0 : op = 0
  · subst h0
    simp [l0, l1]
    exact fin _ (by simp [evE1])
  by_cases h1 : op = 13
  · subst h1
    unfold okE1 at hok
    simp at hok
    obtain ⟨bv, ov, s1, _, s3⟩ := hv.at (i := n.toNat) (by omega)
    have e1 : vars[n.toNat]? = some vars[n.toNat] := by simp
    simp (disch := omega) [l0, l1, s1, s3, h4]
    refine fin _ ?_
    simp [evE1, e1]
  obtain ⟨c0, rfl, c2, c3⟩ := okE1_op hok h0 h1
  obtain ⟨x, y, hxy⟩ := two_of c2
  rw [okF_mem, hxy] at c3
  simp at c3
  obtain ⟨b', o', cap, vx, vy, rfl, ob, hbn, m1, m2, ex, ey⟩ := h.two hxy
  have wx := isW_iff.1 (evE_word hw x.args (d := d - 1) (op := x.op) (n := x.n) c3.1)
  have wy := isW_iff.1 (evE_word hw y.args (d := d - 1) (op := y.op) (n := y.n) c3.2)
  have e0 : evE1 vars op 0 (evF vars a) = applyM op (evE1 vars x.op x.n (evF vars x.args)) (evE1 vars y.op y.n (evF vars y.args)) := by
    rw [evF_map, hxy]; unfold evE1; rw [if_neg h0, if_neg h1]; rfl
  rw [e0] at k
  simp (disch := omega) [l0, l1, l2, h0, h1]
  refine ih x (by rw [hxy]; simp) (d := d - 1) ex hbn m1 hv h4 hw c3.1 fun H1 x1 => ?_
  have q2 : H1.load b (o + 2) = some (.sl b' o' 2 cap) := by rw [load_ext x1 hb]; exact l2
  simp (disch := omega) [x1, q2]
  refine ih y (by rw [hxy]; simp) (d := d - 1) (ey.ext x1) (Nat.lt_of_lt_of_le hbn x1.1) (loadN_extE m2 x1 hbn) (hv.ext x1) h4 hw c3.2 fun H2 x2 => ?_
  simp [x2, K_iapply wx wy]
  exact k _ (x1.trans x2)
end Go.Proofs.YtmecbehegmgbhaaGreat.AM
namespace Go.Proofs.YtmecbehegmgbhaaGreat.AM
set_option linter.unusedSimpArgs false
set_option linter.unusedVariables false
open Go

def GrS (base : Nat) (G : AH) (v : AV) (n sz : Nat) (cs : List AV) (B : Nat) : Prop :=
  n ≤ 1000000 ∧ cs.length = n * sz ∧ ((v = .nils ∧ n = 0) ∨ (base ≤ B ∧ B < G.n ∧ ((v = .sl B 0 n (.ex n) ∧ G.bk B = some ⟨cs, true⟩) ∨
    ∃ c ex, v = .sl B 0 n (.lb c sz) ∧ n ≤ c ∧ ex.length = (c - n) * sz ∧ G.bk B = some ⟨cs ++ ex, true⟩)))
theorem GrS.flat {base G v n sz cs B} (h : GrS base G v n sz cs B) : v.flat = true := by
  obtain ⟨_, _, ⟨rfl, _⟩ | ⟨_, _, ⟨rfl, _⟩ | ⟨c, ex, rfl, _⟩⟩⟩ := h <;> rfl
theorem GrS.alen {base G v n sz cs B} (h : GrS base G v n sz cs B) : alen v = some n := by
  obtain ⟨_, _, ⟨rfl, rfl⟩ | ⟨_, _, ⟨rfl, _⟩ | ⟨c, ex, rfl, _⟩⟩⟩ := h <;> rfl
theorem GrS.nils {base G sz B} : GrS base G .nils 0 sz [] B := ⟨by omega, by simp, .inl ⟨rfl, rfl⟩⟩
theorem GrS.new {base : Nat} {G : AH} {n sz cs} (hb : base ≤ G.n) (hn : n ≤ 1000000) (hc : cs.length = n * sz) : GrS base (G.push cs) (.sl G.n 0 n (.ex n)) n sz cs G.n :=
  ⟨hn, hc, .inr ⟨hb, Nat.lt_succ_self _, .inl ⟨rfl, push_new⟩⟩⟩
theorem seg_app {cs ex : List AV} {n : Nat} (h : cs.length = n) : seg (cs ++ ex) 0 n = some cs := by
  unfold seg; rw [if_pos (by simp; omega)]; simp [← h]
theorem seg_self {cs : List AV} {n : Nat} (h : cs.length = n) : seg cs 0 n = some cs := by simpa using seg_app (ex := []) h
theorem GrS.slc {base G v n sz cs B} (h : GrS base G v n sz cs B) : SlC (fun b => base ≤ b) G v n sz cs := by
  obtain ⟨h1, h2, h3⟩ := h
  refine ⟨by omega, h2, ?_⟩
  rcases h3 with ⟨rfl, h4⟩ | ⟨h4, h5, ⟨rfl, h6⟩ | ⟨c, ex, rfl, h7, h8, h9⟩⟩
  · exact .inl ⟨h4, .inl rfl⟩
  · exact .inr ⟨B, 0, _, rfl, ⟨h4, Nat.le_refl _⟩, h5, by rw [loadN_bk h6]; exact seg_self h2⟩
  · exact .inr ⟨B, 0, _, rfl, ⟨h4, h7, rfl⟩, h5, by rw [loadN_bk h9]; exact seg_app h2⟩
theorem GrS.elems {base G v n sz cs B} (h : GrS base G v n sz cs B) : AM.elems G sz v = some cs := h.slc.elems
theorem GrS.only {base G G' v n sz cs B bs} (h : GrS base G v n sz cs B) (k : Only bs G G') (hb : ∀ b ∈ bs, b < base ∨ b ≠ B) : GrS base G' v n sz cs B := by
  obtain ⟨h1, h2, h3⟩ := h
  refine ⟨h1, h2, ?_⟩
  rcases h3 with h4 | ⟨h4, h5, h6⟩
  · exact .inl h4
  · have e : G'.bk B = G.bk B := k.2 B h5 (fun hm => by
      rcases hb B hm with q | q
      · omega
      · exact q rfl)
    rw [← e] at h6
    exact .inr ⟨h4, Nat.lt_of_lt_of_le h5 k.1, h6⟩
theorem GrS.ext {base G G' v n sz cs B} (h : GrS base G v n sz cs B) (k : Ext G G') : GrS base G' v n sz cs B := h.only (bs := []) ⟨k.1, fun b hb _ => k.2 b hb⟩ (by simp)
def grB : AV → Nat → List Nat
  | .nils, _ => []
  | _, B => [B]
theorem GrS.mem {base G v n sz cs B} (h : GrS base G v n sz cs B) {b : Nat} (hb : b ∈ grB v B) : b = B ∧ base ≤ B ∧ B < G.n := by
  obtain ⟨_, _, ⟨rfl, _⟩ | ⟨h1, h2, ⟨rfl, _⟩ | ⟨c, ex, rfl, _⟩⟩⟩ := h <;> simp [grB] at hb
  · exact ⟨hb, h1, h2⟩
  · exact ⟨hb, h1, h2⟩
theorem GrS.app {base G v n sz cs B} (h : GrS base G v n sz cs B) (hb : base ≤ G.n) {k : Nat} {new : List AV} (hk : new.length = k * sz) (hn : n + k ≤ 1000000) :
    ∃ v' G' B', aapp G sz v k new = some (v', G') ∧ GrS base G' v' (n + k) sz (cs ++ new) B' ∧ ((B' = B ∧ B ∈ grB v B) ∨ B' = G.n) ∧ Only (grB v B) G G' := by
  by_cases h0 : k = 0
  · subst h0
    have : new = [] := List.eq_nil_of_length_eq_zero (by omega)
    subst this
    have ha : aapp G sz v 0 [] = some (v, G) := by
      obtain ⟨_, _, ⟨rfl, _⟩ | ⟨_, _, ⟨rfl, _⟩ | ⟨c, ex, rfl, _⟩⟩⟩ := h <;> simp [aapp]
    have h' := h
    obtain ⟨q1, q2, ⟨rfl, rfl⟩ | ⟨q3, q4, q5⟩⟩ := h'
    · exact ⟨.nils, G, G.n, ha, ⟨by omega, by simpa using q2, .inl ⟨rfl, rfl⟩⟩, .inr rfl, Only.refl⟩
    · exact ⟨v, G, B, ha, by simpa using h, .inl ⟨rfl, by rcases q5 with q5 | ⟨c, ex, q5⟩ <;> (rw [q5.1]; simp [grB])⟩, Only.refl⟩
  obtain ⟨h1, h2, h3⟩ := h
  have e0 : (cs ++ new).length = (n + k) * sz := by simp [h2, hk, Nat.add_mul]
  have fresh : ∀ (G' : AH) v', G' = (G.put B none).push (cs ++ new) ∨ G' = G.push (cs ++ new) → v' = .sl G.n 0 (n + k) (.lb (n + k) sz) → GrS base G' v' (n + k) sz (cs ++ new) G.n ∧ Only [B] G G' ∧ (G' = G.push (cs ++ new) → Ext G G') := by
    rintro G' v' hG rfl
    refine ⟨⟨by omega, e0, .inr ⟨hb, ?_, .inr ⟨n + k, [], rfl, by omega, by simp, ?_⟩⟩⟩, ?_⟩
    · rcases hG with rfl | rfl <;> exact Nat.lt_succ_self _
    · rcases hG with rfl | rfl
      · rw [List.append_nil]; exact push_new (H := G.put B none)
      · rw [List.append_nil]; exact push_new
    · refine ⟨?_, fun h => h ▸ Ext.push _ _⟩
      rcases hG with rfl | rfl
      · exact (Only.refl.put (by simp)).push
      · exact Only.refl.push
  rcases h3 with ⟨rfl, rfl⟩ | ⟨h4, h5, ⟨rfl, h6⟩ | ⟨c, ex, rfl, h7, h8, h9⟩⟩
  · have : cs = [] := List.eq_nil_of_length_eq_zero (by omega)
    subst this
    obtain ⟨f1, f2, f3⟩ := fresh (G.push new) _ (.inr (by simp)) rfl
    refine ⟨_, _, G.n, ?_, f1, .inr rfl, ⟨f2.1, fun b hb _ => (f3 (by simp)).2 b hb⟩⟩
    unfold aapp
    simp only [if_neg h0, Nat.zero_add]
    rw [if_pos (show k ≤ big by unfold big; omega)]
  · obtain ⟨f1, f2, _⟩ := fresh _ _ (.inr rfl) rfl
    refine ⟨_, _, G.n, ?_, f1, .inr rfl, f2⟩
    unfold aapp
    simp only [if_neg h0, Nat.zero_add]
    rw [if_neg (show ¬ big < n + k by unfold big; omega), if_neg (show ¬ n + k ≤ n by omega)]
    have e1 : G.loadN B 0 (n * sz) = some cs := by rw [loadN_bk h6]; exact seg_self h2
    rw [e1]
  · by_cases hc : n + k ≤ c
    · have e2 : splice (cs ++ ex) (n * sz) new = (cs ++ new) ++ ex.drop (k * sz) := by
        unfold splice
        rw [← h2, List.take_left, List.drop_append]
        rw [List.drop_of_length_le (by omega), List.nil_append]
        congr 2; omega
      have e3 := store_bk (o := n * sz) (vs := new) h9 (by
        simp only [List.length_append, h2, h8, hk]
        have := Nat.mul_le_mul_right sz (show k ≤ c - n by omega)
        omega)
      rw [e2] at e3
      refine ⟨.sl B 0 (n + k) (.lb c sz), _, B, ?_, ⟨by omega, e0, .inr ⟨h4, ?_, .inr ⟨c, ex.drop (k * sz), rfl, hc, ?_, put_same⟩⟩⟩, .inl ⟨rfl, by simp [grB]⟩, Only.refl.put (by simp [grB])⟩
      · unfold aapp
        simp only [if_neg h0, Nat.zero_add]
        rw [if_neg (show ¬ big < n + k by unfold big; omega), if_neg (show ¬ (sz ≠ sz) by simp), if_pos hc, e3]; rfl
      · exact h5
      · rw [List.length_drop, h8, ← Nat.sub_mul]; congr 1; omega
    · obtain ⟨f1, f2, _⟩ := fresh _ _ (.inl rfl) rfl
      refine ⟨_, _, G.n, ?_, f1, .inr rfl, f2⟩
      unfold aapp
      simp only [if_neg h0, Nat.zero_add]
      have e1 : G.loadN B 0 (n * sz) = some cs := by rw [loadN_bk h9]; exact seg_app h2
      rw [if_neg (show ¬ big < n + k by unfold big; omega), if_neg (show ¬ (sz ≠ sz) by simp), if_neg hc, h9, e1]; simp

def DE (base : Nat) (H : AH) (v : AV) (a : Exs) : Prop := ∃ B cs, v = .sl B 0 a.list.length (.ex a.list.length) ∧ base ≤ B ∧ B < H.n ∧ H.bk B = some ⟨cs, true⟩ ∧ a.list.length ≤ 1000 ∧ EF (fun b => base ≤ b) H a cs
theorem DE.ev {base H v a} (h : DE base H v a) : EV (fun b => base ≤ b) H v a := by
  obtain ⟨B, cs, rfl, h1, h2, h3, h4, h5⟩ := h
  exact ⟨cs, ⟨by omega, h5.len, .inr ⟨B, 0, _, rfl, ⟨h1, Nat.le_refl _⟩, h2, by rw [loadN_bk h3]; exact seg_self h5.len⟩⟩, h5⟩
theorem DE.mono {base base' H H' v a} (h : DE base H v a) (hn : H.n ≤ H'.n) (hk : ∀ b, base ≤ b → b < H.n → H'.bk b = H.bk b) (hb : base' ≤ base) : DE base' H' v a := by
  obtain ⟨B, cs, rfl, h1, h2, h3, h4, h5⟩ := h
  exact ⟨B, cs, rfl, by omega, by omega, (hk B h1 h2).trans h3, h4, h5.mono hn hk (fun b hb' _ => by omega)⟩
theorem DE.ext {base H H' v a} (h : DE base H v a) (k : Ext H H') : DE base H' v a := h.mono k.1 (fun b _ hb => k.2 b hb) (Nat.le_refl _)
theorem EV.up {base base' H v a} (h : EV (fun b => base ≤ b) H v a) (hb : base' ≤ base) : EV (fun b => base' ≤ b) H v a := h.mono (Nat.le_refl _) (fun _ _ _ => rfl) (fun b h _ => by omega)
section
variable {H : AH} {K : AV → AH → Prop} {w : Fk K} {op n : Int}
theorem K_sl4Leaf (k : ∀ v H', DE H.n H' v .nil → Ext H H' → K (.agg [.I op, .I n, v]) H') : CallF Cd f_sl4Leaf [.I op, .I n] H K w := by
  rw [CallF_eq e_sl4Leaf rfl]
  simp [AH.store, loadN_bk put_same]
  refine k _ _ ⟨H.n + 1, [], rfl, by omega, by simp, by simp, by simp, rfl⟩ (((Ext.push _ _).trans (Ext.push _ _)).put (Nat.le_refl _))
theorem K_sl4Both {base : Nat} {x y : Ex} {vx vy : AV} (hx : EV (fun b => base ≤ b) H vx x.args) (hy : EV (fun b => base ≤ b) H vy y.args) (hb : base ≤ H.n)
    (k : ∀ v H', DE base H' v (Exs.of [x, y]) → Ext H H' → K (.agg [.I op, .I 0, v]) H') : CallF Cd f_sl4Both [.I op, .agg [.I x.op, .I x.n, vx], .agg [.I y.op, .I y.n, vy]] H K w := by
  rw [CallF_eq e_sl4Both rfl]
  simp [AH.store, loadN_bk put_same, loadN_push]
  have x1 : Ext H (((((H.push [.I x.op, .I x.n, vx]).push [.I y.op, .I y.n, vy]).push [.I 0, .I 0, .nils]).push [.I x.op, .I x.n, vx, .I y.op, .I y.n, vy]).put (H.n + 1 + 1) (some ⟨[.I op, .I 0, .sl (H.n + 1 + 1 + 1) 0 2 (.ex 2)], true⟩)) :=
    ((((Ext.push _ _).trans (Ext.push _ _)).trans (Ext.push _ _)).trans (Ext.push _ _)).put (by omega)
  refine k _ _ ⟨H.n + 1 + 1 + 1, [.I x.op, .I x.n, vx, .I y.op, .I y.n, vy], rfl, by omega, by simp, ?_, by simp, ?_⟩ x1
  · rw [put_bk, if_neg (by omega)]; exact push_new
  · obtain ⟨cx, h1, h2⟩ := hx.ext x1
    obtain ⟨cy, h3, h4⟩ := hy.ext x1
    exact ⟨vx, cx, _, rfl, h1, h2, vy, cy, [], rfl, h3, h4, rfl⟩
end
end Go.Proofs.YtmecbehegmgbhaaGreat.AM
namespace Go.Proofs.YtmecbehegmgbhaaGreat.AM
set_option linter.unusedSimpArgs false
set_option linter.unusedVariables false
open Go

theorem take_snoc {α : Type} {l : List α} {i : Nat} {x : α} (h : l[i]? = some x) : l.take (i + 1) = l.take i ++ [x] := by
  obtain ⟨hi, hx⟩ := List.getElem?_eq_some_iff.1 h
  rw [List.take_succ_eq_append_getElem hi, hx]
def CopyE (a : Exs) : Prop := ∀ {ok : Nat → Prop} {H : AH} {K : AV → AH → Prop} {w : Fk K} {op n : Int} {v : AV}, EV ok H v a → a.list.length ≤ 1000 →
    (∀ v' H', EV (fun b => H.n ≤ b) H' v' a → Ext H H' → K (.agg [.I op, .I n, v']) H') → CallF Cd f_iexprCopy [.agg [.I op, .I n, v]] H K w
def smE : Exs → Bool
  | .nil => true
  | .cons _ _ a r => decide (a.list.length ≤ 1000) && smE a && smE r
theorem smE_mem : ∀ {f : Exs}, smE f = true → ∀ e ∈ f.list, e.args.list.length ≤ 1000 ∧ smE e.args = true
  | .nil, _, e, he => by simp at he
  | .cons op n a r, h, e, he => by
    simp only [smE, Bool.and_eq_true, decide_eq_true_eq] at h
    rcases List.mem_cons.1 he with rfl | he
    · exact h.1
    · exact smE_mem h.2 e he
theorem smE_of_cp : ∀ {f : Exs}, cpF f = true → smE f = true
  | .nil, _ => rfl
  | .cons op n a r, h => by
    simp only [cpF, Bool.and_eq_true] at h
    simp only [smE, Bool.and_eq_true, decide_eq_true_eq]
    have h1 := h.1
    unfold cpE1 at h1
    simp at h1
    rcases h1 with h1 | h1
    · have : a = .nil := by
        rw [← Exs.of_list a, h1]; rfl
      subst this
      exact ⟨⟨by simp, rfl⟩, smE_of_cp h.2⟩
    · exact ⟨⟨by omega, smE_of_cp h1.2⟩, smE_of_cp h.2⟩
theorem K_iexprCopy_l {a : Exs} (ih : ∀ e ∈ a.list, CopyE e.args) (hsm : ∀ e ∈ a.list, e.args.list.length ≤ 1000) (ham : a.list.length ≤ 1000) {lo base R P : Nat} {op n : Int} {v : AV} (hlo : lo ≤ P) (hP : P < base) {Q : Out → Env → AH → Prop} (m i : Nat) (him : i + m = a.list.length)
    {G : AH} {g : AV} {cs : List AV} {B : Nat} (hb : base ≤ G.n) (hv : EV (fun b => b < lo) G v a) (hg : GrS base G g i 3 cs B) (gP : G.bk P = some ⟨[.I op, .I n, g], true⟩) (he : EF (fun b => base ≤ b ∧ b ≠ B) G (Exs.of (a.list.take i)) cs)
    (hQ : ∀ G' g' cs' B', GrS base G' g' a.list.length 3 cs' B' → G'.bk P = some ⟨[.I op, .I n, g'], true⟩ → EF (fun b => base ≤ b ∧ b ≠ B') G' a cs' → (∀ b, b < base → b ≠ P → G'.bk b = G.bk b) → G.n ≤ G'.n →
      Q (.brk 0) [(15, .b false), (2, .ptr R 0), (3, .ptr P 0), (12, v), (13, .I a.list.length), (14, .I a.list.length)] G') :
    W Cd (.loop c_iexprCopy_l0) [(2, .ptr R 0), (3, .ptr P 0), (12, v), (13, .I a.list.length), (14, .I i)] G Q := by
  induction m generalizing i G g cs B with
  | zero =>
    rw [W_loop_as c_iexprCopy_l0.eq_1]
    have hi : i = a.list.length := by omega
    subst hi
    simp
    rw [List.take_length, Exs.of_list] at he
    exact hQ G g cs B hg gP he (fun _ _ _ => rfl) (Nat.le_refl _)
  | succ m ihm =>
    rw [W_loop_as c_iexprCopy_l0.eq_1]
    have hi : i < a.list.length := by omega
    have hlt : (i : Int) < a.list.length := by omega
    obtain ⟨e, he1⟩ : ∃ e, a.list[i]? = some e := ⟨_, List.getElem?_eq_getElem hi⟩
    have hmem := List.mem_of_getElem? he1
    obtain ⟨b, o, cap, va, rfl, ob, hbn, l1, ev⟩ := hv.at he1
    generalize hL : a.list.length = L at *
    have PG : P < G.n := by omega
    have gP1 : (G.push [.I e.op, .I e.n, va]).bk P = some ⟨[.I op, .I n, g], true⟩ := push_old PG gP
    simp (disch := omega) [hlt, l1, AH.store, push_put, load_bk gP1, loadN_push]
    refine ih e hmem (ev.ext (Ext.push _ _)) (hsm e hmem) fun v1 H1 d1 x1 => ?_
    have n1 := x1.1
    simp only [push_n] at n1
    have x2 : Ext G (H1.push [.I e.op, .I e.n, v1]) := ((Ext.push _ _).trans x1).trans (Ext.push _ _)
    obtain ⟨g', G', B', a1, a2, a3, a4⟩ := (hg.ext x2).app (k := 1) (new := [.I e.op, .I e.n, v1]) (by simp; omega) (by simp) (by omega)
    have n2 := a4.1
    simp only [push_n] at n2 a3
    have hmG : ∀ b, b ∈ grB g B → b = B ∧ base ≤ B ∧ B < G.n := fun b hb => hg.mem hb
    have B0 : (B' = B ∧ base ≤ B ∧ B < G.n) ∨ G.n < B' ∧ H1.n < B' := by
      rcases a3 with q | q
      · have := hmG _ q.2; exact .inl ⟨q.1, this.2⟩
      · right; omega
    have o0 : ∀ b, b < H1.n + 1 → b < base ∨ b ≠ B ∨ G.n ≤ b → G'.bk b = (H1.push [.I e.op, .I e.n, v1]).bk b := fun b h1 h2 => a4.2 b (by simp; omega) (fun hm => by have := hmG b hm; omega)
    have gP2 : G'.bk P = some ⟨[.I op, .I n, g], true⟩ := (o0 P (by omega) (by omega)).trans ((x2.2 P PG).trans gP)
    have st := store_bk (o := 2) (vs := [g']) gP2 (by simp)
    simp (disch := omega) [x1, loadN_push, a1, flat_cells a2.flat, flat_tup a2.flat, st]
    have x3 : Only [P] G' (G'.put P (some ⟨[.I op, .I n, g'], true⟩)) := Only.refl.put (by simp)
    have o1 : ∀ b, b < G.n → b ≠ P → b < base ∨ b ≠ B → (G'.put P (some ⟨[.I op, .I n, g'], true⟩)).bk b = G.bk b := fun b h1 h2 h3 => by
      rw [put_bk, if_neg h2, o0 b (by omega) (by omega), x2.2 b h1]
    have := ihm (i + 1) (by omega) (G := G'.put P (some ⟨[.I op, .I n, g'], true⟩)) (g := g') (cs := cs ++ [.I e.op, .I e.n, v1]) (B := B') (by simp; omega)
      (hv.mono (by simp; omega) (fun b hb' h1 => o1 b h1 (by omega) (by omega)) (fun _ h _ => h)) (a2.only x3 (by simp; omega)) put_same ?_ ?_
    · simpa using this
    · rw [take_snoc he1]
      have k1 := he.mono (H' := G'.put P (some ⟨[.I op, .I n, g'], true⟩)) (ok' := fun b => base ≤ b ∧ b ≠ B') (by simp; omega) (fun b hb' h1 => o1 b h1 (by omega) (.inr hb'.2)) (fun b hb' h1 => ⟨hb'.1, by omega⟩)
      have k2 := EF.one (e := e) (d1.mono (H' := G'.put P (some ⟨[.I op, .I n, g'], true⟩)) (ok' := fun b => base ≤ b ∧ b ≠ B') (by simp; omega) (fun b hb' h1 => by
        have hb2 : G.n + 1 ≤ b := hb'
        rw [put_bk, if_neg (by omega), o0 b (by omega) (by omega), push_old h1 rfl]) (fun b hb' h1 => by
        have hb2 : G.n + 1 ≤ b := hb'
        omega))
      have := k1.app k2
      rw [Exs.list_of] at this
      simpa using this
    · intro G2 g2 cs2 B2 q1 q2 q3 q4 q5
      exact hQ G2 g2 cs2 B2 q1 q2 q3 (fun b hb1 hb2 => (q4 b hb1 hb2).trans (o1 b (by omega) hb2 (by omega))) (by simp at q5; omega)
theorem K_iexprCopy (a : Exs) : smE a = true → CopyE a := by
  induction a using Exs.ind with
  | h a ih =>
  intro hs ok H K w op n v h hl k
  have hm := smE_mem hs
  rw [CallF_eq e_iexprCopy rfl]
  simp (disch := omega) [load_push, AH.store, h.alen, loadN_push, push_put2]
  have x1 : Ext H (((H.push [.I op, .I n, v]).push [.I 0, .I 0, .nils]).push [.I op, .I n, .nils]) := ((Ext.push _ _).trans (Ext.push _ _)).trans (Ext.push _ _)
  refine K_iexprCopy_l (fun e he => ih e he (hm e he).2) (fun e he => (hm e he).1) hl (lo := H.n) (base := H.n + 3) (R := H.n + 1) (P := H.n + 1 + 1) (i := 0) (B := 0) (by omega) (by omega) a.list.length (by omega) (by simp)
    (h.mono (by simp; omega) (fun b _ hb => x1.2 b hb) (fun _ _ hb => hb)) GrS.nils (push_new (H := (H.push [.I op, .I n, v]).push [.I 0, .I 0, .nils])) rfl fun G g cs B q1 q2 q3 q4 q5 => ?_
  simp only [push_n] at q5
  have r1 : G.bk (H.n + 1) = some ⟨[.I 0, .I 0, .nils], true⟩ := (q4 (H.n + 1) (by omega) (by omega)).trans (push_old (by simp) push_new)
  have st := store_bk (o := 0) (vs := [.I op, .I n, g]) r1 (by simp)
  simp [loadN_bk q2, st, loadN_bk put_same]
  refine k _ _ ?_ ⟨by simp; omega, fun b hb => ?_⟩
  · have e1 : EV (fun b => H.n ≤ b ∧ b ≠ H.n + 1) G g a := by
      obtain ⟨t1, t2, t3⟩ := q1.slc
      refine ⟨cs, ⟨t1, t2, ?_⟩, q3.mono (Nat.le_refl _) (fun _ _ _ => rfl) (fun b hb _ => by omega)⟩
      rcases t3 with t3 | ⟨b, o, cap, t3, t4, t5, t6⟩
      · exact .inl t3
      · exact .inr ⟨b, o, cap, t3, ⟨by omega, t4.2⟩, t5, t6⟩
    exact e1.mono (by simp) (fun b hb _ => by rw [put_bk, if_neg hb.2]) (fun b hb _ => hb.1)
  · rw [put_bk, if_neg (by omega), q4 b (by omega) (by omega), x1.2 b hb]
end Go.Proofs.YtmecbehegmgbhaaGreat.AM
namespace Go.Proofs.YtmecbehegmgbhaaGreat.AM
set_option linter.unusedSimpArgs false
set_option linter.unusedVariables false
open Go

def stV (boxes k v b : Int) (eok epl : Bool) (ny nz : Nat) : Bool :=
  if k = 1 then decide (0 ≤ v ∧ v < 4 ∧ b = 0 ∧ ny = 0 ∧ nz = 0) && eok
  else if k = 2 then decide (v = 0 ∧ b = 0) && eok
  else if k = 3 then decide (v = 0 ∧ b = 0 ∧ nz = 0) && eok
  else if k = 4 then decide (v = 0 ∧ 0 ≤ b ∧ b < boxes ∧ ny = 0 ∧ nz = 0) && eok
  else if k = 5 then decide (0 ≤ v ∧ v < 4 ∧ 0 ≤ b ∧ b < boxes ∧ ny = 0 ∧ nz = 0) && epl
  else if k = 6 then decide (v = 0 ∧ b = 0 ∧ ny = 0 ∧ nz = 0) && epl
  else if k = 7 then decide (v = 0 ∧ b = 0 ∧ ny = 0 ∧ nz = 0) && eok
  else false
def plE (e : Ex) : Bool := decide (e.op = 0 ∧ e.n = 0 ∧ e.args.list.length = 0)
def okS1 (boxes nest k v b : Int) (e : Ex) (ny nz : Nat) (sy sz : Bool) : Bool :=
  stV boxes k v b (okE 5 e) (plE e) ny nz && (decide (k ≠ 2 ∧ k ≠ 3) || (decide (1 ≤ nest) && sy && sz))
def okS (boxes : Int) : Int → Sts → Bool
  | _, .nil => true
  | nest, .cons k v b e y z r => okS1 boxes nest k v b e y.list.length z.list.length (okS boxes (nest - 1) y) (okS boxes (nest - 1) z) && okS boxes nest r
def okT (boxes nest : Int) (s : St1) : Bool := okS1 boxes nest s.k s.v s.b s.e s.body.list.length s.els.list.length (okS boxes (nest - 1) s.body) (okS boxes (nest - 1) s.els)
theorem okS_mem {boxes nest : Int} : ∀ {f : Sts}, okS boxes nest f = f.list.all (okT boxes nest)
  | .nil => rfl
  | .cons k v b e y z r => by simp only [okS, Sts.list, List.all_cons, okS_mem (f := r)]; rfl
def ctS : Sts → Nat
  | .nil => 0
  | .cons k v b e y z r => 1 + ctS y + ctS z + ctS r
def ctT (s : St1) : Nat := 1 + ctS s.body + ctS s.els
theorem ctS_sum : ∀ {f : Sts}, ctS f = (f.list.map ctT).sum
  | .nil => rfl
  | .cons k v b e y z r => by simp only [ctS, Sts.list, List.map_cons, List.sum_cons, ctS_sum (f := r)]; rfl
theorem ctS_of {l : List St1} : ctS (Sts.of l) = (l.map ctT).sum := by rw [ctS_sum, Sts.list_of]
theorem len_ctS : ∀ {f : Sts}, f.list.length ≤ ctS f
  | .nil => by simp
  | .cons k v b e y z r => by have := len_ctS (f := r); simp [ctS]; omega
theorem sum_mem {l : List St1} {s : St1} (h : s ∈ l) : ctT s ≤ (l.map ctT).sum := by
  induction l with
  | nil => simp at h
  | cons a l ih =>
    rcases List.mem_cons.1 h with rfl | h
    · simp
    · have := ih h; simp; omega
theorem ctS_mem {f : Sts} {s : St1} (h : s ∈ f.list) : 1 + ctS s.body + ctS s.els ≤ ctS f := by
  have := sum_mem h; rw [← ctS_sum] at this; exact this
theorem sum_drop {l : List St1} {i : Nat} {s : St1} (h : l[i]? = some s) : ((l.drop i).map ctT).sum = ctT s + ((l.drop (i + 1)).map ctT).sum := by
  obtain ⟨hi, rfl⟩ := List.getElem?_eq_some_iff.1 h
  rw [List.drop_eq_getElem_cons hi, List.map_cons, List.sum_cons]
theorem sum_take {l : List St1} {i : Nat} {s : St1} (h : l[i]? = some s) : ((l.take (i + 1)).map ctT).sum = ((l.take i).map ctT).sum + ctT s := by
  rw [take_snoc h]; simp
theorem all_drop {l : List St1} {p : St1 → Bool} {i : Nat} {s : St1} (h : l[i]? = some s) : (l.drop i).all p = (p s && (l.drop (i + 1)).all p) := by
  obtain ⟨hi, rfl⟩ := List.getElem?_eq_some_iff.1 h
  rw [List.drop_eq_getElem_cons hi, List.all_cons]
section
variable {H : AH} {K : AV → AH → Prop} {w : Fk K} {k v b op n : Int} {va vy vz : AV} {u : Bool}
theorem K_sl11Plain {m : Nat} (ha : alen va = some m) : CallF Cd f_sl11Plain [.agg [.I op, .I n, va]] H K w = K (.b (decide (op = 0 ∧ n = 0 ∧ m = 0))) (H.push [.I op, .I n, va]) := by
  rw [CallF_eq e_sl11Plain rfl]
  by_cases h1 : op = 0 <;> by_cases h2 : n = 0 <;> by_cases h3 : m = 0 <;> simp (disch := omega) [load_push, ha, h1, h2, h3]
theorem K_sl11Var : CallF Cd f_sl11Var [.agg [.I k, .I v, .I b, .I op, .I n, va, vy, vz], .b u] H K w = K (.b (decide (if u = true then 0 ≤ v ∧ v ≤ 3 else v = 0))) (H.push [.I k, .I v, .I b, .I op, .I n, va, vy, vz]) := by
  rw [CallF_eq e_sl11Var rfl]
  cases u <;> simp [load_push, K_sl6In]
theorem K_sl11Box : CallF Cd f_sl11Box [.agg [.I k, .I v, .I b, .I op, .I n, va, vy, vz], .b u] H K w = K (.b (decide (if u = true then 0 ≤ b ∧ b ≤ 2 else b = 0))) (H.push [.I k, .I v, .I b, .I op, .I n, va, vy, vz]) := by
  rw [CallF_eq e_sl11Box rfl]
  cases u <;> simp [load_push, K_sl6In]
end
theorem K_sl11Simple {ok : Nat → Prop} {H : AH} {K : AV → AH → Prop} {w : Fk K} {c : List AV} {s : St1} (h : S1 ok H c s) (h2 : s.k ≠ 2) (h3 : s.k ≠ 3)
    (k : ∀ H', Ext H H' → K (.b (stV 3 s.k s.v s.b (okE 5 s.e) (plE s.e) s.body.list.length s.els.list.length)) H') : CallF Cd f_sl11Simple [.agg c] H K w := by
  obtain ⟨va, vy, vz, rfl, ea, ey, ez⟩ := h
  have la := ea.alen
  have ly := ey.alen
  have lz := ez.alen
  have by' := ey.big
  have bz := ez.big
  have ba := ea.big
  generalize hny : s.body.list.length = ny at *
  generalize hnz : s.els.list.length = nz at *
  generalize hna : s.e.args.list.length = na at *
  obtain ⟨sk, sv, sb, e, y, z⟩ := s
  simp only at *
  have x1 := Ext.push H [.I sk, .I sv, .I sb, .I e.op, .I e.n, va, vy, vz]
  have x2 := x1.trans (Ext.push (H.push [.I sk, .I sv, .I sb, .I e.op, .I e.n, va, vy, vz]) [.I sk, .I sv, .I sb, .I e.op, .I e.n, va, vy, vz])
  have x3 := x2.trans (Ext.push ((H.push [.I sk, .I sv, .I sb, .I e.op, .I e.n, va, vy, vz]).push [.I sk, .I sv, .I sb, .I e.op, .I e.n, va, vy, vz]) [.I sk, .I sv, .I sb, .I e.op, .I e.n, va, vy, vz])
  rw [CallF_eq e_sl11Simple rfl]
  by_cases c1 : ny = 0
  rotate_left
  · have c1' : 0 < ny := by omega
    simp (disch := omega) [load_push, ly, lz, c1']
    have : stV 3 sk sv sb (okE 5 e) (plE e) ny nz = false := by unfold stV; simp [h2, h3, c1]
    rw [this] at k
    exact k _ x1
  subst c1
  by_cases c2 : nz = 0
  rotate_left
  · have c2' : 0 < nz := by omega
    simp (disch := omega) [load_push, ly, lz, c2']
    have : stV 3 sk sv sb (okE 5 e) (plE e) 0 nz = false := by unfold stV; simp [h2, h3, c2]
    rw [this] at k
    exact k _ x1
  subst c2
  by_cases k1 : sk = 1
  · subst k1
    by_cases d1 : 0 ≤ sv ∧ sv ≤ 3
    rotate_left
    · simp (disch := omega) [load_push, loadN_push, ly, lz, K_sl11Var, d1]
      have : stV 3 1 sv sb (okE 5 e) (plE e) 0 0 = false := by unfold stV; simp; try omega
      rw [this] at k
      exact k _ x2
    by_cases d2 : sb = 0
    rotate_left
    · simp (disch := omega) [load_push, loadN_push, ly, lz, K_sl11Var, K_sl11Box, d1, d2]
      have : stV 3 1 sv sb (okE 5 e) (plE e) 0 0 = false := by unfold stV; simp; try omega
      rw [this] at k
      exact k _ x3
    have this : stV 3 1 sv sb (okE 5 e) (plE e) 0 0 = okE 5 e := by
      unfold stV; simp; try omega
    rw [this] at k
    subst d2
    simp (disch := omega) [load_push, loadN_push, ly, lz, K_sl11Var, K_sl11Box, d1]
    refine K_sExprValid (e := e) (ea.ext x3) fun H1 x4 => ?_
    simp [x4]
    exact k _ (x3.trans x4)
  by_cases k4 : sk = 4
  · subst k4
    by_cases d1 : sv = 0
    rotate_left
    · simp (disch := omega) [load_push, loadN_push, ly, lz, K_sl11Var, d1]
      have : stV 3 4 sv sb (okE 5 e) (plE e) 0 0 = false := by unfold stV; simp; try omega
      rw [this] at k
      exact k _ x2
    subst d1
    by_cases d2 : 0 ≤ sb ∧ sb ≤ 2
    rotate_left
    · simp (disch := omega) [load_push, loadN_push, ly, lz, K_sl11Var, K_sl11Box, d2]
      have : stV 3 4 0 sb (okE 5 e) (plE e) 0 0 = false := by unfold stV; simp; try omega
      rw [this] at k
      exact k _ x3
    have this : stV 3 4 0 sb (okE 5 e) (plE e) 0 0 = okE 5 e := by
      unfold stV; simp; try omega
    rw [this] at k
    simp (disch := omega) [load_push, loadN_push, ly, lz, K_sl11Var, K_sl11Box, d2]
    refine K_sExprValid (e := e) (ea.ext x3) fun H1 x4 => ?_
    simp [x4]
    exact k _ (x3.trans x4)
  by_cases k5 : sk = 5
  · subst k5
    by_cases d1 : 0 ≤ sv ∧ sv ≤ 3
    rotate_left
    · simp (disch := omega) [load_push, loadN_push, ly, lz, K_sl11Var, d1]
      have : stV 3 5 sv sb (okE 5 e) (plE e) 0 0 = false := by unfold stV; simp; try omega
      rw [this] at k
      exact k _ x2
    by_cases d2 : 0 ≤ sb ∧ sb ≤ 2
    rotate_left
    · simp (disch := omega) [load_push, loadN_push, ly, lz, K_sl11Var, K_sl11Box, d1, d2]
      have : stV 3 5 sv sb (okE 5 e) (plE e) 0 0 = false := by unfold stV; simp; try omega
      rw [this] at k
      exact k _ x3
    have this : stV 3 5 sv sb (okE 5 e) (plE e) 0 0 = plE e := by
      unfold stV; simp; try omega
    rw [this] at k
    simp (disch := omega) [load_push, loadN_push, ly, lz, K_sl11Var, K_sl11Box, K_sl11Plain la, d1, d2]
    unfold plE at k
    rw [hna] at k
    simpa using k _ (x3.trans (Ext.push _ _))
  by_cases k6 : sk = 6
  · subst k6
    by_cases d1 : sv = 0
    rotate_left
    · simp (disch := omega) [load_push, loadN_push, ly, lz, K_sl11Var, d1]
      have : stV 3 6 sv sb (okE 5 e) (plE e) 0 0 = false := by unfold stV; simp; try omega
      rw [this] at k
      exact k _ x2
    subst d1
    by_cases d2 : sb = 0
    rotate_left
    · simp (disch := omega) [load_push, loadN_push, ly, lz, K_sl11Var, K_sl11Box, d2]
      have : stV 3 6 0 sb (okE 5 e) (plE e) 0 0 = false := by unfold stV; simp; try omega
      rw [this] at k
      exact k _ x3
    have this : stV 3 6 0 sb (okE 5 e) (plE e) 0 0 = plE e := by
      unfold stV; simp; try omega
    rw [this] at k
    subst d2
    simp (disch := omega) [load_push, loadN_push, ly, lz, K_sl11Var, K_sl11Box, K_sl11Plain la]
    unfold plE at k
    rw [hna] at k
    simpa using k _ (x3.trans (Ext.push _ _))
  by_cases k7 : sk = 7
  · subst k7
    by_cases d1 : sv = 0
    rotate_left
    · simp (disch := omega) [load_push, loadN_push, ly, lz, K_sl11Var, d1]
      have : stV 3 7 sv sb (okE 5 e) (plE e) 0 0 = false := by unfold stV; simp; try omega
      rw [this] at k
      exact k _ x2
    subst d1
    by_cases d2 : sb = 0
    rotate_left
    · simp (disch := omega) [load_push, loadN_push, ly, lz, K_sl11Var, K_sl11Box, d2]
      have : stV 3 7 0 sb (okE 5 e) (plE e) 0 0 = false := by unfold stV; simp; try omega
      rw [this] at k
      exact k _ x3
    have this : stV 3 7 0 sb (okE 5 e) (plE e) 0 0 = okE 5 e := by
      unfold stV; simp; try omega
    rw [this] at k
    subst d2
    simp (disch := omega) [load_push, loadN_push, ly, lz, K_sl11Var, K_sl11Box]
    refine K_sExprValid (e := e) (ea.ext x3) fun H1 x4 => ?_
    simp [x4]
    exact k _ (x3.trans x4)
  simp (disch := omega) [load_push, loadN_push, ly, lz, k1, k4, k5, k6, k7]
  have : stV 3 sk sv sb (okE 5 e) (plE e) 0 0 = false := by unfold stV; simp [h2, h3, k1, k4, k5, k6, k7]
  rw [this] at k
  exact k _ x1
theorem K_sl11Ok {ok : Nat → Prop} {H : AH} {K : AV → AH → Prop} {w : Fk K} {c : List AV} {s : St1} {nest : Int} (h : S1 ok H c s) (hn : -100 ≤ nest ∧ nest ≤ 100)
    (by_ : 1 ≤ nest → ∀ {H' : AH} {K : AV → AH → Prop} {w : Fk K} {v : AV}, SV ok H' v s.body → (∀ H'', Ext H' H'' → K (.b (okS 3 (nest - 1) s.body)) H'') → CallF Cd f_sl11Blocks [v, .I (nest - 1)] H' K w)
    (bz_ : 1 ≤ nest → ∀ {H' : AH} {K : AV → AH → Prop} {w : Fk K} {v : AV}, SV ok H' v s.els → (∀ H'', Ext H' H'' → K (.b (okS 3 (nest - 1) s.els)) H'') → CallF Cd f_sl11Blocks [v, .I (nest - 1)] H' K w)
    (k : ∀ H', Ext H H' → K (.b (okT 3 nest s)) H') : CallF Cd f_sl11Ok [.agg c, .I nest] H K w := by
  obtain ⟨va, vy, vz, rfl, ea, ey, ez⟩ := h
  have la := ea.alen
  have ly := ey.alen
  have lz := ez.alen
  have by' := ey.big
  have bz := ez.big
  have ba := ea.big
  have hs : S1 ok H [.I s.k, .I s.v, .I s.b, .I s.e.op, .I s.e.n, va, vy, vz] s := ⟨va, vy, vz, rfl, ea, ey, ez⟩
  have x1 := Ext.push H [.I s.k, .I s.v, .I s.b, .I s.e.op, .I s.e.n, va, vy, vz]
  have x2 := x1.trans (Ext.push _ [.I s.k, .I s.v, .I s.b, .I s.e.op, .I s.e.n, va, vy, vz])
  have x3 := x2.trans (Ext.push _ [.I s.k, .I s.v, .I s.b, .I s.e.op, .I s.e.n, va, vy, vz])
  rw [CallF_eq e_sl11Ok rfl]
  by_cases h23 : s.k ≠ 2 ∧ s.k ≠ 3
  · simp (disch := omega) [load_push, loadN_push, h23.1, h23.2]
    refine K_sl11Simple (hs.ext x1) h23.1 h23.2 fun H1 y1 => ?_
    simp [y1]
    have := k _ (x1.trans y1)
    unfold okT okS1 at this
    simpa [h23.1, h23.2] using this
  unfold okT okS1 at k
  generalize hny : s.body.list.length = ny at *
  generalize hnz : s.els.list.length = nz at *
  generalize hqy : okS 3 (nest - 1) s.body = qy at *
  generalize hqz : okS 3 (nest - 1) s.els = qz at *
  obtain ⟨sk, sv, sb, e, y, z⟩ := s
  simp only at *
  by_cases k2 : sk = 2
  · subst k2
    by_cases c1 : nest < 1
    · simp (disch := omega) [load_push, loadN_push, c1]
      have : ¬ 1 ≤ nest := by omega
      simp [this] at k
      exact k _ x1
    have c1' : 1 ≤ nest := by omega
    by_cases d1 : sv = 0
    rotate_left
    · simp (disch := omega) [load_push, loadN_push, c1, K_sl11Var, d1]
      have : stV 3 2 sv sb (okE 5 e) (plE e) ny nz = false := by unfold stV; simp [d1]
      rw [this] at k
      exact k _ x2
    subst d1
    by_cases d2 : sb = 0
    rotate_left
    · simp (disch := omega) [load_push, loadN_push, c1, K_sl11Var, K_sl11Box, d2]
      have : stV 3 2 0 sb (okE 5 e) (plE e) ny nz = false := by unfold stV; simp [d2]
      rw [this] at k
      exact k _ x3
    subst d2
    have : stV 3 2 0 0 (okE 5 e) (plE e) ny nz = okE 5 e := by unfold stV; simp
    rw [this] at k
    simp (disch := omega) [load_push, loadN_push, c1, K_sl11Var, K_sl11Box]
    refine K_sExprValid (e := e) (ea.ext x3) fun H1 y1 => ?_
    have q1 : H1.bk H.n = some ⟨[.I 2, .I 0, .I 0, .I e.op, .I e.n, va, vy, vz], true⟩ := (y1.2 H.n (by simp; omega)).trans (push_old (by simp; omega) (push_old (by simp) push_new))
    simp [c1'] at k
    cases hoe : okE 5 e with
    | false =>
      simp [hoe] at k
      simp [y1]
      exact k _ (x3.trans y1)
    | true =>
      simp [hoe] at k
      simp (disch := omega) [y1, load_bk q1]
      refine by_ c1' (ey.ext (x3.trans y1)) fun H2 y2 => ?_
      have q2 : H2.bk H.n = some ⟨[.I 2, .I 0, .I 0, .I e.op, .I e.n, va, vy, vz], true⟩ := (y2.2 H.n (by have := y1.1; simp at this; omega)).trans q1
      cases qy with
      | false =>
        simp at k
        simp [y2]
        exact k _ ((x3.trans y1).trans y2)
      | true =>
        simp at k
        simp (disch := omega) [y2, load_bk q2]
        refine bz_ c1' (ez.ext ((x3.trans y1).trans y2)) fun H3 y3 => ?_
        simp [y3]
        exact k _ (((x3.trans y1).trans y2).trans y3)
  have k3 : sk = 3 := by omega
  subst k3
  by_cases c1 : nest < 1
  · simp (disch := omega) [load_push, loadN_push, c1]
    have : ¬ 1 ≤ nest := by omega
    simp [this] at k
    exact k _ x1
  have c1' : 1 ≤ nest := by omega
  by_cases c2 : nz = 0
  rotate_left
  · have c2' : 0 < nz := by omega
    simp (disch := omega) [load_push, loadN_push, c1, lz, c2']
    have : stV 3 3 sv sb (okE 5 e) (plE e) ny nz = false := by unfold stV; simp [c2]
    rw [this] at k
    exact k _ x1
  subst c2
  by_cases d1 : sv = 0
  rotate_left
  · simp (disch := omega) [load_push, loadN_push, c1, lz, K_sl11Var, d1]
    have : stV 3 3 sv sb (okE 5 e) (plE e) ny 0 = false := by unfold stV; simp [d1]
    rw [this] at k
    exact k _ x2
  subst d1
  by_cases d2 : sb = 0
  rotate_left
  · simp (disch := omega) [load_push, loadN_push, c1, lz, K_sl11Var, K_sl11Box, d2]
    have : stV 3 3 0 sb (okE 5 e) (plE e) ny 0 = false := by unfold stV; simp [d2]
    rw [this] at k
    exact k _ x3
  subst d2
  have : stV 3 3 0 0 (okE 5 e) (plE e) ny 0 = okE 5 e := by unfold stV; simp
  rw [this] at k
  simp (disch := omega) [load_push, loadN_push, c1, lz, K_sl11Var, K_sl11Box]
  refine K_sExprValid (e := e) (ea.ext x3) fun H1 y1 => ?_
  have q1 : H1.bk H.n = some ⟨[.I 3, .I 0, .I 0, .I e.op, .I e.n, va, vy, vz], true⟩ := (y1.2 H.n (by simp; omega)).trans (push_old (by simp; omega) (push_old (by simp) push_new))
  simp [c1'] at k
  cases hoe : okE 5 e with
  | false =>
    simp [hoe] at k
    simp [y1]
    exact k _ (x3.trans y1)
  | true =>
    simp [hoe] at k
    simp (disch := omega) [y1, load_bk q1]
    refine by_ c1' (ey.ext (x3.trans y1)) fun H2 y2 => ?_
    have q2 : H2.bk H.n = some ⟨[.I 3, .I 0, .I 0, .I e.op, .I e.n, va, vy, vz], true⟩ := (y2.2 H.n (by have := y1.1; simp at this; omega)).trans q1
    cases qy with
    | false =>
      simp at k
      simp [y2]
      exact k _ ((x3.trans y1).trans y2)
    | true =>
      simp at k
      simp (disch := omega) [y2, load_bk q2]
      refine bz_ c1' (ez.ext ((x3.trans y1).trans y2)) fun H3 y3 => ?_
      simp [y3]
      exact k _ (((x3.trans y1).trans y2).trans y3)
theorem K_sl11Blocks_l {f : Sts} {nest : Int} (hn : 0 ≤ nest ∧ nest ≤ 50)
    (ih : ∀ s ∈ f.list, (1 ≤ nest → ∀ {ok : Nat → Prop} {H' : AH} {K : AV → AH → Prop} {w : Fk K} {v : AV}, SV ok H' v s.body → (∀ H'', Ext H' H'' → K (.b (okS 3 (nest - 1) s.body)) H'') → CallF Cd f_sl11Blocks [v, .I (nest - 1)] H' K w) ∧
      (1 ≤ nest → ∀ {ok : Nat → Prop} {H' : AH} {K : AV → AH → Prop} {w : Fk K} {v : AV}, SV ok H' v s.els → (∀ H'', Ext H' H'' → K (.b (okS 3 (nest - 1) s.els)) H'') → CallF Cd f_sl11Blocks [v, .I (nest - 1)] H' K w))
    {ok : Nat → Prop} {K : AV → AH → Prop} {v : AV} {Q : Out → Env → AH → Prop} (h1 : ∀ e H, Q (.brk 0) e H = K (.b true) H) (h2 : ∀ e H, Q .ret e H = bindO (get e 4) fun v => K v H)
    (m i : Nat) (hm : i + m = f.list.length) {H : AH} (h : SV ok H v f) (k : ∀ H', Ext H H' → K (.b ((f.list.drop i).all (okT 3 nest))) H') :
    W Cd (.loop c_sl11Blocks_l0) [(0, v), (1, .I nest), (5, .I i)] H Q := by
  induction m generalizing i H with
  | zero =>
    rw [W_loop_as c_sl11Blocks_l0.eq_1]
    have : ¬ (i : Int) < f.list.length := by omega
    have := h.big
    simp [*, h.alen]
    have := k H (Ext.refl _)
    rw [List.drop_eq_nil_of_le (by omega)] at this
    exact this
  | succ m ihm =>
    rw [W_loop_as c_sl11Blocks_l0.eq_1]
    have hi : i < f.list.length := by omega
    obtain ⟨s, hs⟩ : ∃ s, f.list[i]? = some s := ⟨_, List.getElem?_eq_getElem hi⟩
    have hmem := List.mem_of_getElem? hs
    have hbig := h.big
    obtain ⟨b, o, cap, c, rfl, ob, hbn, l1, s1⟩ := h.at hs
    rw [all_drop hs] at k
    generalize hL : f.list.length = L at *
    have hlt : (i : Int) < L := by omega
    simp (disch := omega) [hlt, l1]
    refine K_sl11Ok s1 (by omega) (fun hn1 => (ih s hmem).1 hn1) (fun hn1 => (ih s hmem).2 hn1) fun H1 x1 => ?_
    cases hok : okT 3 nest s with
    | false =>
      simp [x1, h2]
      rw [hok] at k
      exact k _ x1
    | true =>
      rw [hok, Bool.true_and] at k
      simp (disch := omega) [x1]
      have := ihm (i + 1) (by omega) (h.ext x1) (fun H' x => k H' (x1.trans x))
      simpa using this
theorem K_sl11Blocks (f : Sts) : ∀ {nest : Int} {ok : Nat → Prop} {H : AH} {K : AV → AH → Prop} {w : Fk K} {v : AV}, 0 ≤ nest ∧ nest ≤ 50 → SV ok H v f →
    (∀ H', Ext H H' → K (.b (okS 3 nest f)) H') → CallF Cd f_sl11Blocks [v, .I nest] H K w := by
  induction f using Sts.ind with
  | h f ih =>
  intro nest ok H K w v hn h k
  rw [CallF_eq e_sl11Blocks rfl]
  simp
  rw [okS_mem] at k
  have := K_sl11Blocks_l (K := K) (f := f) (nest := nest) hn (fun s hs => ⟨fun h1 _ _ _ _ _ => (ih s hs).1 (by omega), fun h1 _ _ _ _ _ => (ih s hs).2 (by omega)⟩) (Q := ?_) ?_ ?_ f.list.length 0 (by omega) h k
  · simpa using this
  · intros; simp
  · intros; simp
theorem K_sl11Count_l {f : Sts} (ih : ∀ s ∈ f.list, (∀ {ok : Nat → Prop} {H' : AH} {K : AV → AH → Prop} {w : Fk K} {v : AV}, SV ok H' v s.body → ctS s.body ≤ 1000000 → K (.I (ctS s.body)) H' → CallF Cd f_sl11Count [v] H' K w) ∧
      (∀ {ok : Nat → Prop} {H' : AH} {K : AV → AH → Prop} {w : Fk K} {v : AV}, SV ok H' v s.els → ctS s.els ≤ 1000000 → K (.I (ctS s.els)) H' → CallF Cd f_sl11Count [v] H' K w))
    {ok : Nat → Prop} {v : AV} {Q : Out → Env → AH → Prop} {H : AH} (h : SV ok H v f) (hc : ctS f ≤ 1000000) (hQ : Q (.brk 0) [(0, v), (3, .I (ctS f)), (4, .I f.list.length), (8, .b false)] H)
    (m i : Nat) (hm : i + m = f.list.length) :
    W Cd (.loop c_sl11Count_l0) [(0, v), (3, .I ((f.list.take i).map ctT).sum), (4, .I i)] H Q := by
  induction m generalizing i with
  | zero =>
    rw [W_loop_as c_sl11Count_l0.eq_1]
    have hi : i = f.list.length := by omega
    subst hi
    have := h.big
    simp [h.alen]
    rw [← ctS_sum]
    exact hQ
  | succ m ihm =>
    rw [W_loop_as c_sl11Count_l0.eq_1]
    have hi : i < f.list.length := by omega
    obtain ⟨s, hs⟩ : ∃ s, f.list[i]? = some s := ⟨_, List.getElem?_eq_getElem hi⟩
    have hmem := List.mem_of_getElem? hs
    have hbig := h.big
    obtain ⟨b, o, cap, c, rfl, ob, hbn, l1, s1⟩ := h.at hs
    obtain ⟨va, vy, vz, rfl, ea, ey, ez⟩ := s1
    have hcm := ctS_mem hmem
    have ht := sum_take hs
    have hle : ((f.list.take (i + 1)).map ctT).sum ≤ ctS f := by
      rw [ctS_sum]
      conv => rhs; rw [← List.take_append_drop (i + 1) f.list, List.map_append, List.sum_append]
      omega
    have ht2 : ctT s = 1 + ctS s.body + ctS s.els := rfl
    have g6 := loadN_get l1 (i := 6) (by omega)
    have g7 := loadN_get l1 (i := 7) (by omega)
    have := ihm (i + 1) (by omega)
    rw [ht] at this hle
    generalize ((f.list.take i).map ctT).sum = S at *
    generalize hL : f.list.length = L at *
    have hlt : (i : Int) < L := by omega
    simp at g6 g7
    simp (disch := omega) [hlt, g6]
    refine (ih s hmem).1 ey (by omega) ?_
    simp (disch := omega) [g7]
    refine (ih s hmem).2 ez (by omega) ?_
    simp (disch := omega)
    have e1 : ((S + ctT s : Nat) : Int) = (S : Int) + 1 + ctS s.body + ctS s.els := by omega
    rw [e1] at this
    simpa using this
theorem K_sl11Count (f : Sts) : ∀ {ok : Nat → Prop} {H : AH} {K : AV → AH → Prop} {w : Fk K} {v : AV}, SV ok H v f → ctS f ≤ 1000000 → K (.I (ctS f)) H → CallF Cd f_sl11Count [v] H K w := by
  induction f using Sts.ind with
  | h f ih =>
  intro ok H K w v h hc k
  rw [CallF_eq e_sl11Count rfl]
  simp
  have := K_sl11Count_l (f := f) (fun s hs => ⟨fun {ok H' K w v} => (ih s hs).1, fun {ok H' K w v} => (ih s hs).2⟩) (Q := ?_) h hc ?_ f.list.length 0 (by omega)
  · simpa using this
  · simpa using k
section
variable {ok : Nat → Prop} {H : AH} {K : AV → AH → Prop} {w : Fk K} {v : AV} {f : Sts}
def vaS (boxes : Int) (f : Sts) : Bool := okS boxes 3 f && decide (ctS f ≤ 16)
theorem K_sStmtsValid (h : SV ok H v f) (hc : ctS f ≤ 1000000) (k : ∀ H', Ext H H' → K (.b (vaS 3 f)) H') : CallF Cd f_sStmtsValid [v] H K w := by
  rw [CallF_eq e_sStmtsValid rfl]
  simp
  unfold vaS at k
  refine K_sl11Blocks f (by omega) h fun H1 x1 => ?_
  cases ho : okS 3 3 f with
  | false =>
    simp
    simpa [ho] using k _ x1
  | true =>
    simp
    refine K_sl11Count f (h.ext x1) hc ?_
    have e : decide ((ctS f : Int) ≤ 16) = decide (ctS f ≤ 16) := by
      by_cases q : ctS f ≤ 16
      · have : (ctS f : Int) ≤ 16 := by omega
        simp [q, this]
      · have : ¬ (ctS f : Int) ≤ 16 := by omega
        simp [q, this]
    simp [e]
    simpa [ho] using k _ x1
end
end Go.Proofs.YtmecbehegmgbhaaGreat.AM
namespace Go.Proofs.YtmecbehegmgbhaaGreat.AM
set_option linter.unusedSimpArgs false
set_option linter.unusedVariables false
set_option maxRecDepth 100000
set_option maxHeartbeats 2000000
open Go
section
variable {H : AH} {K : AV → AH → Prop} {w : Fk K} {n lim : Int} {u : Bool}
theorem K_in1 : CallF Cd f_istmtValid_1 [.I n, .I lim, .b true] H K w = K (.b (decide (n = 0 ∨ 0 < n ∧ n < lim))) H := by
  rw [CallF_eq e_istmtValid_1 rfl]
  by_cases h0 : n = 0
  · simp [h0]
  by_cases h1 : 0 < n <;> simp [h0, h1]
theorem K_in0 : CallF Cd f_istmtValid_1 [.I n, .I lim, .b false] H K w = K (.b (decide (n = 0))) H := by
  rw [CallF_eq e_istmtValid_1 rfl]
  by_cases h0 : n = 0 <;> simp [h0]
end
theorem K_istmtValid {ok : Nat → Prop} {H : AH} {K : AV → AH → Prop} {w : Fk K} {c : List AV} {s : St1} {b o : Nat} {boxes : Int} (hl : H.loadN b (o) 8 = some c) (hb : b < H.n) (h : S1 ok H c s)
    (k : ∀ H', Ext H H' → K (.b (stV boxes s.k s.v s.b (okE 5 s.e) (plE s.e) s.body.list.length s.els.list.length)) H') : CallF Cd f_istmtValid [.ptr b o, .I boxes] H K w := by
  obtain ⟨va, vy, vz, rfl, ea, ey, ez⟩ := h
  have la := ea.alen
  have ly := ey.alen
  have lz := ez.alen
  have by' := ey.big
  have bz := ez.big
  have ba := ea.big
  generalize hny : s.body.list.length = ny at *
  generalize hnz : s.els.list.length = nz at *
  generalize hna : s.e.args.list.length = na at *
  obtain ⟨sk, sv, sb, e, y, z⟩ := s
  simp only at *
  rw [CallF_eq e_istmtValid rfl]
  have nb : ¬ b = H.n := by omega
  have g : ∀ (nd : List AV) i, i < 8 → (H.push nd).load b (o + i) = [.I sk, .I sv, .I sb, .I e.op, .I e.n, va, vy, vz][i]? := fun nd i hi => loadN_get (loadN_extE hl (Ext.push H nd) hb) hi
  have g0 := fun nd => g nd 0 (by omega)
  have g1 := fun nd => g nd 1 (by omega)
  have g2 := fun nd => g nd 2 (by omega)
  have g3 := fun nd => g nd 3 (by omega)
  have g4 := fun nd => g nd 4 (by omega)
  have g5 := fun nd => g nd 5 (by omega)
  have g6 := fun nd => g nd 6 (by omega)
  have g7 := fun nd => g nd 7 (by omega)
  simp at g0 g1 g2 g3 g4 g5 g6 g7
  have ge : ∀ nd, (H.push nd).loadN b (o + 3) 3 = some [.I e.op, .I e.n, va] := fun nd => by
    have := loadN_extE hl (Ext.push H nd) hb
    unfold AH.loadN at this ⊢
    obtain ⟨kk, hk, hs⟩ := Option.bind_eq_some_iff.1 this
    rw [hk]
    exact (seg_seg hs (o1 := 3) (n1 := 3) (by omega)).trans rfl
  by_cases k1 : sk = 1
  · subst k1
    have x1 := Ext.push H [.b true, .b false, .b true, .b false, .b false]
    by_cases d1 : sv = 0 ∨ 0 < sv ∧ sv < 4
    rotate_left
    · simp (disch := omega) [g0, g1, g2, AH.store, push_put, load_bk push_new, K_in1, K_in0, d1]
      have : stV boxes 1 sv sb (okE 5 e) (plE e) ny nz = false := by unfold stV; simp; try omega
      rw [this] at k
      exact k _ x1
    by_cases d2 : sb = 0
    rotate_left
    · simp (disch := omega) [g0, g1, g2, AH.store, push_put, load_bk push_new, K_in1, K_in0, d1, d2]
      have : stV boxes 1 sv sb (okE 5 e) (plE e) ny nz = false := by unfold stV; simp; try omega
      rw [this] at k
      exact k _ x1
    subst d2
    simp (disch := omega) [g0, g1, g2, AH.store, push_put, load_bk push_new, K_in1, K_in0, d1, ge]
    refine K_iExprValid (e := e) (ea.ext x1) fun H1 y1 => ?_
    have q1 : H1.bk H.n = some ⟨[.b true, .b false, .b true, .b false, .b false], true⟩ := (y1.2 H.n (by simp)).trans push_new
    have j6 : H1.load b (o + 6) = some vy := loadN_get (loadN_extE (loadN_extE hl x1 hb) y1 (by simp; omega)) (i := 6) (by omega)
    have j7 : H1.load b (o + 7) = some vz := loadN_get (loadN_extE (loadN_extE hl x1 hb) y1 (by simp; omega)) (i := 7) (by omega)
    have xx := x1.trans y1
    cases hx : okE 5 e with
    | false =>
      simp [y1]
      have : stV boxes 1 sv 0 (okE 5 e) (plE e) ny nz = false := by unfold stV; simp [hx]
      rw [this] at k
      exact k _ xx
    | true =>
      by_cases r1 : ny = 0
      rotate_left
      · simp (disch := omega) [y1, load_bk q1, j6, j7, ly, lz, r1]
        have : stV boxes 1 sv 0 (okE 5 e) (plE e) ny nz = false := by unfold stV; simp [r1]
        rw [this] at k
        exact k _ xx
      by_cases r2 : nz = 0
      rotate_left
      · simp (disch := omega) [y1, load_bk q1, j6, j7, ly, lz, r1, r2]
        have : stV boxes 1 sv 0 (okE 5 e) (plE e) ny nz = false := by unfold stV; simp [r2]
        rw [this] at k
        exact k _ xx
      simp (disch := omega) [y1, load_bk q1, j6, j7, ly, lz, r1, r2]
      have : stV boxes 1 sv 0 (okE 5 e) (plE e) ny nz = true := by unfold stV; simp [hx, r1, r2]; try omega
      rw [this] at k
      exact k _ xx
  by_cases k2 : sk = 2
  · subst k2
    have x1 := Ext.push H [.b false, .b false, .b true, .b true, .b true]
    by_cases d1 : sv = 0
    rotate_left
    · simp (disch := omega) [g0, g1, g2, AH.store, push_put, load_bk push_new, K_in1, K_in0, d1]
      have : stV boxes 2 sv sb (okE 5 e) (plE e) ny nz = false := by unfold stV; simp; try omega
      rw [this] at k
      exact k _ x1
    subst d1
    by_cases d2 : sb = 0
    rotate_left
    · simp (disch := omega) [g0, g1, g2, AH.store, push_put, load_bk push_new, K_in1, K_in0, d2]
      have : stV boxes 2 0 sb (okE 5 e) (plE e) ny nz = false := by unfold stV; simp; try omega
      rw [this] at k
      exact k _ x1
    subst d2
    simp (disch := omega) [g0, g1, g2, AH.store, push_put, load_bk push_new, K_in1, K_in0, ge]
    refine K_iExprValid (e := e) (ea.ext x1) fun H1 y1 => ?_
    have q1 : H1.bk H.n = some ⟨[.b false, .b false, .b true, .b true, .b true], true⟩ := (y1.2 H.n (by simp)).trans push_new
    have j6 : H1.load b (o + 6) = some vy := loadN_get (loadN_extE (loadN_extE hl x1 hb) y1 (by simp; omega)) (i := 6) (by omega)
    have j7 : H1.load b (o + 7) = some vz := loadN_get (loadN_extE (loadN_extE hl x1 hb) y1 (by simp; omega)) (i := 7) (by omega)
    have xx := x1.trans y1
    cases hx : okE 5 e with
    | false =>
      simp [y1]
      have : stV boxes 2 0 0 (okE 5 e) (plE e) ny nz = false := by unfold stV; simp [hx]
      rw [this] at k
      exact k _ xx
    | true =>
      simp (disch := omega) [y1, load_bk q1, j6, j7, ly, lz]
      have : stV boxes 2 0 0 (okE 5 e) (plE e) ny nz = true := by unfold stV; simp [hx]; try omega
      rw [this] at k
      exact k _ xx
  by_cases k3 : sk = 3
  · subst k3
    have x1 := Ext.push H [.b false, .b false, .b true, .b true, .b false]
    by_cases d1 : sv = 0
    rotate_left
    · simp (disch := omega) [g0, g1, g2, AH.store, push_put, load_bk push_new, K_in1, K_in0, d1]
      have : stV boxes 3 sv sb (okE 5 e) (plE e) ny nz = false := by unfold stV; simp; try omega
      rw [this] at k
      exact k _ x1
    subst d1
    by_cases d2 : sb = 0
    rotate_left
    · simp (disch := omega) [g0, g1, g2, AH.store, push_put, load_bk push_new, K_in1, K_in0, d2]
      have : stV boxes 3 0 sb (okE 5 e) (plE e) ny nz = false := by unfold stV; simp; try omega
      rw [this] at k
      exact k _ x1
    subst d2
    simp (disch := omega) [g0, g1, g2, AH.store, push_put, load_bk push_new, K_in1, K_in0, ge]
    refine K_iExprValid (e := e) (ea.ext x1) fun H1 y1 => ?_
    have q1 : H1.bk H.n = some ⟨[.b false, .b false, .b true, .b true, .b false], true⟩ := (y1.2 H.n (by simp)).trans push_new
    have j6 : H1.load b (o + 6) = some vy := loadN_get (loadN_extE (loadN_extE hl x1 hb) y1 (by simp; omega)) (i := 6) (by omega)
    have j7 : H1.load b (o + 7) = some vz := loadN_get (loadN_extE (loadN_extE hl x1 hb) y1 (by simp; omega)) (i := 7) (by omega)
    have xx := x1.trans y1
    cases hx : okE 5 e with
    | false =>
      simp [y1]
      have : stV boxes 3 0 0 (okE 5 e) (plE e) ny nz = false := by unfold stV; simp [hx]
      rw [this] at k
      exact k _ xx
    | true =>
      by_cases r2 : nz = 0
      rotate_left
      · simp (disch := omega) [y1, load_bk q1, j6, j7, ly, lz, r2]
        have : stV boxes 3 0 0 (okE 5 e) (plE e) ny nz = false := by unfold stV; simp [r2]
        rw [this] at k
        exact k _ xx
      simp (disch := omega) [y1, load_bk q1, j6, j7, ly, lz, r2]
      have : stV boxes 3 0 0 (okE 5 e) (plE e) ny nz = true := by unfold stV; simp [hx, r2]; try omega
      rw [this] at k
      exact k _ xx
  by_cases k4 : sk = 4
  · subst k4
    have x1 := Ext.push H [.b false, .b true, .b true, .b false, .b false]
    by_cases d1 : sv = 0
    rotate_left
    · simp (disch := omega) [g0, g1, g2, AH.store, push_put, load_bk push_new, K_in1, K_in0, d1]
      have : stV boxes 4 sv sb (okE 5 e) (plE e) ny nz = false := by unfold stV; simp; try omega
      rw [this] at k
      exact k _ x1
    subst d1
    by_cases d2 : sb = 0 ∨ 0 < sb ∧ sb < boxes
    rotate_left
    · simp (disch := omega) [g0, g1, g2, AH.store, push_put, load_bk push_new, K_in1, K_in0, d2]
      have : stV boxes 4 0 sb (okE 5 e) (plE e) ny nz = false := by unfold stV; simp; try omega
      rw [this] at k
      exact k _ x1
    by_cases d3 : sb < boxes
    rotate_left
    · have d3' : boxes ≤ sb := by omega
      simp (disch := omega) [g0, g1, g2, AH.store, push_put, load_bk push_new, K_in1, K_in0, d2, d3']
      have : stV boxes 4 0 sb (okE 5 e) (plE e) ny nz = false := by unfold stV; simp; try omega
      rw [this] at k
      exact k _ x1
    have d3' : ¬ boxes ≤ sb := by omega
    simp (disch := omega) [g0, g1, g2, AH.store, push_put, load_bk push_new, K_in1, K_in0, d2, d3', ge]
    refine K_iExprValid (e := e) (ea.ext x1) fun H1 y1 => ?_
    have q1 : H1.bk H.n = some ⟨[.b false, .b true, .b true, .b false, .b false], true⟩ := (y1.2 H.n (by simp)).trans push_new
    have j6 : H1.load b (o + 6) = some vy := loadN_get (loadN_extE (loadN_extE hl x1 hb) y1 (by simp; omega)) (i := 6) (by omega)
    have j7 : H1.load b (o + 7) = some vz := loadN_get (loadN_extE (loadN_extE hl x1 hb) y1 (by simp; omega)) (i := 7) (by omega)
    have xx := x1.trans y1
    cases hx : okE 5 e with
    | false =>
      simp [y1]
      have : stV boxes 4 0 sb (okE 5 e) (plE e) ny nz = false := by unfold stV; simp [hx]
      rw [this] at k
      exact k _ xx
    | true =>
      by_cases r1 : ny = 0
      rotate_left
      · simp (disch := omega) [y1, load_bk q1, j6, j7, ly, lz, r1]
        have : stV boxes 4 0 sb (okE 5 e) (plE e) ny nz = false := by unfold stV; simp [r1]
        rw [this] at k
        exact k _ xx
      by_cases r2 : nz = 0
      rotate_left
      · simp (disch := omega) [y1, load_bk q1, j6, j7, ly, lz, r1, r2]
        have : stV boxes 4 0 sb (okE 5 e) (plE e) ny nz = false := by unfold stV; simp [r2]
        rw [this] at k
        exact k _ xx
      simp (disch := omega) [y1, load_bk q1, j6, j7, ly, lz, r1, r2]
      have : stV boxes 4 0 sb (okE 5 e) (plE e) ny nz = true := by unfold stV; simp [hx, r1, r2]; try omega
      rw [this] at k
      exact k _ xx
  by_cases k5 : sk = 5
  · subst k5
    have x1 := Ext.push H [.b true, .b true, .b false, .b false, .b false]
    by_cases d1 : sv = 0 ∨ 0 < sv ∧ sv < 4
    rotate_left
    · simp (disch := omega) [g0, g1, g2, AH.store, push_put, load_bk push_new, K_in1, K_in0, d1]
      have : stV boxes 5 sv sb (okE 5 e) (plE e) ny nz = false := by unfold stV; simp; try omega
      rw [this] at k
      exact k _ x1
    by_cases d2 : sb = 0 ∨ 0 < sb ∧ sb < boxes
    rotate_left
    · simp (disch := omega) [g0, g1, g2, AH.store, push_put, load_bk push_new, K_in1, K_in0, d1, d2]
      have : stV boxes 5 sv sb (okE 5 e) (plE e) ny nz = false := by unfold stV; simp; try omega
      rw [this] at k
      exact k _ x1
    by_cases d3 : sb < boxes
    rotate_left
    · have d3' : boxes ≤ sb := by omega
      simp (disch := omega) [g0, g1, g2, AH.store, push_put, load_bk push_new, K_in1, K_in0, d1, d2, d3']
      have : stV boxes 5 sv sb (okE 5 e) (plE e) ny nz = false := by unfold stV; simp; try omega
      rw [this] at k
      exact k _ x1
    have d3' : ¬ boxes ≤ sb := by omega
    by_cases p1 : e.op = 0
    rotate_left
    · simp (disch := omega) [g0, g1, g2, AH.store, push_put, load_bk push_new, K_in1, K_in0, g3, g4, g5, la, d1, d2, d3', p1]
      have : stV boxes 5 sv sb (okE 5 e) (plE e) ny nz = false := by unfold stV plE; simp [p1]
      rw [this] at k
      exact k _ x1
    by_cases p2 : e.n = 0
    rotate_left
    · simp (disch := omega) [g0, g1, g2, AH.store, push_put, load_bk push_new, K_in1, K_in0, g3, g4, g5, la, d1, d2, d3', p1, p2]
      have : stV boxes 5 sv sb (okE 5 e) (plE e) ny nz = false := by unfold stV plE; simp [p2]
      rw [this] at k
      exact k _ x1
    by_cases p3 : na = 0
    rotate_left
    · have p3' : 0 < na := by omega
      simp (disch := omega) [g0, g1, g2, AH.store, push_put, load_bk push_new, K_in1, K_in0, g3, g4, g5, la, d1, d2, d3', p1, p2, p3']
      have : stV boxes 5 sv sb (okE 5 e) (plE e) ny nz = false := by unfold stV plE; simp [hna, p3]
      rw [this] at k
      exact k _ x1
    have xx := x1
    have hx : plE e = true := by unfold plE; simp [hna, p1, p2, p3]
    by_cases r1 : ny = 0
    rotate_left
    · simp (disch := omega) [g0, g1, g2, AH.store, push_put, load_bk push_new, K_in1, K_in0, g3, g4, g5, g6, g7, la, ly, lz, d1, d2, d3', p1, p2, p3, r1]
      have : stV boxes 5 sv sb (okE 5 e) (plE e) ny nz = false := by unfold stV; simp [r1]
      rw [this] at k
      exact k _ xx
    by_cases r2 : nz = 0
    rotate_left
    · simp (disch := omega) [g0, g1, g2, AH.store, push_put, load_bk push_new, K_in1, K_in0, g3, g4, g5, g6, g7, la, ly, lz, d1, d2, d3', p1, p2, p3, r1, r2]
      have : stV boxes 5 sv sb (okE 5 e) (plE e) ny nz = false := by unfold stV; simp [r2]
      rw [this] at k
      exact k _ xx
    simp (disch := omega) [g0, g1, g2, AH.store, push_put, load_bk push_new, K_in1, K_in0, g3, g4, g5, g6, g7, la, ly, lz, d1, d2, d3', p1, p2, p3, r1, r2]
    have : stV boxes 5 sv sb (okE 5 e) (plE e) ny nz = true := by unfold stV; simp [hx, r1, r2]; try omega
    rw [this] at k
    exact k _ xx
  by_cases k6 : sk = 6
  · subst k6
    have x1 := Ext.push H [.b false, .b false, .b false, .b false, .b false]
    by_cases d1 : sv = 0
    rotate_left
    · simp (disch := omega) [g0, g1, g2, AH.store, push_put, load_bk push_new, K_in1, K_in0, d1]
      have : stV boxes 6 sv sb (okE 5 e) (plE e) ny nz = false := by unfold stV; simp; try omega
      rw [this] at k
      exact k _ x1
    subst d1
    by_cases d2 : sb = 0
    rotate_left
    · simp (disch := omega) [g0, g1, g2, AH.store, push_put, load_bk push_new, K_in1, K_in0, d2]
      have : stV boxes 6 0 sb (okE 5 e) (plE e) ny nz = false := by unfold stV; simp; try omega
      rw [this] at k
      exact k _ x1
    subst d2
    by_cases p1 : e.op = 0
    rotate_left
    · simp (disch := omega) [g0, g1, g2, AH.store, push_put, load_bk push_new, K_in1, K_in0, g3, g4, g5, la, p1]
      have : stV boxes 6 0 0 (okE 5 e) (plE e) ny nz = false := by unfold stV plE; simp [p1]
      rw [this] at k
      exact k _ x1
    by_cases p2 : e.n = 0
    rotate_left
    · simp (disch := omega) [g0, g1, g2, AH.store, push_put, load_bk push_new, K_in1, K_in0, g3, g4, g5, la, p1, p2]
      have : stV boxes 6 0 0 (okE 5 e) (plE e) ny nz = false := by unfold stV plE; simp [p2]
      rw [this] at k
      exact k _ x1
    by_cases p3 : na = 0
    rotate_left
    · have p3' : 0 < na := by omega
      simp (disch := omega) [g0, g1, g2, AH.store, push_put, load_bk push_new, K_in1, K_in0, g3, g4, g5, la, p1, p2, p3']
      have : stV boxes 6 0 0 (okE 5 e) (plE e) ny nz = false := by unfold stV plE; simp [hna, p3]
      rw [this] at k
      exact k _ x1
    have xx := x1
    have hx : plE e = true := by unfold plE; simp [hna, p1, p2, p3]
    by_cases r1 : ny = 0
    rotate_left
    · simp (disch := omega) [g0, g1, g2, AH.store, push_put, load_bk push_new, K_in1, K_in0, g3, g4, g5, g6, g7, la, ly, lz, p1, p2, p3, r1]
      have : stV boxes 6 0 0 (okE 5 e) (plE e) ny nz = false := by unfold stV; simp [r1]
      rw [this] at k
      exact k _ xx
    by_cases r2 : nz = 0
    rotate_left
    · simp (disch := omega) [g0, g1, g2, AH.store, push_put, load_bk push_new, K_in1, K_in0, g3, g4, g5, g6, g7, la, ly, lz, p1, p2, p3, r1, r2]
      have : stV boxes 6 0 0 (okE 5 e) (plE e) ny nz = false := by unfold stV; simp [r2]
      rw [this] at k
      exact k _ xx
    simp (disch := omega) [g0, g1, g2, AH.store, push_put, load_bk push_new, K_in1, K_in0, g3, g4, g5, g6, g7, la, ly, lz, p1, p2, p3, r1, r2]
    have : stV boxes 6 0 0 (okE 5 e) (plE e) ny nz = true := by unfold stV; simp [hx, r1, r2]; try omega
    rw [this] at k
    exact k _ xx
  by_cases k7 : sk = 7
  · subst k7
    have x1 := Ext.push H [.b false, .b false, .b true, .b false, .b false]
    by_cases d1 : sv = 0
    rotate_left
    · simp (disch := omega) [g0, g1, g2, AH.store, push_put, load_bk push_new, K_in1, K_in0, d1]
      have : stV boxes 7 sv sb (okE 5 e) (plE e) ny nz = false := by unfold stV; simp; try omega
      rw [this] at k
      exact k _ x1
    subst d1
    by_cases d2 : sb = 0
    rotate_left
    · simp (disch := omega) [g0, g1, g2, AH.store, push_put, load_bk push_new, K_in1, K_in0, d2]
      have : stV boxes 7 0 sb (okE 5 e) (plE e) ny nz = false := by unfold stV; simp; try omega
      rw [this] at k
      exact k _ x1
    subst d2
    simp (disch := omega) [g0, g1, g2, AH.store, push_put, load_bk push_new, K_in1, K_in0, ge]
    refine K_iExprValid (e := e) (ea.ext x1) fun H1 y1 => ?_
    have q1 : H1.bk H.n = some ⟨[.b false, .b false, .b true, .b false, .b false], true⟩ := (y1.2 H.n (by simp)).trans push_new
    have j6 : H1.load b (o + 6) = some vy := loadN_get (loadN_extE (loadN_extE hl x1 hb) y1 (by simp; omega)) (i := 6) (by omega)
    have j7 : H1.load b (o + 7) = some vz := loadN_get (loadN_extE (loadN_extE hl x1 hb) y1 (by simp; omega)) (i := 7) (by omega)
    have xx := x1.trans y1
    cases hx : okE 5 e with
    | false =>
      simp [y1]
      have : stV boxes 7 0 0 (okE 5 e) (plE e) ny nz = false := by unfold stV; simp [hx]
      rw [this] at k
      exact k _ xx
    | true =>
      by_cases r1 : ny = 0
      rotate_left
      · simp (disch := omega) [y1, load_bk q1, j6, j7, ly, lz, r1]
        have : stV boxes 7 0 0 (okE 5 e) (plE e) ny nz = false := by unfold stV; simp [r1]
        rw [this] at k
        exact k _ xx
      by_cases r2 : nz = 0
      rotate_left
      · simp (disch := omega) [y1, load_bk q1, j6, j7, ly, lz, r1, r2]
        have : stV boxes 7 0 0 (okE 5 e) (plE e) ny nz = false := by unfold stV; simp [r2]
        rw [this] at k
        exact k _ xx
      simp (disch := omega) [y1, load_bk q1, j6, j7, ly, lz, r1, r2]
      have : stV boxes 7 0 0 (okE 5 e) (plE e) ny nz = true := by unfold stV; simp [hx, r1, r2]; try omega
      rw [this] at k
      exact k _ xx
  simp (disch := omega) [g0, g1, g2, k1, k2, k3, k4, k5, k6, k7]
  have : stV boxes sk sv sb (okE 5 e) (plE e) ny nz = false := by unfold stV; simp [k1, k2, k3, k4, k5, k6, k7]
  rw [this] at k
  exact k _ (Ext.push _ _)
end Go.Proofs.YtmecbehegmgbhaaGreat.AM
namespace Go.Proofs.YtmecbehegmgbhaaGreat.AM
set_option linter.unusedSimpArgs false
set_option linter.unusedVariables false
open Go
theorem SV.only {bs : List Nat} {H H' : AH} {v f} {ok : Nat → Prop} (h : SV ok H v f) (k : Only bs H H') (hb : ∀ b, ok b → b ∉ bs) : SV ok H' v f := h.mono k.1 (fun b h1 h2 => k.2 b h2 (hb b h1)) (fun _ h _ => h)
theorem stV_leaf {boxes k v b : Int} {x p : Bool} {ny nz : Nat} (h : stV boxes k v b x p ny nz = true) (h2 : k ≠ 2) (h3 : k ≠ 3) : ny = 0 ∧ nz = 0 := by
  unfold stV at h
  by_cases k1 : k = 1
  · simp [k1] at h; omega
  by_cases k4 : k = 4
  · simp [k4] at h; omega
  by_cases k5 : k = 5
  · simp [k5] at h; omega
  by_cases k6 : k = 6
  · simp [k6] at h; omega
  by_cases k7 : k = 7
  · simp [k7] at h; omega
  simp [h2, h3, k1, k4, k5, k6, k7] at h
def BlV (f : Sts) : Prop := ∀ {blocks boxes : Int} {c : Nat} {cp : Nat} {H : AH} {K : AV → AH → Prop} {w : Fk K} {v : AV}, SV (fun b => b ≠ cp) H v f → ctS f ≤ 100000 → c ≤ 16 → cp < H.n → H.bk cp = some ⟨[.I c], true⟩ → 0 ≤ blocks ∧ blocks ≤ 3 →
  (∀ r H', (r = true ↔ okS boxes (3 - blocks) f = true ∧ c + ctS f ≤ 16) → (r = true → H'.bk cp = some ⟨[.I (c + ctS f : Nat)], true⟩) → Only [cp] H H' → K (.b r) H') → CallF Cd f_iblockValid [v, .I boxes, .I blocks, .ptr cp 0] H K w
theorem K_iblockValid_l {f : Sts} (ih : ∀ s ∈ f.list, BlV s.body ∧ BlV s.els) {boxes blocks : Int} {T cp : Nat} {K : AV → AH → Prop} {v : AV} (hc : ctS f ≤ 100000) (hbl : 0 ≤ blocks ∧ blocks ≤ 3)
    {Q : Out → Env → AH → Prop} (h1 : ∀ e H, Q (.brk 0) e H = K (.b true) H) (h2 : ∀ e H, Q .ret e H = bindO (get e 8) fun v => K v H)
    (m i : Nat) (hm : i + m = f.list.length) {H : AH} {cnt : Nat} (h : SV (fun b => b ≠ cp) H v f) (hcp : cp < H.n) (gc : H.bk cp = some ⟨[.I cnt], true⟩) (h16 : cnt ≤ 16) (hT : cnt + ((f.list.drop i).map ctT).sum = T + m)
    (k : ∀ r H', (r = true ↔ (f.list.drop i).all (okT boxes (3 - blocks)) = true ∧ T ≤ 16) → (r = true → H'.bk cp = some ⟨[.I (T : Nat)], true⟩) → Only [cp] H H' → K (.b r) H') :
    W Cd (.loop c_iblockValid_l0) [(0, v), (1, .I boxes), (2, .I blocks), (3, .ptr cp 0), (23, .I f.list.length), (24, .I i)] H Q := by
  induction m generalizing i H cnt with
  | zero =>
    rw [W_loop_as c_iblockValid_l0.eq_1]
    have hi : i = f.list.length := by omega
    subst hi
    simp [h1]
    rw [List.drop_length] at hT k
    simp at hT
    subst hT
    exact k true H (by simp [h16]) (fun _ => gc) Only.refl
  | succ m ihm =>
    rw [W_loop_as c_iblockValid_l0.eq_1]
    have hi : i < f.list.length := by omega
    obtain ⟨s, hs⟩ : ∃ s, f.list[i]? = some s := ⟨_, List.getElem?_eq_getElem hi⟩
    have hmem := List.mem_of_getElem? hs
    have hbig := h.big
    obtain ⟨b, o, cap, c, rfl, ob, hbn, l1, s1⟩ := h.at hs
    rw [all_drop hs] at k
    rw [sum_drop hs] at hT
    have hcm := ctS_mem hmem
    have ht2 : ctT s = 1 + ctS s.body + ctS s.els := rfl
    have hrem : ((f.list.drop (i + 1)).map ctT).sum ≥ m := by
      have : ∀ l : List St1, l.length ≤ (l.map ctT).sum := fun l => by
        induction l with
        | nil => simp
        | cons a l ih => simp [ctT]; omega
      have := this (f.list.drop (i + 1))
      rw [List.length_drop] at this
      omega
    generalize hL : f.list.length = L at *
    have hlt : (i : Int) < L := by omega
    have nh : ¬ b = cp := ob
    have hb2 : ¬ (3 : Int) < blocks := by omega
    simp (disch := omega) [hlt]
    refine K_istmtValid l1 hbn s1 fun H1 x1 => ?_
    have o1 : Only [cp] H H1 := ⟨x1.1, fun b hb _ => x1.2 b hb⟩
    have gc1 := (x1.2 cp hcp).trans gc
    have l2 := loadN_extE l1 x1 hbn
    obtain ⟨va, vy, vz, rfl, ea, ey, ez⟩ := s1
    have g0 := loadN_get l2 (i := 0) (by omega)
    have g6 := loadN_get l2 (i := 6) (by omega)
    simp at g0 g6
    have e0 : okT boxes (3 - blocks) s = (stV boxes s.k s.v s.b (okE 5 s.e) (plE s.e) s.body.list.length s.els.list.length && (decide (s.k ≠ 2 ∧ s.k ≠ 3) || (decide (1 ≤ 3 - blocks) && okS boxes (3 - blocks - 1) s.body && okS boxes (3 - blocks - 1) s.els))) := rfl
    rw [e0] at k
    cases hst : stV boxes s.k s.v s.b (okE 5 s.e) (plE s.e) s.body.list.length s.els.list.length with
    | false =>
      rw [hst] at k
      simp [h2]
      exact k false _ (by simp) (by simp) o1
    | true =>
      rw [hst] at k
      by_cases hk : s.k ≠ 2 ∧ s.k ≠ 3
      · simp (disch := omega) [hb2, g0, hk.1, hk.2]
        have hb0 : s.body = .nil ∧ s.els = .nil := by
          have : s.body.list.length = 0 ∧ s.els.list.length = 0 := stV_leaf hst hk.1 hk.2
          exact ⟨by rw [← Sts.of_list s.body, List.eq_nil_of_length_eq_zero this.1]; rfl, by rw [← Sts.of_list s.els, List.eq_nil_of_length_eq_zero this.2]; rfl⟩
        have z1 : ctS s.body = 0 := by rw [hb0.1]; rfl
        have z2 : ctS s.els = 0 := by rw [hb0.2]; rfl
        have := ihm (i + 1) (by omega) (H := H1) (cnt := cnt) (h.only o1 (by simp)) (by have := x1.1; omega) gc1 h16 (by omega) (fun r H' a1 a2 a3 => k r H' (by simpa [hk.1, hk.2] using a1) a2 (o1.trans a3))
        simpa using this
      have hk' : (decide (s.k ≠ 2 ∧ s.k ≠ 3)) = false := by simp only [decide_eq_false_iff_not]; exact hk
      have hnn : ¬ (s.k = 2 → s.k = 3) ∨ s.k = 3 := by omega
      rw [hk'] at k
      have hbra : (s.k ≠ 2 ∧ s.k = 3) ∨ s.k = 2 := by omega
      by_cases hb3 : 3 ≤ blocks
      · have hb3' : ¬ 1 ≤ 3 - blocks := by omega
        rcases hbra with ⟨q1, q2⟩ | q2 <;> simp (disch := omega) [hb2, g0, q2, hb3, h2] <;> exact k false _ (by simp [hb3']) (by simp) o1
      have hb3' : 1 ≤ 3 - blocks := by omega
      have eb : (3 : Int) - (blocks + 1) = 3 - blocks - 1 := by omega
      have nh1 := x1.1
      rcases hbra with ⟨q1, q2⟩ | q2
      all_goals
        simp (disch := omega) [hb2, g0, q2, hb3, g6]
        refine (ih s hmem).1 (ey.ext x1) (by omega) h16 (by omega) gc1 (by omega) fun r H2 r1 r2 r3 => ?_
        rw [eb] at r1
        have o2 := o1.trans r3
        cases r with
        | false =>
          simp [h2]
          refine k false _ ?_ (by simp) o2
          simp at r1
          refine iff_of_false (by simp) ?_
          rintro ⟨u, u3⟩
          simp at u
          have := r1 u.1.1.2
          omega
        | true =>
          simp at r1
          have gc2 := r2 rfl
          have l3 : H2.loadN b (o + i * 8) 8 = some [.I s.k, .I s.v, .I s.b, .I s.e.op, .I s.e.n, va, vy, vz] := by
            unfold AH.loadN at l2 ⊢; rw [r3.2 b (by omega) (by simpa using nh)]; exact l2
          have g7 := loadN_get l3 (i := 7) (by omega)
          simp at g7
          simp (disch := omega) [g7]
          refine (ih s hmem).2 ((ez.ext x1).only r3 (by simp)) (by omega) r1.2 (by have := r3.1; omega) gc2 (by omega) fun r' H3 t1 t2 t3 => ?_
          rw [eb] at t1
          have o3 := o2.trans t3
          cases r' with
          | false =>
            simp [h2]
            refine k false _ ?_ (by simp) o3
            simp at t1
            refine iff_of_false (by simp) ?_
            rintro ⟨u, u3⟩
            simp at u
            have := t1 u.1.2
            omega
          | true =>
            simp at t1
            have gc3 := t2 rfl
            simp (disch := omega)
            have := ihm (i + 1) (by omega) (H := H3) (cnt := cnt + ctS s.body + ctS s.els) (h.only o3 (by simp)) (by have := o3.1; omega) gc3 t1.2 (by omega) (fun r H' a1 a2 a3 => k r H' (by simpa [hb3', r1.1, t1.1] using a1) a2 (o3.trans a3))
            simpa using this
theorem K_iblockValid (f : Sts) : BlV f := by
  induction f using Sts.ind with
  | h f ih =>
  intro blocks boxes c cp H K w v h hc h16 hcp gc hbl k
  rw [CallF_eq e_iblockValid rfl]
  have hbig := h.big
  have hlc := len_ctS (f := f)
  have st := store_bk (o := 0) (vs := [.I (c + f.list.length : Nat)]) gc (by simp)
  have st' : H.store cp 0 [AV.i .i64 ((c : Int) + f.list.length)] = _ := st
  have o1 : Only [cp] H (H.put cp (some ⟨splice [.I c] 0 [.I (c + f.list.length : Nat)], true⟩)) := Only.refl.put (by simp)
  have gc1 : (H.put cp (some ⟨splice [.I c] 0 [.I (c + f.list.length : Nat)], true⟩)).bk cp = some ⟨[.I (c + f.list.length : Nat)], true⟩ := by rw [put_same]; rfl
  have h1 := h.only o1 (by simp)
  generalize H.put cp (some ⟨splice [.I c] 0 [.I (c + f.list.length : Nat)], true⟩) = H1 at *
  by_cases hq : c + f.list.length ≤ 16
  · have hq' : ¬ (16 : Int) < (c : Int) + f.list.length := by omega
    have hq2 : ((c + f.list.length : Nat) : Int) = (c : Int) + f.list.length := by omega
    simp (disch := omega) [load_bk gc, h.alen, st', load_bk gc1, hq', hq2]
    have hT : c + f.list.length + ((f.list.drop 0).map ctT).sum = (c + ctS f) + f.list.length := by
      rw [List.drop_zero, ← ctS_sum]; omega
    have hcp1 : cp < H1.n := by have := o1.1; omega
    have := K_iblockValid_l ih (boxes := boxes) (blocks := blocks) (K := K) hc hbl (Q := ?_) ?_ ?_ f.list.length 0 (by omega) h1 hcp1 gc1 hq hT (fun r H' a1 a2 a3 => k r H' (by rw [okS_mem]; simpa using a1) a2 (o1.trans a3))
    · simpa using this
    · intros; simp
    · intros; simp
  · have hq' : (16 : Int) < (c : Int) + f.list.length := by omega
    have hq2 : ((c + f.list.length : Nat) : Int) = (c : Int) + f.list.length := by omega
    simp (disch := omega) [load_bk gc, h.alen, st', load_bk gc1, hq', hq2]
    exact k false _ (iff_of_false (by simp) (by rintro ⟨_, q⟩; omega)) (by simp) o1
section
variable {ok : Nat → Prop} {H : AH} {K : AV → AH → Prop} {w : Fk K} {v : AV} {f : Sts} {boxes : Int}
theorem K_istmtsValid (h : SV ok H v f) (hc : ctS f ≤ 100000) (k : ∀ H', Ext H H' → K (.b (vaS boxes f)) H') : CallF Cd f_istmtsValid [v, .I boxes] H K w := by
  rw [CallF_eq e_istmtsValid rfl]
  simp [AH.store, push_put]
  have h1 : SV (fun b => b ≠ H.n) (H.push [.I 0]) v f := h.mono (Nat.le_succ _) (fun b _ hb => (Ext.push _ _).2 b hb) (fun b _ hb => by omega)
  refine K_iblockValid f h1 hc (c := 0) (by omega) (by simp) push_new (by omega) fun r H' a1 a2 a3 => ?_
  simp
  have : r = vaS boxes f := by
    rw [Bool.eq_iff_iff, a1]; unfold vaS; simp
  rw [this]
  exact k _ ⟨by have := a3.1; simp at this; omega, fun b hb => (a3.2 b (by simp; omega) (by simp; omega)).trans (push_old hb rfl)⟩
theorem K_iStmtsValid (h : SV ok H v f) (hc : ctS f ≤ 100000) (k : ∀ H', Ext H H' → K (.b (vaS 3 f)) H') : CallF Cd f_iStmtsValid [v] H K w := by
  rw [CallF_eq e_iStmtsValid rfl]
  simp
  refine K_istmtsValid h hc fun H' x => ?_
  simp
  exact k _ x
end
end Go.Proofs.YtmecbehegmgbhaaGreat.AM
namespace Go.Proofs.YtmecbehegmgbhaaGreat.AM
set_option linter.unusedSimpArgs false
set_option linter.unusedVariables false
open Go
def LF {α : Type} (sz : Nat) (E : List AV → α → Prop) : List α → List AV → Prop
  | [], cs => cs = []
  | a :: l, cs => ∃ c cr, cs = c ++ cr ∧ c.length = sz ∧ E c a ∧ LF sz E l cr
theorem LF.len {α sz} {E : List AV → α → Prop} : ∀ {l cs}, LF sz E l cs → cs.length = l.length * sz
  | [], _, h => by cases h; simp
  | a :: l, _, ⟨c, cr, h1, h2, h3, h4⟩ => by subst h1; have := h4.len; simp [h2, this, Nat.add_mul]; omega
theorem LF.imp {α sz} {E F : List AV → α → Prop} (h : ∀ c a, E c a → F c a) : ∀ {l cs}, LF sz E l cs → LF sz F l cs
  | [], _, h => h
  | a :: l, _, ⟨c, cr, h1, h2, h3, h4⟩ => ⟨c, cr, h1, h2, h _ _ h3, LF.imp h h4⟩
theorem LF.drop {α sz} {E : List AV → α → Prop} : ∀ {l cs}, LF sz E l cs → ∀ i, LF sz E (l.drop i) (cs.drop (i * sz))
  | [], _, h, i => by cases h; simp [LF]
  | a :: l, _, h, 0 => by simpa using h
  | a :: l, _, ⟨c, cr, h1, h2, h3, h4⟩, i + 1 => by
    subst h1
    have := h4.drop i
    rw [show (i + 1) * sz = c.length + i * sz by rw [h2, Nat.add_mul]; omega, ← List.drop_drop (i := i * sz) (j := c.length), List.drop_left, List.drop_succ_cons]
    exact this
theorem LF.take {α sz} {E : List AV → α → Prop} : ∀ {l cs}, LF sz E l cs → ∀ i, LF sz E (l.take i) (cs.take (i * sz))
  | [], _, h, i => by cases h; simp [LF]
  | a :: l, _, h, 0 => by simp [LF]
  | a :: l, _, ⟨c, cr, h1, h2, h3, h4⟩, i + 1 => by
    subst h1
    have := h4.take i
    rw [show (i + 1) * sz = c.length + i * sz by rw [h2, Nat.add_mul]; omega, List.take_length_add_append]
    exact ⟨c, _, rfl, h2, h3, this⟩
theorem LF.app {α sz} {E : List AV → α → Prop} : ∀ {l cs} {l' : List α} {cs'}, LF sz E l cs → LF sz E l' cs' → LF sz E (l ++ l') (cs ++ cs')
  | [], _, l', cs', h, k => by cases h; simpa using k
  | a :: l, _, l', cs', ⟨c, cr, h1, h2, h3, h4⟩, k => ⟨c, cr ++ cs', by simp [h1], h2, h3, h4.app k⟩
theorem LF.one {α sz} {E : List AV → α → Prop} {c : List AV} {a : α} (h : E c a) (hc : c.length = sz) : LF sz E [a] c := ⟨c, [], by simp, hc, h, rfl⟩
theorem LF.get {α sz} {E : List AV → α → Prop} : ∀ {l cs}, LF sz E l cs → ∀ {i a}, l[i]? = some a → ∃ c, seg cs (i * sz) sz = some c ∧ E c a
  | [], _, _, i, a, hi => by simp at hi
  | x :: l, _, ⟨c, cr, h1, h2, h3, h4⟩, i, a, hi => by
    subst h1
    cases i with
    | zero =>
      simp at hi; subst hi
      exact ⟨c, by unfold seg; rw [if_pos (by simp; omega)]; simp [← h2], h3⟩
    | succ i =>
      obtain ⟨c', h5, h6⟩ := h4.get (i := i) (a := a) (by simpa using hi)
      refine ⟨c', ?_, h6⟩
      rw [← h5]
      unfold seg
      rw [show (i + 1) * sz = c.length + i * sz by rw [h2, Nat.add_mul]; omega, ← List.drop_drop, List.drop_left]
      simp only [List.length_append]
      by_cases hq : i * sz + sz ≤ cr.length
      · rw [if_pos (by omega), if_pos hq]
      · rw [if_neg (by omega), if_neg hq]
theorem LF.set {α sz} {E : List AV → α → Prop} : ∀ {l cs}, LF sz E l cs → ∀ {i a c}, i < l.length → E c a → c.length = sz → LF sz E (l.set i a) (splice cs (i * sz) c)
  | [], _, _, i, a, c, hi, _, _ => by simp at hi
  | x :: l, _, ⟨c0, cr, h1, h2, h3, h4⟩, i, a, c, hi, he, hc => by
    subst h1
    cases i with
    | zero => exact ⟨c, cr, by unfold splice; simp [hc, ← h2], hc, he, h4⟩
    | succ i =>
      have := h4.set (i := i) (by simpa using hi) he hc
      refine ⟨c0, _, ?_, h2, h3, this⟩
      unfold splice
      rw [show (i + 1) * sz = c0.length + i * sz by rw [h2, Nat.add_mul]; omega, List.take_length_add_append, show c0.length + i * sz + c.length = c0.length + (i * sz + c.length) by omega, ← List.drop_drop (i := i * sz + c.length), List.drop_left]
      simp
theorem SF_LF {ok H} : ∀ {f cs}, SF ok H f cs ↔ LF 8 (S1 ok H) f.list cs
  | .nil, _ => Iff.rfl
  | .cons k v b e y z r, cs => by
    constructor
    · rintro ⟨va, vy, vz, cy, cz, cr, h1, h2, h3, h4, h5, h6, h7⟩
      exact ⟨[.I k, .I v, .I b, .I e.op, .I e.n, va, vy, vz], cr, by simp [h1], rfl, ⟨va, vy, vz, rfl, h2, ⟨cy, h3, h4⟩, cz, h5, h6⟩, SF_LF.1 h7⟩
    · rintro ⟨c, cr, h1, h2, ⟨va, vy, vz, rfl, h3, ⟨cy, h4, h5⟩, cz, h6, h7⟩, h8⟩
      exact ⟨va, vy, vz, cy, cz, cr, by simp [h1], h3, h4, h5, h6, h7, SF_LF.2 h8⟩
theorem SF_of {ok H} {l : List St1} {cs} : SF ok H (Sts.of l) cs ↔ LF 8 (S1 ok H) l cs := by rw [SF_LF, Sts.list_of]
theorem SlC.part {ok H v n sz cs} (h : SlC ok H v n sz cs) {i j : Nat} (hij : i ≤ j) (hj : j ≤ n) (hz : 0 < sz) {lo hi : Option AV} (h1 : bnd 0 lo = some i) (h2 : bnd n hi = some j) :
    ∃ v', aslice sz v lo hi none = some v' ∧ SlC ok H v' (j - i) sz ((cs.drop (i * sz)).take ((j - i) * sz)) ∧ v'.flat = true := by
  have hlen : ((cs.drop (i * sz)).take ((j - i) * sz)).length = (j - i) * sz := by
    have := Nat.mul_le_mul_right sz hj
    have e : (j - i) * sz = j * sz - i * sz := Nat.sub_mul _ _ _
    have := Nat.mul_le_mul_right sz hij
    simp [h.2.1]; omega
  have hn := h.1
  rcases h.2.2 with ⟨rfl, rfl | rfl⟩ | ⟨b, o, cap, rfl, ⟨q1, q2⟩, q3, q4⟩
  · have : j = 0 := by omega
    subst this
    have : i = 0 := by omega
    subst this
    have h2' : bnd 0 hi = some 0 := h2
    exact ⟨.nils, by simp only [aslice, h1, h2'], ⟨by omega, hlen, .inl ⟨rfl, .inl rfl⟩⟩, rfl⟩
  · have : j = 0 := by omega
    subst this
    have : i = 0 := by omega
    subst this
    have h2' : bnd 0 hi = some 0 := h2
    exact ⟨.esl, by simp only [aslice, h1, h2'], ⟨by omega, hlen, .inl ⟨rfl, .inr rfl⟩⟩, rfl⟩
  · have hL : ∀ o', (o' = o + i * sz ∨ j = i ∧ o' = o) → H.loadN b o' ((j - i) * sz) = some ((cs.drop (i * sz)).take ((j - i) * sz)) := by
      intro o' ho
      unfold AH.loadN at q4 ⊢
      obtain ⟨kk, hk, hs⟩ := Option.bind_eq_some_iff.1 q4
      rw [hk]
      show seg _ _ _ = _
      have hm1 := Nat.mul_le_mul_right sz hj
      have hm2 := Nat.mul_le_mul_right sz hij
      have e : (j - i) * sz = j * sz - i * sz := Nat.sub_mul _ _ _
      rcases ho with rfl | ⟨rfl, rfl⟩
      · rw [seg_seg hs (by omega)]
        unfold seg
        rw [if_pos (by rw [h.2.1]; omega)]
      · rw [Nat.sub_self, Nat.zero_mul]
        unfold seg at hs ⊢
        split at hs
        · rw [if_pos (by omega)]; simp
        · cases hs
    have fin : ∀ v', (∃ o' cap', v' = .sl b o' (j - i) cap' ∧ capOk (j - i) sz cap' ∧ (o' = o + i * sz ∨ j = i ∧ o' = o)) → SlC ok H v' (j - i) sz ((cs.drop (i * sz)).take ((j - i) * sz)) ∧ v'.flat = true := by
      rintro v' ⟨o', cap', rfl, g1, g2⟩
      exact ⟨⟨by omega, hlen, .inr ⟨b, o', cap', rfl, ⟨q1, g1⟩, q3, hL o' g2⟩⟩, rfl⟩
    cases cap with
    | ex c =>
      have q2' : n ≤ c := q2
      refine ⟨.sl b (if c = i then o else o + i * sz) (j - i) (.ex (c - i)), by simp only [aslice, h1, h2]; rw [if_pos ⟨hij, hj⟩], fin _ ⟨_, _, rfl, ?_, ?_⟩⟩
      · show j - i ≤ c - i; omega
      · by_cases hc : c = i
        · rw [if_pos hc]; right; omega
        · rw [if_neg hc]; exact .inl rfl
    | lb c z =>
      obtain ⟨g1, rfl⟩ := q2
      by_cases hi0 : i = 0
      · subst hi0
        refine ⟨.sl b o j (.lb c z), by simp only [aslice, h1, h2]; rw [if_pos ⟨hij, hj⟩]; simp, ?_⟩
        have := fin (.sl b o j (.lb c z)) ⟨o, .lb c z, by simp, ⟨by omega, rfl⟩, .inl (by simp)⟩
        exact this
      · by_cases hil : i < n
        · exact ⟨.sl b (o + i * z) (j - i) (.lb (c - i) z), by simp only [aslice, h1, h2]; rw [if_pos ⟨hij, hj⟩]; simp [hi0, hil], fin _ ⟨_, _, rfl, ⟨by omega, rfl⟩, .inl rfl⟩⟩
        · refine ⟨.esl, by simp only [aslice, h1, h2]; rw [if_pos ⟨hij, hj⟩]; simp [hi0, hil], ⟨by omega, hlen, .inl ⟨by omega, .inr rfl⟩⟩, rfl⟩
    | ro =>
      by_cases hi0 : i = 0
      · subst hi0
        refine ⟨.sl b o j .ro, by simp only [aslice, h1, h2]; rw [if_pos ⟨hij, hj⟩]; simp, ?_⟩
        have := fin (.sl b o j .ro) ⟨o, .ro, by simp, trivial, .inl (by simp)⟩
        exact this
      · by_cases hil : i < n
        · exact ⟨.sl b (o + i * sz) (j - i) .ro, by simp only [aslice, h1, h2]; rw [if_pos ⟨hij, hj⟩]; simp [hi0, hil], fin _ ⟨_, _, rfl, trivial, .inl rfl⟩⟩
        · refine ⟨.esl, by simp only [aslice, h1, h2]; rw [if_pos ⟨hij, hj⟩]; simp [hi0, hil], ⟨by omega, hlen, .inl ⟨by omega, .inr rfl⟩⟩, rfl⟩
theorem SV.part {ok H v f} (h : SV ok H v f) {i j : Nat} (hij : i ≤ j) (hj : j ≤ f.list.length) {lo hi : Option AV} (h1 : bnd 0 lo = some i) (h2 : bnd f.list.length hi = some j) :
    ∃ v', aslice 8 v lo hi none = some v' ∧ SV ok H v' (Sts.of ((f.list.drop i).take (j - i))) ∧ v'.flat = true := by
  obtain ⟨ca, a1, a2⟩ := h
  obtain ⟨v', b1, b2, b3⟩ := a1.part hij hj (by omega) h1 h2
  have hl : ((f.list.drop i).take (j - i)).length = j - i := by simp; omega
  refine ⟨v', b1, ⟨_, ?_, SF_of.2 ((SF_LF.1 a2).drop i |>.take (j - i))⟩, b3⟩
  rw [Sts.list_of, hl]; exact b2

def IV (ok : Nat → Prop) (H : AH) (v : AV) (l : List Int) : Prop := SlC ok H v l.length 1 (Ints l)
theorem IV.src {ok H v l} (h : IV ok H v l) : Src H v l := by
  refine ⟨h.1, ?_⟩
  rcases h.2.2 with ⟨h1, h2 | h2⟩ | ⟨b, o, c, rfl, h1, h2, h3⟩
  · exact .inl ⟨h2, List.eq_nil_of_length_eq_zero h1⟩
  · exact .inr (.inl ⟨h2, List.eq_nil_of_length_eq_zero h1⟩)
  · exact .inr (.inr ⟨b, o, c, rfl, h2, by simpa using h3⟩)
theorem IV.sees {ok H v l} (h : IV ok H v l) : SeesZ H v l := h.src.sees
theorem IV.mono {ok ok' : Nat → Prop} {H H' v l} (h : IV ok H v l) (hn : H.n ≤ H'.n) (hk : ∀ b, ok b → b < H.n → H'.bk b = H.bk b) (ho : ∀ b, ok b → b < H.n → ok' b) : IV ok' H' v l := SlC.mono h hn hk ho
theorem IV.ext {ok H H' v l} (h : IV ok H v l) (k : Ext H H') : IV ok H' v l := h.mono k.1 (fun b _ hb => k.2 b hb) (fun _ h _ => h)
theorem SlC.ext {ok H H' v n sz cs} (h : SlC ok H v n sz cs) (k : Ext H H') : SlC ok H' v n sz cs := h.mono k.1 (fun b _ hb => k.2 b hb) (fun _ h _ => h)
structure Tk where
  vars : List Int
  rest : Sts
deriving DecidableEq, Inhabited
def TC (ok : Nat → Prop) (H : AH) (c : List AV) (t : Tk) : Prop := ∃ vv vr, c = [vv, vr] ∧ IV ok H vv t.vars ∧ SV ok H vr t.rest
theorem TC.mono {ok ok' : Nat → Prop} {H H' c t} (h : TC ok H c t) (hn : H.n ≤ H'.n) (hk : ∀ b, ok b → b < H.n → H'.bk b = H.bk b) (ho : ∀ b, ok b → b < H.n → ok' b) : TC ok' H' c t := let ⟨a, b, h0, h1, h2⟩ := h; ⟨a, b, h0, h1.mono hn hk ho, h2.mono hn hk ho⟩
theorem TC.ext {ok H H' c t} (h : TC ok H c t) (k : Ext H H') : TC ok H' c t := h.mono k.1 (fun b _ hb => k.2 b hb) (fun _ h _ => h)
structure Bx where
  room : Int
  items : List Int
deriving DecidableEq, Inhabited
def BC (ok : Nat → Prop) (H : AH) (c : List AV) (b : Bx) : Prop := ∃ vi, c = [.I b.room, vi] ∧ IV ok H vi b.items
theorem BC.mono {ok ok' : Nat → Prop} {H H' c t} (h : BC ok H c t) (hn : H.n ≤ H'.n) (hk : ∀ b, ok b → b < H.n → H'.bk b = H.bk b) (ho : ∀ b, ok b → b < H.n → ok' b) : BC ok' H' c t := let ⟨a, h0, h1⟩ := h; ⟨a, h0, h1.mono hn hk ho⟩
theorem BC.ext {ok H H' c t} (h : BC ok H c t) (k : Ext H H') : BC ok H' c t := h.mono k.1 (fun b _ hb => k.2 b hb) (fun _ h _ => h)
def BV (ok : Nat → Prop) (H : AH) (v : AV) (l : List Bx) : Prop := ∃ ca, SlC ok H v l.length 2 ca ∧ LF 2 (BC ok H) l ca
theorem BV.mono {ok ok' : Nat → Prop} {H H' v l} (h : BV ok H v l) (hn : H.n ≤ H'.n) (hk : ∀ b, ok b → b < H.n → H'.bk b = H.bk b) (ho : ∀ b, ok b → b < H.n → ok' b) : BV ok' H' v l := let ⟨a, h0, h1⟩ := h; ⟨a, h0.mono hn hk ho, h1.imp (fun _ _ h => h.mono hn hk ho)⟩
theorem BV.ext {ok H H' c t} (h : BV ok H c t) (k : Ext H H') : BV ok H' c t := h.mono k.1 (fun b _ hb => k.2 b hb) (fun _ h _ => h)
theorem BV.alen {ok H v l} (h : BV ok H v l) : alen v = some l.length := let ⟨_, h1, _⟩ := h; h1.alen
theorem BV.flat {ok H v l} (h : BV ok H v l) : v.flat = true := let ⟨_, h1, _⟩ := h; h1.flat
theorem BV.big {ok H v l} (h : BV ok H v l) : l.length ≤ 8589934592 := let ⟨_, h1, _⟩ := h; h1.1
theorem BV.at {ok H v l} (h : BV ok H v l) {i : Nat} {x : Bx} (hi : l[i]? = some x) : ∃ b o cap vi, v = .sl b o l.length cap ∧ ok b ∧ b < H.n ∧ H.loadN b (o + i * 2) 2 = some [.I x.room, vi] ∧ IV ok H vi x.items := by
  obtain ⟨ca, h1, h2⟩ := h
  have hl := (List.getElem?_eq_some_iff.1 hi).1
  obtain ⟨b, o, cap, e1, e2, e3, e4⟩ := h1.at hl
  obtain ⟨c, e5, vi, rfl, e6⟩ := h2.get hi
  exact ⟨b, o, cap, vi, e1, e2, e3, by rw [e4 _ _ (by omega)]; exact e5, e6⟩
def vaB (b : Bx) : Bool := decide (1 ≤ b.room ∧ b.room ≤ 4 ∧ b.items.length ≤ b.room) && b.items.all isW
def vaBs (l : List Bx) : Bool := l.all vaB && decide (l.length ≤ 3)
def vaT (boxes : Int) (t : Tk) : Bool := decide (t.vars.length = 4) && t.vars.all isW && t.rest.list.all fun s => vaS boxes (Sts.of [s])
section
variable {ok : Nat → Prop} {H : AH} {K : AV → AH → Prop} {w : Fk K} {c : List AV} {x : Bx}
theorem K_iBoxValid (h : BC ok H c x) (k : K (.b (vaB x)) (H.push c)) : CallF Cd f_iBoxValid [.agg c] H K w := by
  obtain ⟨vi, rfl, h1⟩ := h
  rw [CallF_eq e_iBoxValid rfl]
  have ha := h1.alen
  have hb := h1.1
  have hw := (h1.ext (Ext.push H [.I x.room, vi])).sees
  unfold vaB at k
  generalize x.items.length = m at *
  by_cases c1 : 1 ≤ x.room <;> by_cases c2 : x.room ≤ 4 <;> by_cases c3 : (m : Int) ≤ x.room <;> simp (disch := omega) [load_push, ha, c1, c2, c3, K_iareWords hw] <;> simpa [c1, c2, c3] using k
end
end Go.Proofs.YtmecbehegmgbhaaGreat.AM
namespace Go.Proofs.YtmecbehegmgbhaaGreat.AM
set_option linter.unusedSimpArgs false
set_option linter.unusedVariables false
set_option maxRecDepth 100000
set_option maxHeartbeats 2000000
open Go
def cpS : Sts → Bool
  | .nil => true
  | .cons _ _ _ e y z r => cpE e && cpS y && cpS z && cpS r
def cpT (s : St1) : Bool := cpE s.e && cpS s.body && cpS s.els
theorem cpS_mem : ∀ {f : Sts}, cpS f = f.list.all cpT
  | .nil => rfl
  | .cons k v b e y z r => by simp only [cpS, Sts.list, List.all_cons, cpS_mem (f := r)]; rfl
theorem cpE_args {e : Ex} (h : cpE e = true) : e.args.list.length ≤ 1000 ∧ smE e.args = true := by
  have := smE_of_cp (f := .cons e.op e.n e.args .nil) (by simp only [cpF, Bool.and_true]; exact h)
  simp [smE] at this
  exact this
theorem cpE_of_pl {e : Ex} (h : plE e = true) : cpE e = true := by
  unfold plE at h
  simp at h
  unfold cpE cpE1
  simp [h]
theorem cpE_of_st {boxes nest k v b : Int} {e : Ex} {ny nz : Nat} {sy sz : Bool} (h : okS1 boxes nest k v b e ny nz sy sz = true) : cpE e = true := by
  unfold okS1 at h
  simp only [Bool.and_eq_true] at h
  have h := h.1
  unfold stV at h
  have a1 : okE 5 e = true → cpE e = true := cpE_of_ok
  have a2 : plE e = true → cpE e = true := cpE_of_pl
  by_cases k1 : k = 1
  · simp [k1] at h; exact a1 h.2
  by_cases k2 : k = 2
  · simp [k2] at h; exact a1 h.2
  by_cases k3 : k = 3
  · simp [k3] at h; exact a1 h.2
  by_cases k4 : k = 4
  · simp [k4] at h; exact a1 h.2
  by_cases k5 : k = 5
  · simp [k5] at h; exact a2 h.2
  by_cases k6 : k = 6
  · simp [k6] at h; exact a2 h.2
  by_cases k7 : k = 7
  · simp [k7] at h; exact a1 h.2
  simp [k1, k2, k3, k4, k5, k6, k7] at h
theorem cp_of_okS {boxes : Int} : ∀ {f : Sts} {nest : Int}, okS boxes nest f = true → cpS f = true
  | .nil, _, _ => rfl
  | .cons k v b e y z r, nest, h => by
    simp only [okS, Bool.and_eq_true] at h
    have h1 := cpE_of_st h.1
    have h2 := cp_of_okS h.2
    have h3 := h.1
    unfold okS1 at h3
    simp only [Bool.and_eq_true, Bool.or_eq_true, decide_eq_true_eq] at h3
    simp only [cpS, Bool.and_eq_true]
    rcases h3.2 with q | q
    · have := stV_leaf h3.1 q.1 q.2
      have e1 : y = .nil := by rw [← Sts.of_list y, List.eq_nil_of_length_eq_zero this.1]; rfl
      have e2 : z = .nil := by rw [← Sts.of_list z, List.eq_nil_of_length_eq_zero this.2]; rfl
      subst e1 e2
      exact ⟨⟨⟨h1, rfl⟩, rfl⟩, h2⟩
    · exact ⟨⟨⟨h1, cp_of_okS q.1.2⟩, cp_of_okS q.2⟩, h2⟩
theorem GrS.sl {base G v n sz cs B} (h : GrS base G v n sz cs B) : SlC (fun b => base ≤ b) G v n sz cs := h.slc
theorem GrS.sv {base G v cs B} {f : Sts} (h : GrS base G v f.list.length 8 cs B) (k : SF (fun b => base ≤ b ∧ b ≠ B) G f cs) : SV (fun b => base ≤ b) G v f :=
  ⟨cs, h.slc, k.mono (Nat.le_refl _) (fun _ _ _ => rfl) (fun _ h _ => h.1)⟩
theorem LF.snoc {α : Type} {sz : Nat} {E : (Nat → Prop) → AH → List AV → α → Prop} (mono : ∀ {ok ok' : Nat → Prop} {H H' : AH} {c a}, E ok H c a → H.n ≤ H'.n → (∀ b, ok b → b < H.n → H'.bk b = H.bk b) → (∀ b, ok b → b < H.n → ok' b) → E ok' H' c a)
    {base B : Nat} {G G1 : AH} {g : AV} {l : List α} {i : Nat} {x : α} {cs c : List AV} (hs : l[i]? = some x) (hg : GrS base G g i sz cs B) (he : LF sz (E (fun b => base ≤ b ∧ b ≠ B) G) (l.take i) cs)
    (hb : base ≤ G.n) (x1 : Ext G G1) (hc : c.length = sz) (hx : E (fun b => G.n ≤ b) G1 c x) (hi : i < 1000000) :
    ∃ g' G' B', aapp G1 sz g 1 c = some (g', G') ∧ GrS base G' g' (i + 1) sz (cs ++ c) B' ∧ LF sz (E (fun b => base ≤ b ∧ b ≠ B') G') (l.take (i + 1)) (cs ++ c) ∧ (∀ b, b < base → G'.bk b = G.bk b) ∧ G1.n ≤ G'.n ∧ g'.flat = true := by
  obtain ⟨g', G', B', a1, a2, a3, a4⟩ := (hg.ext x1).app (k := 1) (new := c) (by have := x1.1; omega) (by omega) (by omega)
  have hm : ∀ b, b ∈ grB g B → b = B ∧ base ≤ B ∧ B < G.n := fun b hb => hg.mem hb
  have hB : (B' = B ∧ base ≤ B ∧ B < G.n) ∨ G1.n = B' := by
    rcases a3 with q | q
    · exact .inl ⟨q.1, (hm _ q.2).2⟩
    · exact .inr q.symm
  have n1 := x1.1
  refine ⟨g', G', B', a1, a2, ?_, fun b hb' => ?_, a4.1, a2.flat⟩
  · rw [take_snoc hs]
    refine LF.app (he.imp fun c a h => mono h (by have := a4.1; omega) (fun b hb' h1 => ?_) (fun b hb' h1 => ⟨hb'.1, by omega⟩)) (LF.one (mono hx a4.1 (fun b hb' h1 => a4.2 b h1 (fun hm' => by have := hm b hm'; omega)) (fun b hb' h1 => by omega)) hc)
    rw [a4.2 b (by omega) (fun hm' => hb'.2 (hm b hm').1), x1.2 b h1]
  · rw [a4.2 b (by omega) (fun hm' => by have := hm b hm'; omega), x1.2 b (by omega)]
def CopyS (g : FuncId) (f : Sts) : Prop := ∀ {ok : Nat → Prop} {H : AH} {K : AV → AH → Prop} {w : Fk K} {v : AV}, SV ok H v f → cpS f = true → ctS f ≤ 100000 →
    (∀ v' H' cs B, GrS H.n H' v' f.list.length 8 cs B → SF (fun b => H.n ≤ b ∧ b ≠ B) H' f cs → Ext H H' → K v' H') → CallF Cd g [v] H K w
end Go.Proofs.YtmecbehegmgbhaaGreat.AM
namespace Go.Proofs.YtmecbehegmgbhaaGreat.AM
set_option linter.unusedSimpArgs false
set_option linter.unusedVariables false
set_option maxRecDepth 100000
set_option maxHeartbeats 2000000
open Go
theorem K_istmtsCopy_l {f : Sts} (ih : ∀ s ∈ f.list, CopyS f_istmtsCopy s.body ∧ CopyS f_istmtsCopy s.els) (hcp : cpS f = true) (hct : ctS f ≤ 100000) {base : Nat} {v : AV}
    {Q : Out → Env → AH → Prop} (m i : Nat) (him : i + m = f.list.length) {G : AH} {g : AV} {cs : List AV} {B : Nat} (hb : base ≤ G.n) (hv : SV (fun b => b < base) G v f) (hg : GrS base G g i 8 cs B)
    (he : LF 8 (S1 (fun b => base ≤ b ∧ b ≠ B) G) (f.list.take i) cs)
    (hQ : ∀ G' g' cs' B', GrS base G' g' f.list.length 8 cs' B' → SF (fun b => base ≤ b ∧ b ≠ B') G' f cs' → (∀ b, b < base → G'.bk b = G.bk b) → G.n ≤ G'.n → Q (.brk 0) [(9, .b false), (3, g'), (6, v), (7, .I f.list.length), (8, .I f.list.length)] G') :
    W Cd (.loop c_istmtsCopy_l0) [(3, g), (6, v), (7, .I f.list.length), (8, .I i)] G Q := by
  have hlc := len_ctS (f := f)
  induction m generalizing i G g cs B with
  | zero =>
    rw [W_loop_as c_istmtsCopy_l0.eq_1]
    have hi : i = f.list.length := by omega
    subst hi
    have := hv.big
    simp [hv.alen]
    rw [List.take_length] at he
    exact hQ G g cs B hg (SF_LF.2 he) (fun _ _ => rfl) (Nat.le_refl _)
  | succ m ihm =>
    rw [W_loop_as c_istmtsCopy_l0.eq_1]
    have hi : i < f.list.length := by omega
    obtain ⟨s, hs⟩ : ∃ s, f.list[i]? = some s := ⟨_, List.getElem?_eq_getElem hi⟩
    have hmem := List.mem_of_getElem? hs
    have hbig := hv.big
    obtain ⟨b, o, cap, c, rfl, ob, hbn, l1, s1⟩ := hv.at hs
    obtain ⟨va, vy, vz, rfl, ea, ey, ez⟩ := s1
    have hcm := ctS_mem hmem
    have hcps : cpT s = true := by rw [cpS_mem] at hcp; exact List.all_eq_true.1 hcp s hmem
    unfold cpT at hcps
    simp only [Bool.and_eq_true] at hcps
    generalize hL : f.list.length = L at *
    have hlt : (i : Int) < L := by omega
    have q0 : (G.push [.I s.k, .I s.v, .I s.b, .I s.e.op, .I s.e.n, va, vy, vz]).bk G.n = some ⟨[.I s.k, .I s.v, .I s.b, .I s.e.op, .I s.e.n, va, vy, vz], true⟩ := push_new
    have x0 := Ext.push G [.I s.k, .I s.v, .I s.b, .I s.e.op, .I s.e.n, va, vy, vz]
    simp (disch := omega) [hlt, l1, AH.store, push_put, load_bk q0]
    refine (ih s hmem).1 (ey.ext x0) hcps.1.2 (by omega) fun vy' H1 csy By gy sy x1 => ?_
    have q1 := (x1.2 G.n (by simp)).trans q0
    have n1 := x1.1
    simp only [push_n] at n1
    simp (disch := omega) [x1, load_bk q1]
    refine (ih s hmem).2 (ez.ext (x0.trans x1)) hcps.2 (by omega) fun vz' H2 csz Bz gz sz x2 => ?_
    have q2 := (x2.2 G.n (by omega)).trans q1
    have n2 := x2.1
    have w3 := loadN_bk (o := 3) (n := 3) q2
    have w3' : H2.loadN G.n 3 3 = some [.I s.e.op, .I s.e.n, va] := w3.trans rfl
    simp (disch := omega) [x2, w3']
    refine K_iexprCopy s.e.args (cpE_args hcps.1.1).2 (ea.ext ((x0.trans x1).trans x2)) (cpE_args hcps.1.1).1 fun va' H3 d3 x3 => ?_
    have q3 := (x3.2 G.n (by omega)).trans q2
    have n3 := x3.1
    have fy := gy.flat
    have fz := gz.flat
    have st1 : H3.store G.n 6 [vy'] = some (H3.put G.n (some ⟨[.I s.k, .I s.v, .I s.b, .I s.e.op, .I s.e.n, va, vy', vz], true⟩)) := store_bk q3 (by simp)
    have st2 : (H3.put G.n (some ⟨[.I s.k, .I s.v, .I s.b, .I s.e.op, .I s.e.n, va, vy', vz], true⟩)).store G.n 7 [vz'] = some (H3.put G.n (some ⟨[.I s.k, .I s.v, .I s.b, .I s.e.op, .I s.e.n, va, vy', vz'], true⟩)) := by
      rw [store_bk (put_same) (by simp), put_put]; rfl
    have st3 : (H3.put G.n (some ⟨[.I s.k, .I s.v, .I s.b, .I s.e.op, .I s.e.n, va, vy', vz'], true⟩)).store G.n 3 [.I s.e.op, .I s.e.n, va'] = some (H3.put G.n (some ⟨[.I s.k, .I s.v, .I s.b, .I s.e.op, .I s.e.n, va', vy', vz'], true⟩)) := by
      rw [store_bk (put_same) (by simp), put_put]; rfl
    have p5 : (H3.put G.n (some ⟨[.I s.k, .I s.v, .I s.b, .I s.e.op, .I s.e.n, va', vy', vz'], true⟩)).bk G.n = _ := put_same
    have y5 : Ext G (H3.put G.n (some ⟨[.I s.k, .I s.v, .I s.b, .I s.e.op, .I s.e.n, va', vy', vz'], true⟩)) := (((x0.trans x1).trans x2).trans x3).put (Nat.le_refl _)
    have hk5 : ∀ b, G.n + 1 ≤ b → b < H3.n → (H3.put G.n (some ⟨[.I s.k, .I s.v, .I s.b, .I s.e.op, .I s.e.n, va', vy', vz'], true⟩)).bk b = H3.bk b := fun b hb' _ => by rw [put_bk, if_neg (by omega)]
    have d5 := d3.mono (H' := H3.put G.n (some ⟨[.I s.k, .I s.v, .I s.b, .I s.e.op, .I s.e.n, va', vy', vz'], true⟩)) (ok' := fun b => G.n ≤ b) (Nat.le_refl _) (fun b h h' => hk5 b (by omega) h') (fun b h _ => by omega)
    have e5 := (((gy.sv sy).ext x2).ext x3).mono (H' := H3.put G.n (some ⟨[.I s.k, .I s.v, .I s.b, .I s.e.op, .I s.e.n, va', vy', vz'], true⟩)) (ok' := fun b => G.n ≤ b) (Nat.le_refl _) (fun b h h' => hk5 b (by simpa using h) h') (fun b h _ => by simp at h; omega)
    have f5 := ((gz.sv sz).ext x3).mono (H' := H3.put G.n (some ⟨[.I s.k, .I s.v, .I s.b, .I s.e.op, .I s.e.n, va', vy', vz'], true⟩)) (ok' := fun b => G.n ≤ b) (Nat.le_refl _) (fun b h h' => hk5 b (by omega) h') (fun b h _ => by omega)
    simp (disch := omega) [x3, flat_cells fy, flat_tup fy, flat_cells fz, flat_tup fz, st1, st2, st3, loadN_bk p5]
    generalize hH6 : H3.put G.n (some ⟨[.I s.k, .I s.v, .I s.b, .I s.e.op, .I s.e.n, va', vy', vz'], true⟩) = H6 at *
    have n6 : H3.n = H6.n := by rw [← hH6]; rfl
    have x7 := Ext.push H6 [.I s.k, .I s.v, .I s.b, .I s.e.op, .I s.e.n, va', vy', vz']
    obtain ⟨g', G', B', a1, a2, a3, a4, a5, a6⟩ := LF.snoc (E := S1) (fun h => h.mono) hs hg he hb (y5.trans x7) rfl
      (show S1 (fun b => G.n ≤ b) (H6.push [.I s.k, .I s.v, .I s.b, .I s.e.op, .I s.e.n, va', vy', vz']) [.I s.k, .I s.v, .I s.b, .I s.e.op, .I s.e.n, va', vy', vz'] s from ⟨va', vy', vz', rfl, d5.ext x7, e5.ext x7, f5.ext x7⟩) (by omega)
    simp (disch := omega) [loadN_push, a1, n6]
    simp only [push_n] at a5
    have := ihm (i + 1) (by omega) (G := G') (by omega) (hv.mono (by omega) (fun b hb' _ => a4 b hb') (fun _ h _ => h)) a2 a3 (fun G2 g2 cs2 B2 u1 u2 u3 u4 => hQ G2 g2 cs2 B2 u1 u2 (fun b hb' => (u3 b hb').trans (a4 b hb')) (by omega))
    simpa using this
theorem K_istmtsCopy (f : Sts) : CopyS f_istmtsCopy f := by
  induction f using Sts.ind with
  | h f ih =>
  intro ok H K w v h hcp hct k
  rw [CallF_eq e_istmtsCopy rfl]
  have hbig := h.big
  simp (disch := omega) [h.alen]
  have := K_istmtsCopy_l ih hcp hct (Q := ?_) f.list.length 0 (by omega) (base := H.n) (G := H) (g := .nils) (cs := []) (B := H.n) (v := v) (Nat.le_refl _)
    (h.mono (Nat.le_refl _) (fun b _ hb => rfl) (fun b _ hb => hb)) GrS.nils rfl ?_
  · simpa using this
  · intro G g cs B u1 u2 u3 u4
    simp
    exact k g G cs B u1 u2 ⟨u4, u3⟩
theorem app_newG {H : AH} {b : Nat} {l : List Int} (hb : H.bk b = some ⟨[], true⟩) (hbn : b < H.n) {base : Nat} (hbb : base ≤ b) (hl : l.length ≤ 1000000) : ∃ v H' B, aapp H 1 (.sl b 0 0 (.ex 0)) l.length (Ints l) = some (v, H') ∧ Ext H H' ∧ GrS base H' v l.length 1 (Ints l) B ∧ v.flat = true ∧ (B = b ∨ B = H.n) := by
  by_cases h0 : l.length = 0
  · have : l = [] := List.eq_nil_of_length_eq_zero h0
    subst this
    exact ⟨.sl b 0 0 (.ex 0), H, b, by simp [aapp], Ext.refl _, ⟨by simp, rfl, .inr ⟨hbb, hbn, .inl ⟨rfl, hb⟩⟩⟩, rfl, .inl rfl⟩
  · refine ⟨.sl H.n 0 l.length (.lb l.length 1), H.push (Ints l), H.n, ?_, Ext.push _ _, ⟨hl, by rw [Ints_len]; omega, .inr ⟨by omega, Nat.lt_succ_self _, .inr ⟨l.length, [], rfl, Nat.le_refl _, by simp, by rw [List.append_nil]; exact push_new⟩⟩⟩, rfl, .inr rfl⟩
    unfold aapp
    simp only [if_neg h0, Nat.zero_add, Nat.zero_mul]
    rw [if_neg (show ¬ big < l.length by unfold big; omega)]
    have hs : H.loadN b 0 0 = some [] := by rw [loadN_bk hb]; rfl
    simp only [hs, List.nil_append]
    rw [if_neg (by omega)]
theorem GrS.iv {base G v l B} (h : GrS base G v l.length 1 (Ints l) B) : IV (fun b => base ≤ b) G v l := h.slc
theorem GrS.ivB {base G v n sz cs B} (h : GrS base G v n sz cs B) {ok : Nat → Prop} (hok : base ≤ B → B < G.n → ok B) : SlC ok G v n sz cs := by
  obtain ⟨h1, h2, h3⟩ := h
  refine ⟨by omega, h2, ?_⟩
  rcases h3 with ⟨rfl, h4⟩ | ⟨h4, h5, ⟨rfl, h6⟩ | ⟨c, ex, rfl, h7, h8, h9⟩⟩
  · exact .inl ⟨h4, .inl rfl⟩
  · exact .inr ⟨B, 0, _, rfl, ⟨hok h4 h5, Nat.le_refl _⟩, h5, by rw [loadN_bk h6]; exact seg_self h2⟩
  · exact .inr ⟨B, 0, _, rfl, ⟨hok h4 h5, h7, rfl⟩, h5, by rw [loadN_bk h9]; exact seg_app h2⟩
theorem K_cloneG {H : AH} {K : AV → AH → Prop} {w : Fk K} {v : AV} {l : List Int} (h : Src H v l) (hl : l.length ≤ 1000000) (k : ∀ v' H' B, GrS H.n H' v' l.length 1 (Ints l) B → Ext H H' → K v' H') : CallF Cd f_slices_Clone_int_int [v] H K w := by
  rw [CallF_eq e_slices_Clone_int_int rfl]
  have e1 := (h.ext (Ext.push H [])).elems
  have e2 := h.sees.1
  obtain ⟨h0, ⟨rfl, rfl⟩ | h'⟩ := h
  · simp
    exact k _ H 0 GrS.nils (Ext.refl _)
  · obtain ⟨v', H', B, a1, a2, a3, a4, _⟩ := app_newG (l := l) (push_new (H := H) (cs := [])) (Nat.lt_succ_self _) (Nat.le_refl _) hl
    rcases h' with ⟨rfl, rfl⟩ | ⟨b1, o1, c1, rfl, _⟩
    · simp only [List.length_nil] at a1
      simp [-AM.elems, e1, e2, a1]
      exact k _ _ B a3 ((Ext.push _ _).trans a2)
    · simp [-AM.elems, e1, e2, a1]
      exact k _ _ B a3 ((Ext.push _ _).trans a2)
end Go.Proofs.YtmecbehegmgbhaaGreat.AM
namespace Go.Proofs.YtmecbehegmgbhaaGreat.AM
set_option linter.unusedSimpArgs false
set_option linter.unusedVariables false
set_option maxRecDepth 100000
set_option maxHeartbeats 2000000
open Go
theorem all_dropB {α : Type} {l : List α} {p : α → Bool} {i : Nat} {s : α} (h : l[i]? = some s) : (l.drop i).all p = (p s && (l.drop (i + 1)).all p) := by
  obtain ⟨hi, rfl⟩ := List.getElem?_eq_some_iff.1 h
  rw [List.drop_eq_getElem_cons hi, List.all_cons]
theorem K_iboxesValid_l {l : List Bx} {ok : Nat → Prop} {K : AV → AH → Prop} {v : AV} {Q : Out → Env → AH → Prop} (h1 : ∀ G, BV ok G v l → Q (.brk 0) [(8, .b false), (0, v), (5, v), (6, .I l.length), (7, .I l.length)] G = K (.b (decide (l.length ≤ 3))) G) (h2 : ∀ e H, Q .ret e H = bindO (get e 2) fun v => K v H)
    (m i : Nat) (hm : i + m = l.length) {H : AH} (h : BV ok H v l) (k : ∀ H', Ext H H' → K (.b ((l.drop i).all vaB && decide (l.length ≤ 3))) H') :
    W Cd (.loop c_iboxesValid_l0) [(0, v), (5, v), (6, .I l.length), (7, .I i)] H Q := by
  induction m generalizing i H with
  | zero =>
    rw [W_loop_as c_iboxesValid_l0.eq_1]
    have hi : i = l.length := by omega
    subst hi
    have := k H (Ext.refl _)
    rw [List.drop_length] at this
    simp
    rw [h1 H h]
    simpa using this
  | succ m ihm =>
    rw [W_loop_as c_iboxesValid_l0.eq_1]
    have hi : i < l.length := by omega
    obtain ⟨s, hs⟩ : ∃ s, l[i]? = some s := ⟨_, List.getElem?_eq_getElem hi⟩
    have hbig := h.big
    obtain ⟨b, o, cap, vi, rfl, ob, hbn, l1, iv⟩ := h.at hs
    rw [all_dropB hs] at k
    generalize hL : l.length = L at *
    have hlt : (i : Int) < L := by omega
    have x0 := Ext.push H [.I s.room, vi]
    simp (disch := omega) [hlt, l1, AH.store, push_put, loadN_push]
    refine K_iBoxValid (x := s) ⟨vi, rfl, iv.ext x0⟩ ?_
    have x1 := x0.trans (Ext.push (H.push [.I s.room, vi]) [.I s.room, vi])
    cases hok : vaB s with
    | false =>
      simp [h2]
      rw [hok] at k
      exact k _ x1
    | true =>
      rw [hok, Bool.true_and] at k
      simp (disch := omega)
      have := ihm (i + 1) (by omega) (h.ext x1) (fun H' x => k H' (x1.trans x))
      simpa using this
theorem dec_nat3 {n : Nat} : decide ((n : Int) ≤ 3) = decide (n ≤ 3) := by
  by_cases h : n ≤ 3
  · have : (n : Int) ≤ 3 := by omega
    simp [h, this]
  · have : ¬ (n : Int) ≤ 3 := by omega
    simp [h, this]
section
variable {ok : Nat → Prop} {H : AH} {K : AV → AH → Prop} {w : Fk K} {v : AV} {l : List Bx}
theorem K_iboxesValid (h : BV ok H v l) (k : ∀ H', Ext H H' → K (.b (vaBs l)) H') : CallF Cd f_iboxesValid [v] H K w := by
  rw [CallF_eq e_iboxesValid rfl]
  have hbig := h.big
  simp (disch := omega) [h.alen]
  have := K_iboxesValid_l (K := K) (l := l) (Q := ?_) ?_ ?_ l.length 0 (by omega) h k
  · simpa using this
  · intro G hG; simp [hG.alen, dec_nat3]
  · intros; simp
end
theorem take_one {α : Type} {l : List α} {i : Nat} {s : α} (h : l[i]? = some s) : (l.drop i).take 1 = [s] := by
  obtain ⟨hi, rfl⟩ := List.getElem?_eq_some_iff.1 h
  rw [List.drop_eq_getElem_cons hi]; rfl
theorem K_itaskValid_l {t : Tk} {ok : Nat → Prop} {K : AV → AH → Prop} {vv vr : AV} {P : Nat} {boxes : Int} (hct : ctS t.rest ≤ 100000) {Q : Out → Env → AH → Prop} (h1 : ∀ e G, Q (.brk 0) e G = K (.b true) G) (h2 : ∀ e H, Q .ret e H = bindO (get e 4) fun v => K v H)
    (m i : Nat) (hm : i + m = t.rest.list.length) {H : AH} (hP : P < H.n) (gP : H.bk P = some ⟨[vv, vr], true⟩) (h : SV ok H vr t.rest) (k : ∀ H', Ext H H' → K (.b ((t.rest.list.drop i).all fun s => vaS boxes (Sts.of [s]))) H') :
    W Cd (.loop c_itaskValid_l0) [(1, .I boxes), (2, .ptr P 0), (18, .I t.rest.list.length), (19, .I i)] H Q := by
  have hlc := len_ctS (f := t.rest)
  induction m generalizing i H with
  | zero =>
    rw [W_loop_as c_itaskValid_l0.eq_1]
    have hi : i = t.rest.list.length := by omega
    subst hi
    have := k H (Ext.refl _)
    rw [List.drop_length] at this
    simp [h1]
    simpa using this
  | succ m ihm =>
    rw [W_loop_as c_itaskValid_l0.eq_1]
    have hi : i < t.rest.list.length := by omega
    obtain ⟨s, hs⟩ : ∃ s, t.rest.list[i]? = some s := ⟨_, List.getElem?_eq_getElem hi⟩
    have hcm := ctS_mem (List.mem_of_getElem? hs)
    have hbig := h.big
    obtain ⟨v', a1, a2, a3⟩ := h.part (i := i) (j := i + 1) (lo := some (.I i)) (hi := some (.I (i + 1 : Nat))) (by omega) (by omega) (by simp [bnd, aint]) (by simp [bnd, aint]; omega)
    rw [show i + 1 - i = 1 by omega, take_one hs] at a2
    have e1 : ((i + 1 : Nat) : Int) = (i : Int) + 1 := by omega
    rw [e1] at a1
    rw [all_dropB hs] at k
    generalize hL : t.rest.list.length = L at *
    have hlt : (i : Int) < L := by omega
    simp (disch := omega) [hlt, load_bk gP, a1]
    refine K_istmtsValid a2 (by rw [ctS_of]; simp [ctT]; omega) fun H1 x1 => ?_
    cases hok : vaS boxes (Sts.of [s]) with
    | false =>
      simp [h2]
      rw [hok] at k
      exact k _ x1
    | true =>
      rw [hok, Bool.true_and] at k
      simp (disch := omega)
      have := ihm (i + 1) (by omega) (by have := x1.1; omega) ((x1.2 P hP).trans gP) (h.ext x1) (fun H' x => k H' (x1.trans x))
      simpa using this
section
variable {ok : Nat → Prop} {H : AH} {K : AV → AH → Prop} {w : Fk K} {c : List AV} {t : Tk} {boxes : Int}
theorem K_itaskValid (h : TC ok H c t) (hct : ctS t.rest ≤ 100000) (k : ∀ H', Ext H H' → K (.b (vaT boxes t)) H') : CallF Cd f_itaskValid [.agg c, .I boxes] H K w := by
  obtain ⟨vv, vr, rfl, h1, h2⟩ := h
  have x0 := Ext.push H [vv, vr]
  have a1 := h1.alen
  have a2 := h2.alen
  have b1 := h1.1
  have b2 := h2.big
  have hw := fun (K : AV → AH → Prop) (w : Fk K) => K_iareWords (K := K) (w := w) (h1.ext x0).sees
  rw [CallF_eq e_itaskValid rfl]
  unfold vaT at k
  by_cases c1 : t.vars.length = 4
  rotate_left
  · have c1' : ¬ (t.vars.length : Int) = 4 := by omega
    simp (disch := omega) [load_push, a1, c1']
    simpa [c1] using k _ x0
  cases c2 : t.vars.all isW with
  | false =>
    rw [c2] at hw
    simp (disch := omega) [load_push, a1, c1, hw]
    simpa [c1, c2] using k _ x0
  | true =>
    rw [c2] at hw k
    simp (disch := omega) [load_push, a1, c1, hw, a2]
    have := K_itaskValid_l (K := K) (t := t) (boxes := boxes) hct (Q := ?_) ?_ ?_ t.rest.list.length 0 (by omega) (by simp) (push_new (H := H) (cs := [vv, vr])) (h2.ext x0) (fun H' x => by simpa [c1] using k H' (x0.trans x))
    · simpa using this
    · intros; simp
    · intros; simp
end
end Go.Proofs.YtmecbehegmgbhaaGreat.AM
namespace Go.Proofs.YtmecbehegmgbhaaGreat.AM
set_option linter.unusedSimpArgs false
set_option linter.unusedVariables false
set_option maxRecDepth 100000
set_option maxHeartbeats 2000000
open Go
theorem GrS.store {base G v n sz cs B} (h : GrS base G v n sz cs B) {i : Nat} (hi : i < n) {c : List AV} (hc : c.length = sz) :
    ∃ cap G', v = .sl B 0 n cap ∧ G.store B (i * sz) c = some G' ∧ GrS base G' v n sz (splice cs (i * sz) c) B ∧ Only [B] G G' ∧ base ≤ B ∧ B < G.n := by
  obtain ⟨h1, h2, h3⟩ := h
  have hm : (i + 1) * sz ≤ n * sz := Nat.mul_le_mul_right sz hi
  rw [Nat.add_mul] at hm
  have hl : (splice cs (i * sz) c).length = n * sz := by unfold splice; rw [List.length_append, List.length_append, List.length_take, List.length_drop, h2, hc]; omega
  rcases h3 with ⟨rfl, rfl⟩ | ⟨h4, h5, ⟨rfl, h6⟩ | ⟨cc, ex, rfl, h7, h8, h9⟩⟩
  · omega
  · have st := store_bk (o := i * sz) (vs := c) h6 (by omega)
    exact ⟨_, _, rfl, st, ⟨h1, hl, .inr ⟨h4, h5, .inl ⟨rfl, put_same⟩⟩⟩, Only.refl.put (by simp), h4, h5⟩
  · have st := store_bk (o := i * sz) (vs := c) h9 (by simp; omega)
    refine ⟨_, _, rfl, st, ⟨h1, hl, .inr ⟨h4, h5, .inr ⟨cc, ex, rfl, h7, h8, ?_⟩⟩⟩, Only.refl.put (by simp), h4, h5⟩
    rw [put_same]
    have : splice (cs ++ ex) (i * sz) c = splice cs (i * sz) c ++ ex := by
      unfold splice
      rw [List.take_append_of_le_length (by omega), List.drop_append_of_le_length (by omega)]; simp
    rw [this]
theorem Ints_snoc {l : List Int} {x : Int} : Ints l ++ [.I x] = Ints (l ++ [x]) := by simp [Ints]
section
variable {ok : Nat → Prop} {H : AH} {K : AV → AH → Prop} {w : Fk K} {c : List AV} {b : Bx} {x : Int}
end
end Go.Proofs.YtmecbehegmgbhaaGreat.AM
namespace Go.Proofs.YtmecbehegmgbhaaGreat.AM
set_option linter.unusedSimpArgs false
set_option linter.unusedVariables false
set_option maxRecDepth 100000
set_option maxHeartbeats 2000000
open Go
theorem SV.tail {ok H v f} (h : SV ok H v f) {s : St1} {r : List St1} (hr : f.list = s :: r) : ∃ v', aslice 8 v (some (.I 1)) none none = some v' ∧ SV ok H v' (Sts.of r) ∧ v'.flat = true := by
  obtain ⟨v', a1, a2, a3⟩ := h.part (i := 1) (j := f.list.length) (lo := some (.I 1)) (hi := none) (by rw [hr]; simp) (Nat.le_refl _) (by simp [bnd, aint]) rfl
  refine ⟨v', a1, ?_, a3⟩
  rw [hr] at a2
  simpa using a2
section
variable {ok : Nat → Prop} {H : AH} {K : AV → AH → Prop} {w : Fk K} {c : List AV} {t : Tk} {s : St1} {r : List St1}
end
def rdT (t : Tk) (many : Nat) : Bool :=
  match t.rest.list with
  | [] => true
  | s :: _ => decide (s.k ≠ 4 ∧ s.k ≠ 5) || decide (s.b < many)
section
variable {ok : Nat → Prop} {H : AH} {K : AV → AH → Prop} {w : Fk K} {c : List AV} {t : Tk} {s : St1} {r : List St1}
theorem SV.head {H : AH} {v : AV} {f : Sts} (h : SV ok H v f) (hr : f.list = s :: r) : ∃ b o cap c, v = .sl b o f.list.length cap ∧ ok b ∧ b < H.n ∧ H.loadN b o 8 = some c ∧ S1 ok H c s := by
  obtain ⟨b, o, cap, c, h1, h2, h3, h4, h5⟩ := h.at (i := 0) (s := s) (by rw [hr]; rfl)
  exact ⟨b, o, cap, c, h1, h2, h3, by simpa using h4, h5⟩
end
end Go.Proofs.YtmecbehegmgbhaaGreat.AM
namespace Go.Proofs.YtmecbehegmgbhaaGreat.AM
set_option linter.unusedSimpArgs false
set_option linter.unusedVariables false
set_option maxRecDepth 100000
set_option maxHeartbeats 2000000
open Go
def blkR (s : St1) (r : List St1) (x : Int) : Sts :=
  if s.k = 2 then Sts.of ((if x ≠ 0 then s.body else s.els).list ++ r) else if x ≠ 0 then Sts.of (s.body.list ++ (s :: r)) else Sts.of r
section
variable {ok : Nat → Prop} {H : AH} {K : AV → AH → Prop} {w : Fk K} {c : List AV} {t : Tk} {s : St1} {r : List St1}
end
end Go.Proofs.YtmecbehegmgbhaaGreat.AM
namespace Go.Proofs.YtmecbehegmgbhaaGreat.AM
set_option linter.unusedSimpArgs false
set_option linter.unusedVariables false
set_option maxRecDepth 100000
set_option maxHeartbeats 2000000
open Go
def talkP (t : Tk) (bs : List Bx) (s : St1) (r : List St1) : Tk × List Bx × Int :=
  match bs[s.b.toNat]? with
  | none => (t, bs, 3)
  | some b =>
    if s.k = 4 then
      if b.items.length < b.room then (⟨t.vars, Sts.of r⟩, bs.set s.b.toNat ⟨b.room, b.items ++ [evE t.vars s.e]⟩, 1) else (t, bs, 3)
    else match b.items with
      | [] => (t, bs, 3)
      | y :: q => (⟨t.vars.set s.v.toNat y, Sts.of r⟩, bs.set s.b.toNat ⟨b.room, q⟩, 1)
theorem GrS.bv {base G v l cs B} (h : GrS base G v l.length 2 cs B) (k : LF 2 (BC (fun b => base ≤ b ∧ b ≠ B) G) l cs) : BV (fun b => base ≤ b) G v l :=
  ⟨cs, h.slc, k.imp fun _ _ h => h.mono (Nat.le_refl _) (fun _ _ _ => rfl) (fun _ h _ => h.1)⟩
section
variable {ok : Nat → Prop} {H : AH} {K : AV → AH → Prop} {w : Fk K} {c : List AV} {t : Tk} {s : St1} {r : List St1} {bs : List Bx} {vb : AV}
end
end Go.Proofs.YtmecbehegmgbhaaGreat.AM
namespace Go.Proofs.YtmecbehegmgbhaaGreat.AM
set_option linter.unusedSimpArgs false
set_option linter.unusedVariables false
set_option maxRecDepth 100000
set_option maxHeartbeats 2000000
open Go
def stepP (t : Tk) (bs : List Bx) : Tk × List Bx × List Int × Int :=
  match t.rest.list with
  | [] => (t, bs, [], 4)
  | s :: r =>
    if s.k = 4 ∨ s.k = 5 then ((talkP t bs s r).1, (talkP t bs s r).2.1, [], (talkP t bs s r).2.2)
    else if s.k = 2 ∨ s.k = 3 then (⟨t.vars, blkR s r (evE t.vars s.e)⟩, bs, [], 1)
    else if s.k = 1 then (⟨t.vars.set s.v.toNat (evE t.vars s.e), Sts.of r⟩, bs, [], 1)
    else if s.k = 6 then (⟨t.vars, Sts.of r⟩, bs, [], 2)
    else (⟨t.vars, Sts.of r⟩, bs, [evE t.vars s.e], 1)
theorem vaS_one {boxes : Int} {s : St1} (h : vaS boxes (Sts.of [s]) = true) : okT boxes 3 s = true ∧ ctT s ≤ 16 := by
  unfold vaS at h
  rw [okS_mem, Sts.list_of, ctS_of] at h
  simp at h
  exact h
theorem okT_facts {boxes nest : Int} {s : St1} (h : okT boxes nest s = true) : (1 ≤ s.k ∧ s.k ≤ 7) ∧ (s.k ≠ 5 → s.k ≠ 6 → okE 5 s.e = true) ∧ (s.k = 1 ∨ s.k = 5 → 0 ≤ s.v ∧ s.v < 4) ∧ (s.k = 4 ∨ s.k = 5 → 0 ≤ s.b ∧ s.b < boxes) ∧ (s.k = 4 → s.v = 0) := by
  unfold okT okS1 at h
  simp only [Bool.and_eq_true] at h
  have h := h.1
  unfold stV at h
  by_cases k1 : s.k = 1
  · simp [k1] at h ⊢; exact ⟨h.2, by omega⟩
  by_cases k2 : s.k = 2
  · simp [k2] at h ⊢; exact h.2
  by_cases k3 : s.k = 3
  · simp [k3] at h ⊢; exact h.2
  by_cases k4 : s.k = 4
  · simp [k4] at h ⊢; exact ⟨h.2, by omega⟩
  by_cases k5 : s.k = 5
  · simp [k5] at h ⊢; omega
  by_cases k6 : s.k = 6
  · simp [k6] at h ⊢
  by_cases k7 : s.k = 7
  · simp [k7] at h ⊢; exact h.2
  simp [k1, k2, k3, k4, k5, k6, k7] at h
theorem vaT_facts {boxes : Int} {t : Tk} (h : vaT boxes t = true) : t.vars.length = 4 ∧ t.vars.all isW = true ∧ (∀ s ∈ t.rest.list, okT boxes 3 s = true ∧ ctT s ≤ 16) ∧ cpS t.rest = true := by
  unfold vaT at h
  simp only [Bool.and_eq_true, decide_eq_true_eq] at h
  have h3 : ∀ s ∈ t.rest.list, okT boxes 3 s = true ∧ ctT s ≤ 16 := fun s hs => vaS_one (List.all_eq_true.1 h.2 s hs)
  refine ⟨h.1.1, h.1.2, h3, ?_⟩
  refine cp_of_okS (boxes := boxes) (nest := 3) ?_
  rw [okS_mem, List.all_eq_true]
  exact fun s hs => (h3 s hs).1
theorem IV.nilp {ok H v} (h : v = .nils ∨ v = .esl) : IV ok H v [] := ⟨by simp, rfl, .inl ⟨rfl, h⟩⟩
section
variable {ok : Nat → Prop} {H : AH} {K : AV → AH → Prop} {w : Fk K} {c : List AV} {t : Tk} {s : St1} {r : List St1} {bs : List Bx} {vb : AV}
end
end Go.Proofs.YtmecbehegmgbhaaGreat.AM
namespace Go.Proofs.YtmecbehegmgbhaaGreat.AM
set_option linter.unusedSimpArgs false
set_option linter.unusedVariables false
set_option maxRecDepth 100000
set_option maxHeartbeats 2000000
open Go
section
variable {H : AH} {K : AV → AH → Prop} {w : Fk K}
theorem T_wsameInts_l {a b : AV} {l : List Int} (ha : SeesZ H a l) (hb : SeesZ H b l) {Q : Out → Env → AH → Prop}
    (h1 : ∀ e, Q (.brk 0) e H) (m i : Nat) (hm : i + m = l.length) : W Cd (.loop c_wsameInts_l0) [(0, a), (1, b), (5, .I i)] H Q := by
  have hbig := ha.2.1
  induction m generalizing i with
  | zero =>
    rw [W_loop_as c_wsameInts_l0.eq_1]
    have : ¬ (i : Int) < l.length := by omega
    simp [this, h1, ha.1]
  | succ m ih =>
    rw [W_loop_as c_wsameInts_l0.eq_1]
    have hi : i < l.length := by omega
    obtain ⟨b1, o1, s1, _, l1⟩ := ha.at hi
    obtain ⟨b2, o2, s2, _, l2⟩ := hb.at hi
    have hlt : (i : Int) < l.length := by omega
    have hr := ih (i + 1) (by omega)
    simp (disch := omega) [hlt, ha.1, s1, s2, l1, l2]
    simpa using hr
theorem T_wsameInts {a b : AV} {l : List Int} (ha : SeesZ H a l) (hb : SeesZ H b l) (k : K (.b true) H) : CallF Cd f_wsameInts [a, b] H K w := by
  rw [CallF_eq e_wsameInts rfl]
  simp [ha.1, hb.1]
  have := T_wsameInts_l ha hb (Q := ?_) ?_ l.length 0 (by omega)
  · simpa using this
  · intros; simpa using k
end
section
variable {H : AH} {K : AV → AH → Prop} {w : Fk K} {o1 o2 : Nat → Prop}
end
end Go.Proofs.YtmecbehegmgbhaaGreat.AM
namespace Go.Proofs.YtmecbehegmgbhaaGreat.AM
set_option linter.unusedSimpArgs false
set_option linter.unusedVariables false
set_option maxRecDepth 100000
set_option maxHeartbeats 2000000
open Go
theorem Ext.st {r : Nat} {H H' : AH} (h : Ext H H') : St r H H' := ⟨h.1, fun b hb _ => h.2 b hb⟩
theorem Rdx.ext {H H' : AH} {r : Nat} {m : Int} (h : Rdx H r m) (k : Ext H H') : Rdx H' r m := h.same k.1 fun b hb => k.2 b (by have := h.lt; omega)
theorem DE.st {base r : Nat} {H H' : AH} {v a} (h : DE base H v a) (k : St r H H') (hr : r < base) : DE base H' v a := h.mono k.1 (fun b hb hb2 => k.2 b hb2 (by omega)) (Nat.le_refl _)
theorem EV.st {base r : Nat} {H H' : AH} {v a} (h : EV (fun b => base ≤ b) H v a) (k : St r H H') (hr : r < base) : EV (fun b => base ≤ b) H' v a := h.mono k.1 (fun b hb hb2 => k.2 b hb2 (by omega)) (fun _ h _ => h)
theorem St.put_new {r b : Nat} {H H' : AH} {o : Option Blk} (h : St r H H') (hb : H.n ≤ b) : St r H (H'.put b o) := ⟨h.1, fun x hx hr => by rw [put_bk, if_neg (by omega)]; exact h.2 x hx hr⟩
section
variable {H : AH} {K : AV → AH → Prop} {r : Nat} {w : Fk K} {m : Int}
theorem K_sl91Op (h : Rdx H r m) (hm : m ≤ 1000000000000) (k : ∀ x H', 1 ≤ x ∧ x ≤ 12 → Rdx H' r (m + 1) → St r H H' → K (.I x) H') : CallF Cd f_sl91Op [.ptr r 0] H K w := by
  rw [CallF_eq e_sl91Op rfl]
  simp
  refine P_pick h (by omega) (by omega) fun x0 H0 hx0 hR0 hS0 => ?_
  simp (disch := omega)
  exact k _ _ (by omega) hR0 hS0
theorem K_sl91Leaf (h : Rdx H r m) (hm : m ≤ 1000000000000) (k : ∀ op n v H', DE H.n H' v .nil → Rdx H' r (m + 2) → St r H H' → K (.agg [.I op, .I n, v]) H') : CallF Cd f_sl91Leaf [.ptr r 0] H K w := by
  rw [CallF_eq e_sl91Leaf rfl]
  have hr := h.lt
  simp
  refine P_pick h.push (by omega) (by omega) fun x0 H0 hx0 hR0 hS0 => ?_
  have g0 : H0.bk H.n = some ⟨[.I 0, .I 0, .nils], true⟩ := hS0.at (by simp) (by omega) push_new
  have S0 : St r H H0 := (St.push St.refl).trans hS0
  have n0 := hS0.1
  simp only [push_n] at n0
  have fin : ∀ (op n : Int) (v : AV) (H1 H2 : AH), St r H0 H1 → Rdx H1 r (m + 2) → DE H1.n H2 v .nil → Ext H1 H2 → ∃ H3, H2.store H.n 0 [.I op, .I n, v] = some H3 ∧ H3.loadN H.n 0 3 = some [.I op, .I n, v] ∧ K (.agg [.I op, .I n, v]) H3 := by
    intro op n v H1 H2 hS hR d x
    have n1 := hS.1
    have g1 : H2.bk H.n = _ := (x.2 H.n (by omega)).trans (hS.at (by omega) (by omega) g0)
    refine ⟨_, store_bk g1 (by simp), by rw [loadN_bk put_same]; rfl, ?_⟩
    refine k op n v _ (d.mono (Nat.le_refl _) (fun b hb _ => by rw [put_bk, if_neg (by omega)]) (by omega)) ((hR.ext x).put (by omega)) (((S0.trans hS).trans x.st).put_new (Nat.le_refl _))
  simp
  refine cnd_mk (fun _ => ?_) (fun _ => ?_)
  · simp
    refine P_pick hR0 (by omega) (by omega) fun x1 H1 hx1 hR1 hS1 => ?_
    simp
    refine K_sl4Leaf fun v H2 d x => ?_
    obtain ⟨H3, e1, e2, e3⟩ := fin 0 x1 v H1 H2 hS1 (hR1.up (by omega)) d x
    simp [e1, e2]
    exact e3
  simp
  refine cnd_mk (fun _ => ?_) (fun _ => ?_)
  · simp
    refine P_pick hR0.push (by omega) (by omega) fun x1 H1 hx1 hR1 hS1 => ?_
    obtain ⟨y, hy, e⟩ := @Ints_get [5, 31, 32, 100, 2047, 2048, 65536, 99999] x1 8 (by omega) rfl
    have eb : H1.bk H0.n = some ⟨Ints [5, 31, 32, 100, 2047, 2048, 65536, 99999], true⟩ := hS1.at (Nat.lt_succ_self _) (Nat.ne_of_gt hR0.lt) (by simp; rfl)
    simp (disch := omega) [load_eq, eb, e]
    refine K_sl4Leaf fun v H2 d x => ?_
    obtain ⟨H3, e1, e2, e3⟩ := fin 0 y v H1 H2 ((St.push St.refl).trans hS1) (hR1.up (by omega)) d x
    simp [e1, e2]
    exact e3
  simp
  refine P_pick hR0 (by omega) (by omega) fun x1 H1 hx1 hR1 hS1 => ?_
  simp
  refine K_sl4Leaf fun v H2 d x => ?_
  obtain ⟨H3, e1, e2, e3⟩ := fin 13 x1 v H1 H2 hS1 (hR1.up (by omega)) d x
  simp [e1, e2]
  exact e3
end
def cE : Nat → Int
  | 0 => 2
  | d + 1 => 2 + 2 * cE d
theorem cE_pos : ∀ d, 2 ≤ cE d
  | 0 => by simp [cE]
  | d + 1 => by have := cE_pos d; simp [cE]; omega
theorem K_sl91Expr (d : Nat) (hd : d ≤ 60) : ∀ {H : AH} {K : AV → AH → Prop} {r : Nat} {w : Fk K} {m : Int}, Rdx H r m → m + cE d ≤ 1000000000000 →
    (∀ (e : Ex) v H', DE H.n H' v e.args → Rdx H' r (m + cE d) → St r H H' → K (.agg [.I e.op, .I e.n, v]) H') → CallF Cd f_sl91Expr [.ptr r 0, .I d] H K w := by
  induction d with
  | zero =>
    intro H K r w m h hm k
    rw [CallF_eq e_sl91Expr rfl]
    have hr := h.lt
    simp [cE] at k hm
    simp
    refine K_sl91Leaf h.push (by omega) fun op n v H1 d1 hR hS => ?_
    have g0 : H1.bk H.n = some ⟨[.I 0, .I 0, .nils], true⟩ := hS.at (by simp) (by omega) push_new
    have st := store_bk (o := 0) (vs := [.I op, .I n, v]) g0 (by simp)
    simp [st, loadN_bk put_same]
    exact k ⟨op, n, .nil⟩ v _ (d1.mono (Nat.le_refl _) (fun b hb _ => by rw [put_bk, if_neg (by simp at hb; omega)]) (by simp)) (hR.put hr) (((St.push St.refl).trans hS).put_new (Nat.le_refl _))
  | succ d ih =>
    intro H K r w m h hm k
    rw [CallF_eq e_sl91Expr rfl]
    have hr := h.lt
    have hc := cE_pos d
    simp only [cE] at k hm
    generalize cE d = C at *
    have leaf : ∀ (H0 : AH), Rdx H0 r (m + 1) → St r (H.push [.I 0, .I 0, .nils]) H0 → ∀ (op n : Int) v H1, DE H0.n H1 v .nil → Rdx H1 r (m + 1 + 2) → St r H0 H1 → ∃ H3, H1.store H.n 0 [.I op, .I n, v] = some H3 ∧ H3.loadN H.n 0 3 = some [.I op, .I n, v] ∧ K (.agg [.I op, .I n, v]) H3 := by
      intro H0 _ hS0 op n v H1 d1 hR hS
      have n0 := hS0.1
      simp only [push_n] at n0
      have g0 : H1.bk H.n = some ⟨[.I 0, .I 0, .nils], true⟩ := hS.at (by omega) (by omega) (hS0.at (by simp) (by omega) push_new)
      exact ⟨_, store_bk g0 (by simp), by rw [loadN_bk put_same]; rfl, k ⟨op, n, .nil⟩ v _ (d1.mono (Nat.le_refl _) (fun b hb _ => by rw [put_bk, if_neg (by omega)]) (by omega)) ((hR.put hr).up (by omega)) ((((St.push St.refl).trans hS0).trans hS).put_new (Nat.le_refl _))⟩
    by_cases h2 : d = 0
    · subst h2
      simp
      refine K_sl91Leaf (m := m + 1) (h.push.up (by omega)) (by omega) fun op n v H1 d1 hR hS => ?_
      obtain ⟨H3, e1, e2, e3⟩ := leaf _ (h.push.up (by omega)) St.refl op n v H1 d1 hR hS
      simp [e1, e2]
      exact e3
    have hlt : ¬ ((d : Int) + 1 < 2) := by omega
    simp (disch := omega) [hlt]
    refine P_pick h.push (by omega) (by omega) fun x0 H0 hx0 hR0 hS0 => ?_
    have n0 := hS0.1
    simp only [push_n] at n0
    simp
    refine cnd_mk (fun _ => ?_) (fun _ => ?_)
    · simp
      refine K_sl91Leaf hR0 (by omega) fun op n v H1 d1 hR hS => ?_
      obtain ⟨H3, e1, e2, e3⟩ := leaf _ hR0 hS0 op n v H1 d1 hR hS
      simp [e1, e2]
      exact e3
    simp
    refine K_sl91Op hR0 (by omega) fun op H1 hop hR1 hS1 => ?_
    simp (disch := omega)
    refine ih (by omega) hR1 (by omega) fun ea va H2 d2 hR2 hS2 => ?_
    have n1 := hS1.1
    have n2 := hS2.1
    simp (disch := omega) [AH.store, push_put, loadN_push]
    refine ih (by omega) hR2.push (by omega) fun eb vb H3 d3 hR3 hS3 => ?_
    have n3 := hS3.1
    simp only [push_n] at n3
    have q3 : H3.bk H2.n = some ⟨[.I ea.op, .I ea.n, va], true⟩ := hS3.at (by simp) (by have := hR2.lt; omega) push_new
    have d2' : DE H1.n H3 va ea.args := (d2.ext (Ext.push _ _)).st hS3 (by have := hR1.lt; omega)
    simp [q3]
    refine K_sl4Both (base := H.n + 1) (x := ea) (y := eb) (d2'.ev.up (by omega)) (d3.ev.up (by simp; omega)) (by omega) fun v4 H4 d4 x4 => ?_
    have g0 : H4.bk H.n = some ⟨[.I 0, .I 0, .nils], true⟩ := (x4.2 _ (by omega)).trans (hS3.at (by simp; omega) (by omega) (push_old (by omega) (hS2.at (by omega) (by omega) (hS1.at (by omega) (by omega) (hS0.at (by simp) (by omega) push_new)))))
    have st := store_bk (o := 0) (vs := [.I op, .I 0, v4]) g0 (by simp)
    simp [x4, st, loadN_bk put_same]
    exact k ⟨op, 0, _⟩ v4 _ (d4.mono (Nat.le_refl _) (fun b hb _ => by rw [put_bk, if_neg (by omega)]) (by omega)) (((hR3.ext x4).put hr).up (by omega)) (((((((St.push St.refl).trans hS0).trans hS1).trans hS2).trans ((St.push St.refl).trans hS3)).trans x4.st).put_new (Nat.le_refl _))
end Go.Proofs.YtmecbehegmgbhaaGreat.AM
namespace Go.Proofs.YtmecbehegmgbhaaGreat.AM
set_option linter.unusedSimpArgs false
set_option linter.unusedVariables false
set_option maxRecDepth 100000
set_option maxHeartbeats 2000000
open Go
theorem S1.st {base r : Nat} {H H' : AH} {v a} (h : S1 (fun b => base ≤ b) H v a) (k : St r H H') (hr : r < base) : S1 (fun b => base ≤ b) H' v a := h.mono k.1 (fun b hb hb2 => k.2 b hb2 (by omega)) (fun _ h _ => h)
theorem S1.up {base base' : Nat} {H : AH} {v a} (h : S1 (fun b => base ≤ b) H v a) (hb : base' ≤ base) : S1 (fun b => base' ≤ b) H v a := h.mono (Nat.le_refl _) (fun _ _ _ => rfl) (fun b h _ => by omega)
theorem SV.st {base r : Nat} {H H' : AH} {v a} (h : SV (fun b => base ≤ b) H v a) (k : St r H H') (hr : r < base) : SV (fun b => base ≤ b) H' v a := h.mono k.1 (fun b hb hb2 => k.2 b hb2 (by omega)) (fun _ h _ => h)
theorem SV.up {base base' : Nat} {H : AH} {v a} (h : SV (fun b => base ≤ b) H v a) (hb : base' ≤ base) : SV (fun b => base' ≤ b) H v a := h.mono (Nat.le_refl _) (fun _ _ _ => rfl) (fun b h _ => by omega)
theorem S1.put {base b : Nat} {H : AH} {v a o} (h : S1 (fun b => base ≤ b) H v a) (hb : b < base) : S1 (fun b => base ≤ b) (H.put b o) v a := h.mono (Nat.le_refl _) (fun x hx _ => by rw [put_bk, if_neg (by omega)]) (fun _ h _ => h)
abbrev leafT (k v b : Int) (e : Ex) : St1 := ⟨k, v, b, e, .nil, .nil⟩
theorem leafT_ct {k v b : Int} {e : Ex} : ctT (leafT k v b e) = 1 := rfl
theorem leafT_S1 {ok : Nat → Prop} {H : AH} {k v b : Int} {e : Ex} {va : AV} (h : EV ok H va e.args) : S1 ok H [.I k, .I v, .I b, .I e.op, .I e.n, va, .nils, .nils] (leafT k v b e) := ⟨va, .nils, .nils, rfl, h, SV.nil (.inl rfl), SV.nil (.inl rfl)⟩
section
variable {H : AH} {K : AV → AH → Prop} {r : Nat} {w : Fk K} {m : Int}
theorem cE_le {d : Nat} (h : d ≤ 3) : cE d ≤ 30 := by
  have : d = 0 ∨ d = 1 ∨ d = 2 ∨ d = 3 := by omega
  rcases this with rfl | rfl | rfl | rfl <;> simp [cE]
theorem K_sl91Expr3 {x : Int} (hx : 0 ≤ x ∧ x ≤ 3) (h : Rdx H r m) (hm : m ≤ 900000000000)
    (k : ∀ (e : Ex) v H', DE H.n H' v e.args → Rdx H' r (m + 30) → St r H H' → K (.agg [.I e.op, .I e.n, v]) H') : CallF Cd f_sl91Expr [.ptr r 0, .I x] H K w := by
  obtain ⟨d, rfl⟩ : ∃ d : Nat, x = d := ⟨x.toNat, by omega⟩
  have := cE_le (d := d) (by omega)
  exact K_sl91Expr d (by omega) h (by omega) fun e v H' a b c => k e v H' a (b.up (by omega)) c
theorem cells_in {base b : Nat} {G : AH} {c0 c : List AV} {s : St1} (hb : b < base) (g : G.bk b = some ⟨c0, true⟩) (hl : c0.length = 8) (h : S1 (fun x => base ≤ x) G c s) :
    ∃ G', G.store b 0 c = some G' ∧ G'.loadN b 0 8 = some c ∧ S1 (fun x => base ≤ x) G' c s ∧ G' = G.put b (some ⟨c, true⟩) := by
  have h8 := h.len
  have e : splice c0 0 c = c := by unfold splice; simp; omega
  have st := store_bk (o := 0) (vs := c) g (by omega)
  rw [e] at st
  exact ⟨_, st, by rw [loadN_bk put_same]; exact seg_self h8, h.put hb, rfl⟩
theorem K_sl92Set (h : Rdx H r m) (hm : m ≤ 800000000000) (k : ∀ c s H', S1 (fun b => H.n ≤ b) H' c s → ctT s = 1 → Rdx H' r (m + 40) → St r H H' → K (.agg c) H') : CallF Cd f_sl92Set [.ptr r 0] H K w := by
  rw [CallF_eq e_sl92Set rfl]
  have hr := h.lt
  simp
  refine P_pick h.push (by omega) (by omega) fun x0 H0 hx0 hR0 hS0 => ?_
  simp
  refine P_pick hR0 (by omega) (by omega) fun x1 H1 hx1 hR1 hS1 => ?_
  simp (disch := omega)
  refine K_sl91Expr3 (by omega) hR1 (by omega) fun e va H2 d2 hR2 hS2 => ?_
  have S2 := (hS0.trans hS1).trans hS2
  have n0 := hS0.1
  have n1 := hS1.1
  simp only [push_n] at n0
  have g0 : H2.bk H.n = some ⟨[.I 0, .I 0, .I 0, .I 0, .I 0, .nils, .nils, .nils], true⟩ := S2.at (by simp) (by omega) push_new
  obtain ⟨G', e1, e2, e3, e4⟩ := cells_in (base := H.n + 1) (by omega) g0 rfl ((leafT_S1 (k := 1) (v := x0) (b := 0) d2.ev).up (by omega))
  simp [e1, e2]
  subst e4
  exact k _ _ _ (e3.up (by omega)) leafT_ct ((hR2.put hr).up (by omega)) (((St.push St.refl).trans S2).put_new (Nat.le_refl _))
theorem K_sl92Talk {boxes : Int} (hbx : 0 ≤ boxes ∧ boxes ≤ 1000) (h : Rdx H r m) (hm : m ≤ 800000000000) (k : ∀ c s H', S1 (fun b => H.n ≤ b) H' c s → ctT s = 1 → Rdx H' r (m + 50) → St r H H' → K (.agg c) H') : CallF Cd f_sl92Talk [.ptr r 0, .I boxes] H K w := by
  rw [CallF_eq e_sl92Talk rfl]
  have hr := h.lt
  have fin : ∀ (H2 : AH) (c : List AV) (s : St1), St r (H.push [.I 0, .I 0, .I 0, .I 0, .I 0, .nils, .nils, .nils]) H2 → Rdx H2 r (m + 50) → S1 (fun b => H.n + 1 ≤ b) H2 c s → ctT s = 1 → ∃ G', H2.store H.n 0 c = some G' ∧ G'.loadN H.n 0 8 = some c ∧ K (.agg c) G' := by
    intro H2 c s S2 hR2 h1 hc
    have g0 : H2.bk H.n = some ⟨[.I 0, .I 0, .I 0, .I 0, .I 0, .nils, .nils, .nils], true⟩ := S2.at (by simp) (by omega) push_new
    obtain ⟨G', e1, e2, e3, e4⟩ := cells_in (base := H.n + 1) (by omega) g0 rfl h1
    refine ⟨G', e1, e2, ?_⟩
    subst e4
    exact k _ _ _ (e3.up (by omega)) hc (hR2.put hr) (((St.push St.refl).trans S2).put_new (Nat.le_refl _))
  by_cases hb : boxes < 1
  · simp [hb]
    refine K_sl92Set h.push (by omega) fun c s H2 h1 hc hR2 hS2 => ?_
    obtain ⟨G', e1, e2, e3⟩ := fin H2 c s hS2 (hR2.up (by omega)) h1 hc
    have h8 := h1.len
    simp [h8, e1, e2]
    exact e3
  simp [hb]
  refine P_pick h.push (by omega) (by omega) fun x0 H0 hx0 hR0 hS0 => ?_
  simp
  refine P_pick hR0 (by omega) (by omega) fun x1 H1 hx1 hR1 hS1 => ?_
  simp (disch := omega)
  have n0 := hS0.1
  have n1 := hS1.1
  simp only [push_n] at n0
  refine cnd_mk (fun _ => ?_) (fun _ => ?_)
  · simp
    refine P_pick hR1 (by omega) (by omega) fun x2 H2 hx2 hR2 hS2 => ?_
    simp (disch := omega)
    refine K_sl91Expr3 (by omega) hR2 (by omega) fun e va H3 d3 hR3 hS3 => ?_
    have n2 := hS2.1
    obtain ⟨G', e1, e2, e3⟩ := fin H3 _ _ (((hS0.trans hS1).trans hS2).trans hS3) (hR3.up (by omega)) ((leafT_S1 (k := 4) (v := 0) (b := x0) d3.ev).up (by omega)) leafT_ct
    simp [e1, e2]
    exact e3
  · simp
    refine P_pick hR1 (by omega) (by omega) fun x2 H2 hx2 hR2 hS2 => ?_
    obtain ⟨G', e1, e2, e3⟩ := fin H2 _ _ ((hS0.trans hS1).trans hS2) (hR2.up (by omega)) (leafT_S1 (k := 5) (v := x2) (b := x0) (e := ⟨0, 0, .nil⟩) (EV.nil (.inl rfl))) leafT_ct
    simp [e1, e2]
    exact e3
end
end Go.Proofs.YtmecbehegmgbhaaGreat.AM
namespace Go.Proofs.YtmecbehegmgbhaaGreat.AM
set_option linter.unusedSimpArgs false
set_option linter.unusedVariables false
set_option maxRecDepth 100000
set_option maxHeartbeats 2000000
open Go
theorem GrS.app_lb {base G v n sz cs B} (h : GrS base G v n sz cs B) {k : Nat} {new : List AV} {v' : AV} {G' : AH} (ha : aapp G sz v k new = some (v', G')) (hk : 0 < k) : ∃ b c, v' = .sl b 0 (n + k) (.lb c sz) := by
  have h0 : ¬ k = 0 := by omega
  obtain ⟨h1, h2, ⟨rfl, rfl⟩ | ⟨h4, h5, ⟨rfl, h6⟩ | ⟨c, ex, rfl, h7, h8, h9⟩⟩⟩ := h
  · unfold aapp at ha
    simp only [if_neg h0] at ha
    split at ha
    · simp only [Option.some.injEq, Prod.mk.injEq] at ha
      exact ⟨_, _, by rw [← ha.1, Nat.zero_add]⟩
    · cases ha
  · unfold aapp at ha
    simp only [if_neg h0] at ha
    rw [if_neg (show ¬ n + k ≤ n by omega)] at ha
    split at ha
    · cases ha
    · split at ha
      · simp only [Option.some.injEq, Prod.mk.injEq] at ha
        exact ⟨_, _, ha.1.symm⟩
      · cases ha
  · unfold aapp at ha
    simp only [if_neg h0] at ha
    rw [if_neg (show ¬ (sz ≠ sz) by simp)] at ha
    split at ha
    · cases ha
    · split at ha
      · obtain ⟨G2, _, e⟩ := map_some ha
        simp only [Prod.mk.injEq] at e
        exact ⟨_, _, e.1.symm⟩
      · split at ha
        · split at ha
          · simp only [Option.some.injEq, Prod.mk.injEq] at ha
            exact ⟨_, _, ha.1.symm⟩
          · cases ha
        · cases ha
theorem GrS.appS {base r : Nat} {G G1 : AH} {g v1 : AV} {f f1 : Sts} {cs : List AV} {B : Nat} (hg : GrS base G g f.list.length 8 cs B) (hf : SF (fun b => base ≤ b ∧ b ≠ B) G f cs) (hS : St r G G1) (hr : r < base) (hb : base ≤ G.n) (h1 : SV (fun b => G.n ≤ b) G1 v1 f1) (hl : f.list.length + f1.list.length ≤ 1000000) :
    ∃ c1 g' G' B', AM.elems G1 8 v1 = some c1 ∧ aapp G1 8 g f1.list.length c1 = some (g', G') ∧ GrS base G' g' (Sts.of (f.list ++ f1.list)).list.length 8 (cs ++ c1) B' ∧ SF (fun b => base ≤ b ∧ b ≠ B') G' (Sts.of (f.list ++ f1.list)) (cs ++ c1) ∧
      (∀ b, b < base → G'.bk b = G1.bk b) ∧ G1.n ≤ G'.n ∧ g'.flat = true ∧ (0 < f1.list.length → ∃ b c, g' = .sl b 0 (f.list.length + f1.list.length) (.lb c 8)) ∧ (∀ b, G.n ≤ b → b < G1.n → G'.bk b = G1.bk b) := by
  obtain ⟨c1, s1, s2⟩ := h1
  have hg1 : GrS base G1 g f.list.length 8 cs B := hg.only (bs := [r]) ⟨hS.1, fun b hb hr => hS.2 b hb (by simpa using hr)⟩ (by simp; omega)
  obtain ⟨g', G', B', a1, a2, a3, a4⟩ := hg1.app (by have := hS.1; omega) (k := f1.list.length) (new := c1) s1.2.1 hl
  have hm : ∀ b, b ∈ grB g B → b = B ∧ base ≤ B ∧ B < G.n := fun b hb => hg.mem hb
  have hB : (B' = B ∧ base ≤ B ∧ B < G.n) ∨ G1.n = B' := by
    rcases a3 with q | q
    · exact .inl ⟨q.1, (hm _ q.2).2⟩
    · exact .inr q.symm
  have n1 := hS.1
  have hlen : (Sts.of (f.list ++ f1.list)).list.length = f.list.length + f1.list.length := by rw [Sts.list_of]; simp
  refine ⟨c1, g', G', B', s1.elems, a1, by rw [hlen]; exact a2, SF.app (hf.mono (by have := a4.1; omega) (fun b hb' h1 => ?_) (fun b hb' h1 => ⟨hb'.1, by omega⟩)) (s2.mono a4.1 (fun b hb' h1 => a4.2 b h1 (fun hq => by have := hm b hq; omega)) (fun b hb' h1 => by omega)), fun b hb' => a4.2 b (by omega) (fun hq => by have := hm b hq; omega), a4.1, a2.flat, fun hp => hg1.app_lb a1 hp, fun b hb' h1 => a4.2 b h1 (fun hq => by have := hm b hq; omega)⟩
  rw [a4.2 b (by omega) (fun hq => hb'.2 (hm b hq).1), hS.2 b h1 (by omega)]
def cR : Nat → Int
  | 0 => 100
  | n + 1 => 100 + 4 * cR n
def cB : Nat → Nat
  | 0 => 1
  | n + 1 => 3 + 4 * cB n
theorem cR_pos : ∀ n, 100 ≤ cR n
  | 0 => by simp [cR]
  | n + 1 => by have := cR_pos n; simp [cR]; omega
theorem cB_pos : ∀ n, 1 ≤ cB n
  | 0 => by simp [cB]
  | n + 1 => by simp [cB]; omega
theorem cRB {n : Nat} (h : n ≤ 3) : cR n ≤ 8500 ∧ cB n ≤ 255 := by
  have : n = 0 ∨ n = 1 ∨ n = 2 ∨ n = 3 := by omega
  rcases this with rfl | rfl | rfl | rfl <;> simp [cR, cB]
def BlkD (nest : Nat) : Prop := ∀ {H : AH} {K : AV → AH → Prop} {r : Nat} {w : Fk K} {m n boxes : Int} {lp : Bool}, 0 ≤ boxes ∧ boxes ≤ 1000 → 0 ≤ n ∧ n ≤ 6 → Rdx H r m → m ≤ 700000000000 - nest * 10000000000 →
  (∀ v cs B (f : Sts) H', GrS H.n H' v f.list.length 8 cs B → SF (fun b => H.n ≤ b ∧ b ≠ B) H' f cs → (f.list.length ≠ 0 → ∃ b c, v = .sl b 0 f.list.length (.lb c 8)) → ctS f ≤ n.toNat * cB nest → Rdx H' r (m + n * cR nest) → St r H H' → K v H') →
  CallF Cd f_sl92Block [.ptr r 0, .I boxes, .I nest, .I n, .b lp] H K w
def StmD (nest : Nat) : Prop := ∀ {H : AH} {K : AV → AH → Prop} {r : Nat} {w : Fk K} {m boxes : Int} {lp : Bool}, 0 ≤ boxes ∧ boxes ≤ 1000 → Rdx H r m → m ≤ 701000000000 - nest * 10000000000 →
  (∀ v (f : Sts) H', SV (fun b => H.n ≤ b) H' v f → 1 ≤ f.list.length → ctS f ≤ cB nest → Rdx H' r (m + cR nest) → St r H H' → K v H') →
  CallF Cd f_sl92Stmt [.ptr r 0, .I boxes, .I nest, .b lp] H K w
theorem K_sl92Block_l {nest : Nat} (hn3 : nest ≤ 3) (hst : StmD nest) {boxes n : Int} {lp : Bool} {base r : Nat} (hbx : 0 ≤ boxes ∧ boxes ≤ 1000) (hn : 0 ≤ n ∧ n ≤ 6) (hrb : r < base) {Q : Out → Env → AH → Prop}
    (j i : Nat) (hij : (i + j : Int) = n) {G : AH} {g : AV} {f : Sts} {cs : List AV} {B : Nat} {m : Int} (hb : base ≤ G.n) (hg : GrS base G g f.list.length 8 cs B) (hf : SF (fun b => base ≤ b ∧ b ≠ B) G f cs) (hlb : f.list.length ≠ 0 → ∃ b c, g = .sl b 0 f.list.length (.lb c 8))
    (hct : ctS f ≤ i * cB nest) (hR : Rdx G r m) (hm : m + j * cR nest ≤ 700900000000 - nest * 10000000000)
    (hQ : ∀ g' cs' B' (f' : Sts) G', GrS base G' g' f'.list.length 8 cs' B' → SF (fun b => base ≤ b ∧ b ≠ B') G' f' cs' → (f'.list.length ≠ 0 → ∃ b c, g' = .sl b 0 f'.list.length (.lb c 8)) → ctS f' ≤ (i + j) * cB nest → Rdx G' r (m + j * cR nest) → (∀ b, b < base → b ≠ r → G'.bk b = G.bk b) → G.n ≤ G'.n →
      Q (.brk 0) [(0, .ptr r 0), (1, .I boxes), (2, .I nest), (3, .I n), (4, .b lp), (11, g'), (12, .I n), (16, .b false)] G') :
    W Cd (.loop c_sl92Block_l0) [(0, .ptr r 0), (1, .I boxes), (2, .I nest), (3, .I n), (4, .b lp), (11, g), (12, .I i)] G Q := by
  have hRB := cRB hn3
  have hc1 := cR_pos nest
  induction j generalizing i G g f cs B m with
  | zero =>
    rw [W_loop_as c_sl92Block_l0.eq_1]
    have hi : (i : Int) = n := by omega
    simp [hi]
    exact hQ g cs B f G hg hf hlb (by simpa using hct) (by simpa using hR) (fun _ _ _ => rfl) (Nat.le_refl _)
  | succ j ih =>
    rw [W_loop_as c_sl92Block_l0.eq_1]
    have hlt : (i : Int) < n := by omega
    have ej : ((j + 1 : Nat) : Int) * cR nest = j * cR nest + cR nest := by rw [Int.natCast_add, Int.add_mul]; simp
    rw [ej] at hm hQ
    have hj0 : 0 ≤ (j : Int) * cR nest := Int.mul_nonneg (by omega) (by omega)
    simp (disch := omega) [hlt]
    refine hst hbx hR (by omega) fun v1 f1 G1 h1 h2 h3 hR1 hS => ?_
    have hl1 := len_ctS (f := f1)
    have hl := len_ctS (f := f)
    have hi6 : i ≤ 6 := by omega
    have hci : i * cB nest ≤ 6 * 255 := Nat.mul_le_mul hi6 hRB.2
    obtain ⟨c1, g', G', B', a1, a2, a3, a4, a5, a6, a7, a8, _⟩ := hg.appS hf hS hrb hb h1 (by omega)
    have hal := h1.alen
    simp (disch := omega) [-AM.elems, a1, hal, a2]
    have hlen : (Sts.of (f.list ++ f1.list)).list.length = f.list.length + f1.list.length := by rw [Sts.list_of]; simp
    have hR' : Rdx G' r (m + cR nest) := hR1.same a6 fun b hb => a5 b (by omega)
    have := ih (i + 1) (by push_cast; omega) (G := G') (g := g') (f := Sts.of (f.list ++ f1.list)) (cs := cs ++ c1) (B := B') (m := m + cR nest) (by have := hS.1; omega) a3 a4 (fun _ => by rw [hlen]; exact a8 (by omega))
      (by rw [ctS_of, List.map_append, List.sum_append, ← ctS_sum, ← ctS_sum, Nat.add_mul]; omega) hR' (by omega)
      (fun g2 cs2 B2 f2 G2 u1 u2 u3 u4 u5 u6 u7 => hQ g2 cs2 B2 f2 G2 u1 u2 u3 (by rw [show i + (j + 1) = i + 1 + j by omega]; exact u4) (u5.up (by omega)) (fun b hb1 hb2 => by rw [u6 b hb1 hb2, a5 b hb1, hS.2 b (by omega) hb2]) (by have := hS.1; omega))
    simpa using this
theorem K_sl92Block {nest : Nat} (hn3 : nest ≤ 3) (hst : StmD nest) : BlkD nest := by
  intro H K r w m n boxes lp hbx hn hR hm k
  rw [CallF_eq e_sl92Block rfl]
  have hr := hR.lt
  have hRB := cRB hn3
  have hc1 := cR_pos nest
  simp
  obtain ⟨j, rfl⟩ : ∃ j : Nat, n = j := ⟨n.toNat, by omega⟩
  have hjc : (j : Int) * cR nest ≤ 6 * 8500 := by
    have : (j : Int) * cR nest ≤ 6 * cR nest := Int.mul_le_mul_of_nonneg_right (by omega) (by omega)
    omega
  have := K_sl92Block_l hn3 hst (boxes := boxes) (n := j) (lp := lp) (base := H.n) (r := r) hbx hn hr (Q := ?_) j 0 (by simp) (G := H.push []) (g := .sl H.n 0 0 (.ex 0)) (f := .nil) (cs := []) (B := H.n) (m := m) (by simp) (GrS.new (Nat.le_refl _) (by omega) (by simp)) rfl (by simp) (by simp [ctS]) hR.push (by omega) ?_
  · simpa using this
  · intro g cs B f G u1 u2 u3 u4 u5 u6 u7
    simp
    exact k g cs B f G u1 u2 u3 (by simpa using u4) u5 ⟨by simp at u7; omega, fun b hb hbr => (u6 b hb hbr).trans (push_old hb rfl)⟩
end Go.Proofs.YtmecbehegmgbhaaGreat.AM
namespace Go.Proofs.YtmecbehegmgbhaaGreat.AM
set_option linter.unusedSimpArgs false
set_option linter.unusedVariables false
set_option maxRecDepth 100000
set_option maxHeartbeats 2000000
open Go
section
variable {H : AH} {K : AV → AH → Prop} {r : Nat} {w : Fk K} {m boxes : Int} {lp : Bool} {nest : Nat}
theorem K_sl92If (hn3 : nest ≤ 2) (hbk : BlkD nest) (hbx : 0 ≤ boxes ∧ boxes ≤ 1000) (h : Rdx H r m) (hm : m ≤ 692000000000 - nest * 10000000000)
    (k : ∀ c s H', S1 (fun b => H.n ≤ b) H' c s → ctT s ≤ 1 + 4 * cB nest → Rdx H' r (m + 50 + 4 * cR nest) → St r H H' → K (.agg c) H') : CallF Cd f_sl92If [.ptr r 0, .I boxes, .I (nest + 1), .b lp] H K w := by
  rw [CallF_eq e_sl92If rfl]
  have hr := h.lt
  have hRB := cRB (n := nest) (by omega)
  have hc1 := cR_pos nest
  have hmul : ∀ x : Int, 0 ≤ x → x < 3 → x * cR nest ≤ 2 * cR nest ∧ 0 ≤ x * cR nest := fun x h1 h2 => ⟨Int.mul_le_mul_of_nonneg_right (by omega) (by omega), Int.mul_nonneg h1 (by omega)⟩
  have hmulN : ∀ x : Int, 0 ≤ x → x < 3 → x.toNat * cB nest ≤ 2 * cB nest := fun x h1 h2 => Nat.mul_le_mul_right _ (by omega)
  simp
  refine P_pick h.push (by omega) (by omega) fun x0 H0 hx0 hR0 hS0 => ?_
  simp (disch := omega)
  refine K_sl91Expr3 (by omega) hR0 (by omega) fun e va H1 d1 hR1 hS1 => ?_
  have n0 := hS0.1
  have n1 := hS1.1
  simp only [push_n] at n0
  simp (disch := omega) [AH.store, push_put]
  refine P_pick hR1.push (by omega) (by omega) fun x2 H2 hx2 hR2 hS2 => ?_
  have n2 := hS2.1
  simp only [push_n] at n2
  simp (disch := omega)
  refine hbk hbx (by omega) hR2 (by omega) fun vy cy By fy H3 gy sy _ cty hR3 hS3 => ?_
  have n3 := hS3.1
  have hm1 := hmul x2 hx2.1 hx2.2
  have q3 : H3.bk H1.n = some ⟨[.I e.op, .I e.n, va], true⟩ := hS3.at (by omega) (by omega) (hS2.at (by simp) (by omega) push_new)
  simp (disch := omega) [loadN_bk q3]
  refine P_pick hR3 (by omega) (by omega) fun x4 H4 hx4 hR4 hS4 => ?_
  have n4 := hS4.1
  have q4 : H4.bk H1.n = _ := hS4.at (by omega) (by omega) q3
  simp (disch := omega) [q3, q4]
  refine hbk hbx (by omega) hR4 (by omega) fun vz cz Bz fz H5 gz sz _ ctz hR5 hS5 => ?_
  have n5 := hS5.1
  have hm2 := hmul x4 hx4.1 hx4.2
  have q5 : H5.bk H1.n = _ := hS5.at (by omega) (by omega) q4
  have S5 := hS0.trans (hS1.trans (((St.push St.refl).trans hS2).trans (hS3.trans (hS4.trans hS5))))
  have g0 : H5.bk H.n = some ⟨[.I 0, .I 0, .I 0, .I 0, .I 0, .nils, .nils, .nils], true⟩ := S5.at (by simp) (by omega) push_new
  have ey : SV (fun b => H2.n ≤ b) H5 vy fy := ((gy.sv sy).st hS4 (by omega)).st hS5 (by omega)
  have ez : SV (fun b => H4.n ≤ b) H5 vz fz := gz.sv sz
  have ea : EV (fun b => H0.n ≤ b) H5 va e.args := (((((d1.ev.ext (Ext.push _ [.I e.op, .I e.n, va])).st hS2 (by have := hR0.lt; omega)).st hS3 (by have := hR0.lt; omega)).st hS4 (by have := hR0.lt; omega)).st hS5 (by have := hR0.lt; omega))
  obtain ⟨G', e1, e2, e3, e4⟩ := cells_in (base := H.n + 1) (c := [.I 2, .I 0, .I 0, .I e.op, .I e.n, va, vy, vz]) (s := ⟨2, 0, 0, e, fy, fz⟩) (by omega) g0 rfl ⟨va, vy, vz, rfl, ea.up (by omega), ey.up (by omega), ez.up (by omega)⟩
  have fy' := gy.flat
  have fz' := gz.flat
  simp [q4, q5, flat_cells fy', flat_tup fy', flat_cells fz', flat_tup fz', e1, e2]
  subst e4
  have hN1 := hmulN x2 hx2.1 hx2.2
  have hN2 := hmulN x4 hx4.1 hx4.2
  refine k _ _ _ (e3.up (by omega)) (by unfold ctT; simp only; omega) ((hR5.put hr).up (by omega)) (((St.push St.refl).trans S5).put_new (Nat.le_refl _))
theorem GrS.st {base r : Nat} {G G' : AH} {v : AV} {n sz : Nat} {cs : List AV} {B : Nat} (h : GrS base G v n sz cs B) (k : St r G G') (hr : r < base) : GrS base G' v n sz cs B :=
  h.only (bs := [r]) ⟨k.1, fun b hb hr => k.2 b hb (by simpa using hr)⟩ (by simp; omega)
theorem K_sl92Loop (hn3 : nest ≤ 2) (hbk : BlkD nest) (hbx : 0 ≤ boxes ∧ boxes ≤ 1000) (h : Rdx H r m) (hm : m ≤ 692000000000 - nest * 10000000000)
    (k : ∀ v f H', SV (fun b => H.n ≤ b) H' v f → f.list.length = 2 → ctS f ≤ 3 + 2 * cB nest → Rdx H' r (m + 50 + 4 * cR nest) → St r H H' → K v H') : CallF Cd f_sl92Loop [.ptr r 0, .I boxes, .I (nest + 1)] H K w := by
  rw [CallF_eq e_sl92Loop rfl]
  have hr := h.lt
  have hRB := cRB (n := nest) (by omega)
  have hc1 := cR_pos nest
  simp
  refine P_pick h (by omega) (by omega) fun x0 H0 hx0 hR0 hS0 => ?_
  have n0 := hS0.1
  have hm1 : x0 * cR nest ≤ 2 * cR nest ∧ 0 ≤ x0 * cR nest := ⟨Int.mul_le_mul_of_nonneg_right (by omega) (by omega), Int.mul_nonneg (by omega) (by omega)⟩
  have hN1 : x0.toNat * cB nest ≤ 2 * cB nest := Nat.mul_le_mul_right _ (by omega)
  simp (disch := omega)
  refine hbk hbx (by omega) hR0 (by omega) fun vy cy By fy H1 gy sy _ cty hR1 hS1 => ?_
  have n1 := hS1.1
  have hr0 := hR0.lt
  simp
  refine K_sl4Leaf fun v1 H2 d1 x1 => ?_
  simp
  refine K_sl4Leaf fun v2 H3 d2 x2 => ?_
  simp
  have n2 := x1.1
  have n3 := x2.1
  refine K_sl4Both (base := H1.n) (x := ⟨13, 3, .nil⟩) (y := ⟨0, 1, .nil⟩) (d1.ev.ext x2) (d2.ev.up (by omega)) (by omega) fun v3 H4 d3 x3 => ?_
  have n4 := x3.1
  have e13 := (x1.trans x2).trans x3
  simp [AH.store, push_put]
  refine K_sl4Leaf fun v5 H6 d5 x5 => ?_
  have n6 := x5.1
  simp only [push_n] at n6
  have q6 : H6.bk H4.n = some ⟨[.I 1, .I 3, .I 0, .I 8, .I 0, v3, .nils, .nils], true⟩ := (x5.2 H4.n (by simp)).trans push_new
  simp [x5]
  have hR6 : Rdx H6 r (m + 1 + x0 * cR nest) := ((hR1.ext e13).push).ext x5
  refine P_pick hR6 (by omega) (by omega) fun x6 H7 hx6 hR7 hS7 => ?_
  have n7 := hS7.1
  have q7 : H7.bk H4.n = _ := hS7.at (by omega) (by omega) q6
  simp (disch := omega) [q6, q7]
  refine K_sl4Leaf fun v7 H8 d7 x8 => ?_
  have n8 := x8.1
  simp [x8]
  refine K_sl4Both (base := H4.n + 1) (x := ⟨13, 3, .nil⟩) (y := ⟨0, 1 + x6, .nil⟩) (((d5.ev.up (by simp)).st hS7 (by omega)).ext x8) (d7.ev.up (by omega)) (by omega) fun v8 H9 d8 x9 => ?_
  have n9 := x9.1
  have q9 : H9.bk H4.n = _ := (x9.2 _ (by omega)).trans ((x8.2 _ (by omega)).trans q7)
  have l9 : H9.loadN H4.n 0 8 = some [.I 1, .I 3, .I 0, .I 8, .I 0, v3, .nils, .nils] := by rw [loadN_bk q9]; rfl
  have S49 : St r H4 H9 := ((((Ext.push H4 [.I 1, .I 3, .I 0, .I 8, .I 0, v3, .nils, .nils]).trans x5).st.trans hS7).trans (x8.trans x9).st)
  have S19 : St r H1 H9 := e13.st.trans S49
  have dm : EV (fun b => H1.n ≤ b) H9 v3 (Exs.of [⟨13, 3, .nil⟩, ⟨0, 1, .nil⟩]) := d3.ev.st S49 (by omega)
  have sm := (leafT_S1 (k := 1) (v := 3) (b := 0) (e := ⟨8, 0, Exs.of [⟨13, 3, .nil⟩, ⟨0, 1, .nil⟩]⟩) dm).ext (Ext.push H9 [.I 1, .I 3, .I 0, .I 8, .I 0, v3, .nils, .nils])
  have svm : SV (fun b => H1.n ≤ b) (H9.push [.I 1, .I 3, .I 0, .I 8, .I 0, v3, .nils, .nils]) (.sl H9.n 0 1 (.ex 1)) (Sts.of [leafT 1 3 0 ⟨8, 0, Exs.of [⟨13, 3, .nil⟩, ⟨0, 1, .nil⟩]⟩]) :=
    ⟨_, (GrS.new (base := H1.n) (G := H9) (n := 1) (sz := 8) (cs := [.I 1, .I 3, .I 0, .I 8, .I 0, v3, .nils, .nils]) (by omega) (by omega) rfl).slc, sm.one⟩
  have hly := len_ctS (f := fy)
  obtain ⟨c1, g', G', B', a1, a2, a3, a4, a5, a6, a7, a8, a9⟩ := gy.appS sy (S19.trans (Ext.push H9 [.I 1, .I 3, .I 0, .I 8, .I 0, v3, .nils, .nils]).st) hr0 (by omega) svm (by simp; omega)
  have hc1 : c1 = [.I 1, .I 3, .I 0, .I 8, .I 0, v3, .nils, .nils] := by
    have : AM.elems (H9.push [.I 1, .I 3, .I 0, .I 8, .I 0, v3, .nils, .nils]) 8 (.sl H9.n 0 1 (.ex 1)) = some [.I 1, .I 3, .I 0, .I 8, .I 0, v3, .nils, .nils] := by
      show AH.loadN _ _ _ _ = _
      rw [loadN_bk push_new]; rfl
    rw [this] at a1
    exact (Option.some.inj a1).symm
  subst hc1
  have a2' : aapp (H9.push [.I 1, .I 3, .I 0, .I 8, .I 0, v3, .nils, .nils]) 8 vy 1 [.I 1, .I 3, .I 0, .I 8, .I 0, v3, .nils, .nils] = some (g', G') := a2
  simp [x9, l9, loadN_push, a2', flat_cells a7, flat_tup a7, AH.store, push_put]
  refine K_sl4Leaf fun v9 H13 d9 x13 => ?_
  simp only [push_n] at a6
  have n13 := x13.1
  simp only [push_n] at n13
  have q13 : H13.bk G'.n = some ⟨[.I 3, .I 0, .I 0, .I 5, .I 0, v8, g', .nils], true⟩ := (x13.2 _ (by simp)).trans push_new
  have l13 : H13.loadN G'.n 0 8 = some [.I 3, .I 0, .I 0, .I 5, .I 0, v8, g', .nils] := by rw [loadN_bk q13]; rfl
  simp [x13, l13]
  have xf := Ext.push H13 ([.I 1, .I 3, .I 0, .I 0, .I 0, v9, .nils, .nils] ++ [.I 3, .I 0, .I 0, .I 5, .I 0, v8, g', .nils])
  have xg := (Ext.push G' [.I 3, .I 0, .I 0, .I 5, .I 0, v8, g', .nils]).trans (x13.trans xf)
  have e8 : EV (fun b => H.n ≤ b) G' v8 (Exs.of [⟨13, 3, .nil⟩, ⟨0, 1 + x6, .nil⟩]) := (d8.ev.ext (Ext.push H9 [.I 1, .I 3, .I 0, .I 8, .I 0, v3, .nils, .nils])).mono (by simp; omega) (fun b hb hb2 => a9 b (by omega) hb2) (fun b hb _ => by omega)
  have sg : SV (fun b => H.n ≤ b) G' g' (Sts.of (fy.list ++ (Sts.of [leafT 1 3 0 ⟨8, 0, Exs.of [⟨13, 3, .nil⟩, ⟨0, 1, .nil⟩]⟩]).list)) := (GrS.sv a3 a4).up (by omega)
  have w1 : S1 (fun b => H.n ≤ b) (H13.push ([.I 1, .I 3, .I 0, .I 0, .I 0, v9, .nils, .nils] ++ [.I 3, .I 0, .I 0, .I 5, .I 0, v8, g', .nils])) [.I 1, .I 3, .I 0, .I 0, .I 0, v9, .nils, .nils] (leafT 1 3 0 ⟨0, 0, .nil⟩) :=
    (leafT_S1 (e := ⟨0, 0, .nil⟩) (d9.ev.up (by simp; omega))).ext xf
  have w2 : S1 (fun b => H.n ≤ b) (H13.push ([.I 1, .I 3, .I 0, .I 0, .I 0, v9, .nils, .nils] ++ [.I 3, .I 0, .I 0, .I 5, .I 0, v8, g', .nils])) [.I 3, .I 0, .I 0, .I 5, .I 0, v8, g', .nils] ⟨3, 0, 0, ⟨5, 0, Exs.of [⟨13, 3, .nil⟩, ⟨0, 1 + x6, .nil⟩]⟩, Sts.of (fy.list ++ (Sts.of [leafT 1 3 0 ⟨8, 0, Exs.of [⟨13, 3, .nil⟩, ⟨0, 1, .nil⟩]⟩]).list), .nil⟩ :=
    ⟨v8, g', .nils, rfl, e8.ext xg, sg.ext xg, SV.nil (.inl rfl)⟩
  refine k _ (Sts.of [leafT 1 3 0 ⟨0, 0, .nil⟩, ⟨3, 0, 0, ⟨5, 0, Exs.of [⟨13, 3, .nil⟩, ⟨0, 1 + x6, .nil⟩]⟩, Sts.of (fy.list ++ (Sts.of [leafT 1 3 0 ⟨8, 0, Exs.of [⟨13, 3, .nil⟩, ⟨0, 1, .nil⟩]⟩]).list), .nil⟩]) _
    ⟨_, (GrS.new (base := H.n) (G := H13) (n := 2) (sz := 8) (cs := [.I 1, .I 3, .I 0, .I 0, .I 0, v9, .nils, .nils] ++ [.I 3, .I 0, .I 0, .I 5, .I 0, v8, g', .nils]) (by omega) (by omega) rfl).slc, SF.app w1.one w2.one⟩ (by simp) ?_ ?_ ?_
  · simp only [ctS_of, List.map_cons, List.map_nil, List.sum_cons, List.sum_nil, ctT, leafT, Sts.list_of, List.map_append, List.sum_append, ← ctS_sum]
    have := cty
    simp [ctS]
    omega
  · have hR9 : Rdx H9 r (m + 1 + x0 * cR nest + 1) := (hR7.ext x8).ext x9
    have hRG : Rdx G' r (m + 1 + x0 * cR nest + 1) := (hR9.ext (Ext.push H9 [.I 1, .I 3, .I 0, .I 8, .I 0, v3, .nils, .nils])).same (by simp; omega) fun b hb => a5 b (by omega)
    exact (hRG.ext xg).up (by omega)
  · refine ⟨by simp; omega, fun b hb hbr => ?_⟩
    exact (xg.2 b (by omega)).trans ((a5 b (by omega)).trans ((push_old (by omega) rfl).trans ((S19.2 b (by omega) hbr).trans ((hS1.2 b (by omega) hbr).trans (hS0.2 b hb hbr)))))
theorem S1.lone {base : Nat} {G : AH} {c : List AV} {s : St1} (h : S1 (fun b => base ≤ b) G c s) (hb : base ≤ G.n) : SV (fun b => base ≤ b) (G.push c) (.sl G.n 0 1 (.ex 1)) (Sts.of [s]) :=
  ⟨c, (GrS.new (base := base) (G := G) (n := 1) (sz := 8) (cs := c) hb (by omega) (by rw [h.len])).slc, (h.ext (Ext.push G c)).one⟩
theorem K_sl92Stmt (hn3 : nest ≤ 3) (hbk : ∀ n', nest = n' + 1 → BlkD n') : StmD nest := by
  intro H K r w m boxes lp hbx h hm k
  rw [CallF_eq e_sl92Stmt rfl]
  have hr := h.lt
  have hRB := cRB hn3
  have hc1 := cR_pos nest
  have hcb := cB_pos nest
  have one : ∀ (G : AH) (c : List AV) (s : St1), S1 (fun b => H.n ≤ b) G c s → ctT s ≤ cB nest → Rdx G r (m + cR nest) → St r H G → K (.sl G.n 0 1 (.ex 1)) (G.push c) := by
    intro G c s h1 h2 h3 h4
    exact k _ _ _ (h1.lone h4.1) (by simp) (by rw [ctS_of]; simpa using h2) h3.push (h4.trans (Ext.push G c).st)
  simp
  refine P_pick h (by omega) (by omega) fun x0 H0 hx0 hR0 hS0 => ?_
  have n0 := hS0.1
  by_cases q0 : x0 = 0
  · simp [q0]
    refine K_sl92Set hR0 (by omega) fun c s G h1 h2 h3 h4 => ?_
    have h5 := h1.len
    simp [h5]
    exact one G c s (h1.up (by omega)) (by omega) (h3.up (by omega)) (hS0.trans h4)
  by_cases q1 : x0 = 1
  · simp [q1]
    refine K_sl92Set hR0 (by omega) fun c s G h1 h2 h3 h4 => ?_
    have h5 := h1.len
    simp [h5]
    exact one G c s (h1.up (by omega)) (by omega) (h3.up (by omega)) (hS0.trans h4)
  by_cases q2 : x0 = 2
  · by_cases q : 0 < nest
    · simp [q2, q]
      obtain ⟨n', rfl⟩ : ∃ n', nest = n' + 1 := ⟨nest - 1, by omega⟩
      have e1 : ((n' + 1 : Nat) : Int) = (n' : Int) + 1 := by omega
      rw [e1]
      refine K_sl92If (by omega) (hbk n' rfl) hbx hR0 (by push_cast at hm; omega) fun c s G h1 h2 h3 h4 => ?_
      have h5 := h1.len
      simp [h5]
      exact one G c s (h1.up (by omega)) (by simp [cB]; omega) (h3.up (by simp [cR]; omega)) (hS0.trans h4)
    · simp [q2, q]
      refine P_pick hR0 (by omega) (by omega) fun y1 G1 hy1 hR1 hS1 => ?_
      simp (disch := omega)
      refine K_sl91Expr3 (by omega) hR1 (by omega) fun e va G2 d2 hR2 hS2 => ?_
      have n1 := hS1.1
      simp
      exact one G2 _ _ ((leafT_S1 (k := 7) (v := 0) (b := 0) d2.ev).up (by omega)) (by rw [leafT_ct]; omega) (hR2.up (by omega)) (hS0.trans (hS1.trans hS2))
  by_cases q3 : x0 = 3
  · by_cases q : 0 < nest ∧ lp = true
    · simp [q3, q.1, q.2]
      obtain ⟨n', rfl⟩ : ∃ n', nest = n' + 1 := ⟨nest - 1, by omega⟩
      have e1 : ((n' + 1 : Nat) : Int) = (n' : Int) + 1 := by omega
      rw [e1]
      refine K_sl92Loop (by omega) (hbk n' rfl) hbx hR0 (by push_cast at hm; omega) fun v f G h1 h2 h3 h4 h5 => ?_
      have h6 := h1.flat
      simp
      exact k v f G (h1.up (by omega)) (by omega) (by simp [cB]; omega) (h4.up (by simp [cR]; omega)) (hS0.trans h5)
    · by_cases q' : 0 < nest
      · have hlp : lp = false := by cases lp <;> simp_all
        simp [q3, q', hlp]
        refine P_pick hR0 (by omega) (by omega) fun y1 G1 hy1 hR1 hS1 => ?_
        simp (disch := omega)
        refine K_sl91Expr3 (by omega) hR1 (by omega) fun e va G2 d2 hR2 hS2 => ?_
        have n1 := hS1.1
        simp
        exact one G2 _ _ ((leafT_S1 (k := 7) (v := 0) (b := 0) d2.ev).up (by omega)) (by rw [leafT_ct]; omega) (hR2.up (by omega)) (hS0.trans (hS1.trans hS2))
      · simp [q3, q']
        refine P_pick hR0 (by omega) (by omega) fun y1 G1 hy1 hR1 hS1 => ?_
        simp (disch := omega)
        refine K_sl91Expr3 (by omega) hR1 (by omega) fun e va G2 d2 hR2 hS2 => ?_
        have n1 := hS1.1
        simp
        exact one G2 _ _ ((leafT_S1 (k := 7) (v := 0) (b := 0) d2.ev).up (by omega)) (by rw [leafT_ct]; omega) (hR2.up (by omega)) (hS0.trans (hS1.trans hS2))
  by_cases q4 : x0 = 4
  · simp [q4]
    refine K_sl92Talk hbx hR0 (by omega) fun c s G h1 h2 h3 h4 => ?_
    have h5 := h1.len
    simp [h5]
    exact one G c s (h1.up (by omega)) (by omega) (h3.up (by omega)) (hS0.trans h4)
  by_cases q5 : x0 = 5
  · simp [q5]
    refine K_sl92Talk hbx hR0 (by omega) fun c s G h1 h2 h3 h4 => ?_
    have h5 := h1.len
    simp [h5]
    exact one G c s (h1.up (by omega)) (by omega) (h3.up (by omega)) (hS0.trans h4)
  by_cases q6 : x0 = 6
  · simp [q6]
    refine K_sl92Talk hbx hR0 (by omega) fun c s G h1 h2 h3 h4 => ?_
    have h5 := h1.len
    simp [h5]
    exact one G c s (h1.up (by omega)) (by omega) (h3.up (by omega)) (hS0.trans h4)
  by_cases q7 : x0 = 7
  · simp [q7]
    exact one H0 _ _ (leafT_S1 (k := 6) (v := 0) (b := 0) (e := ⟨0, 0, .nil⟩) (EV.nil (.inl rfl))) (by rw [leafT_ct]; omega) (hR0.up (by omega)) hS0
  · simp [q0, q1, q2, q3, q4, q5, q6, q7]
    refine P_pick hR0 (by omega) (by omega) fun y1 G1 hy1 hR1 hS1 => ?_
    simp (disch := omega)
    refine K_sl91Expr3 (by omega) hR1 (by omega) fun e va G2 d2 hR2 hS2 => ?_
    have n1 := hS1.1
    simp
    exact one G2 _ _ ((leafT_S1 (k := 7) (v := 0) (b := 0) d2.ev).up (by omega)) (by rw [leafT_ct]; omega) (hR2.up (by omega)) (hS0.trans (hS1.trans hS2))
end
theorem blkD : ∀ {n : Nat}, n ≤ 3 → BlkD n
  | 0, _ => K_sl92Block (by omega) (K_sl92Stmt (by omega) (fun n' h => by omega))
  | n + 1, h => K_sl92Block h (K_sl92Stmt h (fun n' hn => by
      have : n' = n := by omega
      rw [this]; exact @blkD n (by omega)))
end Go.Proofs.YtmecbehegmgbhaaGreat.AM
namespace Go.Proofs.YtmecbehegmgbhaaGreat.AM
set_option linter.unusedSimpArgs false
set_option linter.unusedVariables false
set_option maxRecDepth 100000
set_option maxHeartbeats 2000000
open Go
theorem SF.take {ok H f cs} (h : SF ok H f cs) (i : Nat) : SF ok H (Sts.of (f.list.take i)) (cs.take (i * 8)) := SF_of.2 ((SF_LF.1 h).take i)
theorem ctS_take {f : Sts} {i : Nat} : ctS (Sts.of (f.list.take i)) ≤ ctS f := by
  rw [ctS_of, ctS_sum]
  conv => rhs; rw [← List.take_append_drop i f.list, List.map_append, List.sum_append]
  omega
theorem GrS.cut {base G n cs B b c} (h : GrS base G (.sl b 0 n (.lb c 8)) n 8 cs B) {j : Nat} (hj : j ≤ n) : b = B ∧ GrS base G (.sl b 0 j (.lb c 8)) j 8 (cs.take (j * 8)) B := by
  obtain ⟨h1, h2, h3⟩ := h
  rcases h3 with ⟨h4, _⟩ | ⟨h4, h5, ⟨h6, _⟩ | ⟨c', ex, h6, h7, h8, h9⟩⟩
  · cases h4
  · cases h6
  · simp only [AV.sl.injEq, ACap.lb.injEq, and_true, true_and] at h6
    obtain ⟨rfl, rfl⟩ := h6
    have hm := Nat.mul_le_mul_right 8 hj
    have e1 : (cs.take (j * 8)).length = j * 8 := by rw [List.length_take]; omega
    refine ⟨rfl, by omega, e1, .inr ⟨h4, h5, .inr ⟨c, cs.drop (j * 8) ++ ex, rfl, by omega, ?_, ?_⟩⟩⟩
    · rw [List.length_append, List.length_drop, h8, h2, Nat.sub_mul, Nat.sub_mul]
      have := Nat.mul_le_mul_right 8 h7
      omega
    · rw [← List.append_assoc, List.take_append_drop]; exact h9
theorem K_sl92Stmts_l {base : Nat} {Q : Out → Env → AH → Prop} {G : AH} {B : Nat} (hQ : ∀ e g' cs' (f' : Sts), GrS base G g' f'.list.length 8 cs' B → SF (fun b => base ≤ b ∧ b ≠ B) G f' cs' → ctS f' ≤ 1000 → get e 5 = some g' → Q (.brk 0) e G) (n : Nat) :
    ∀ {g : AV} {f : Sts} {cs : List AV}, f.list.length = n → GrS base G g f.list.length 8 cs B → SF (fun b => base ≤ b ∧ b ≠ B) G f cs → (f.list.length ≠ 0 → ∃ b c, g = .sl b 0 f.list.length (.lb c 8)) → ctS f ≤ 1000 →
    W Cd (.loop c_sl92Stmts_l0) [(5, g)] G Q := by
  induction n with
  | zero =>
    intro g f cs hn hg hf hlb hct
    rw [W_loop_as c_sl92Stmts_l0.eq_1]
    have hnil : f = .nil := by rw [← Sts.of_list f, List.eq_nil_of_length_eq_zero hn]; rfl
    subst hnil
    simp
    refine K_sl11Count .nil (hg.sv hf) (by omega) ?_
    simp [ctS]
    exact hQ _ g cs .nil hg hf (by show 0 ≤ 1000; omega) rfl
  | succ n ih =>
    intro g f cs hn hg hf hlb hct
    rw [W_loop_as c_sl92Stmts_l0.eq_1]
    obtain ⟨b, c, rfl⟩ := hlb (by omega)
    have hlc := len_ctS (f := f)
    simp
    refine K_sl11Count f (hg.sv hf) (by omega) ?_
    by_cases h16 : ctS f ≤ 16
    · have h16' : ¬ (16 : Int) < ctS f := by omega
      simp [h16']
      exact hQ _ _ cs f hg hf hct rfl
    · have h16' : (16 : Int) < ctS f := by omega
      obtain ⟨rfl, g2⟩ := hg.cut (j := n) (by omega)
      have hl : (f.list.take n).length = n := by simp; omega
      have e : aslice 8 (.sl b 0 f.list.length (.lb c 8)) none (some (.I n)) none = some (.sl b 0 n (.lb c 8)) := by
        simp [aslice, bnd, aint]; omega
      have e2 : (f.list.length : Int) - 1 = n := by omega
      simp (disch := omega) [h16', e2, e]
      have := ih (g := .sl b 0 n (.lb c 8)) (f := Sts.of (f.list.take n)) (cs := cs.take (n * 8)) (by rw [Sts.list_of]; exact hl) (by rw [Sts.list_of, hl]; exact g2) (hf.take n) (fun _ => ⟨b, c, by rw [Sts.list_of, hl]⟩) (by have := @ctS_take f n; omega)
      simpa using this
section
variable {H : AH} {K : AV → AH → Prop} {r : Nat} {w : Fk K} {m boxes : Int}
theorem K_sl92Stmts (hbx : 0 ≤ boxes ∧ boxes ≤ 1000) (h : Rdx H r m) (hm : m ≤ 600000000000)
    (k : ∀ g cs B (f : Sts) H', GrS H.n H' g f.list.length 8 cs B → SF (fun b => H.n ≤ b ∧ b ≠ B) H' f cs → ctS f ≤ 1000 → Rdx H' r (m + 60000) → St r H H' → K g H') : CallF Cd f_sl92Stmts [.ptr r 0, .I boxes] H K w := by
  rw [CallF_eq e_sl92Stmts rfl]
  simp
  refine P_pick h (by omega) (by omega) fun x0 H0 hx0 hR0 hS0 => ?_
  simp (disch := omega)
  have n0 := hS0.1
  have hm1 : (1 + x0) * cR 3 ≤ 6 * 8500 ∧ 0 ≤ (1 + x0) * cR 3 := by simp [cR]; omega
  have hN1 : (1 + x0).toNat * cB 3 ≤ 6 * 127 := by
    have : (1 + x0).toNat ≤ 6 := by omega
    have := Nat.mul_le_mul_right (cB 3) this
    simpa [cB] using this
  refine blkD (n := 3) (by omega) hbx (by omega) hR0 (by simp; omega) fun g cs B f H1 hg hf hlb hct hR1 hS1 => ?_
  have := K_sl92Stmts_l (base := H0.n) (G := H1) (B := B) (Q := ?_) ?_ f.list.length rfl hg hf hlb (by omega)
  · simpa using this
  · intro e g' cs' f' u1 u2 u3 u4
    simp [u4]
    refine k g' cs' B f' H1 ⟨u1.1, u1.2.1, ?_⟩ (u2.mono (Nat.le_refl _) (fun _ _ _ => rfl) (fun b hb _ => by omega)) u3 (hR1.up (by omega)) (hS0.trans hS1)
    rcases u1.2.2 with q | ⟨q1, q2⟩
    · exact .inl q
    · exact .inr ⟨by omega, q2⟩
theorem app_word {base r : Nat} {G G1 : AH} {g : AV} {l : List Int} {B : Nat} {x : Int} (hg : GrS base G g l.length 1 (Ints l) B) (hS : St r G G1) (hr : r < base) (hb : base ≤ G.n) (hl : l.length < 1000) :
    ∃ g' G' B', aapp (G1.push [.I x]) 1 g 1 [.I x] = some (g', G') ∧ GrS base G' g' (l ++ [x]).length 1 (Ints (l ++ [x])) B' ∧ (∀ b, b < base → G'.bk b = G1.bk b) ∧ G1.n ≤ G'.n ∧ g'.flat = true := by
  have hg1 := hg.st (hS.trans (Ext.push G1 [.I x]).st) hr
  have n1 := hS.1
  obtain ⟨g', G', B', a1, a2, a3, a4⟩ := hg1.app (by simp; omega) (k := 1) (new := [.I x]) rfl (by omega)
  have hm : ∀ b, b ∈ grB g B → b = B ∧ base ≤ B ∧ B < G.n := fun b hb => hg.mem hb
  have n2 := a4.1
  simp only [push_n] at n2
  refine ⟨g', G', B', a1, by rw [← Ints_snoc]; simpa using a2, fun b hb' => ?_, by omega, a2.flat⟩
  rw [a4.2 b (by simp; omega) (fun hq => by have := hm b hq; omega), push_old (by omega) rfl]
end
end Go.Proofs.YtmecbehegmgbhaaGreat.AM
namespace Go.Proofs.YtmecbehegmgbhaaGreat.AM
set_option linter.unusedSimpArgs false
set_option linter.unusedVariables false
set_option maxRecDepth 100000
set_option maxHeartbeats 2000000
open Go
section
variable {H : AH} {K : AV → AH → Prop} {r : Nat} {w : Fk K} {m boxes : Int}
theorem GrS.storeAt {base G v n sz cs B} (h : GrS base G v n sz cs B) {o : Nat} {c : List AV} (hc : 0 < c.length) (ho : o + c.length ≤ n * sz) :
    ∃ cap G', v = .sl B 0 n cap ∧ G.store B o c = some G' ∧ GrS base G' v n sz (splice cs o c) B ∧ Only [B] G G' ∧ base ≤ B ∧ B < G.n := by
  obtain ⟨h1, h2, h3⟩ := h
  have hl : (splice cs o c).length = n * sz := by unfold splice; rw [List.length_append, List.length_append, List.length_take, List.length_drop, h2]; omega
  rcases h3 with ⟨rfl, rfl⟩ | ⟨h4, h5, ⟨rfl, h6⟩ | ⟨cc, ex, rfl, h7, h8, h9⟩⟩
  · rw [Nat.zero_mul] at ho; omega
  · have st := store_bk (o := o) (vs := c) h6 (by omega)
    exact ⟨_, _, rfl, st, ⟨h1, hl, .inr ⟨h4, h5, .inl ⟨rfl, put_same⟩⟩⟩, Only.refl.put (by simp), h4, h5⟩
  · have st := store_bk (o := o) (vs := c) h9 (by simp; omega)
    refine ⟨_, _, rfl, st, ⟨h1, hl, .inr ⟨h4, h5, .inr ⟨cc, ex, rfl, h7, h8, ?_⟩⟩⟩, Only.refl.put (by simp), h4, h5⟩
    rw [put_same]
    have : splice (cs ++ ex) o c = splice cs o c ++ ex := by
      unfold splice
      rw [List.take_append_of_le_length (by omega), List.drop_append_of_le_length (by omega)]; simp
    rw [this]
theorem TC.st {base r : Nat} {H H' : AH} {c : List AV} {t : Tk} (h : TC (fun b => base ≤ b) H c t) (k : St r H H') (hr : r < base) : TC (fun b => base ≤ b) H' c t := h.mono k.1 (fun b hb hb2 => k.2 b hb2 (by omega)) (fun _ h _ => h)
end
end Go.Proofs.YtmecbehegmgbhaaGreat.AM
namespace Go.Proofs.YtmecbehegmgbhaaGreat.AM
set_option linter.unusedSimpArgs false
set_option linter.unusedVariables false
set_option maxRecDepth 100000
set_option maxHeartbeats 2000000
open Go
def ISl (base : Nat) (G : AH) (v : AV) (l : List Int) (I : Nat) : Prop :=
  l.length ≤ 1000 ∧ ((v = .nils ∧ l = []) ∨ (base ≤ I ∧ I < G.n ∧ ((v = .sl I 0 0 (.ex 0) ∧ l = [] ∧ G.bk I = some ⟨[], true⟩) ∨
    ∃ c ex, v = .sl I 0 l.length (.lb c 1) ∧ l.length ≤ c ∧ ex.length = c - l.length ∧ G.bk I = some ⟨Ints l ++ ex, true⟩)))
theorem ISl.flat {base G v l I} (h : ISl base G v l I) : v.flat = true := by
  obtain ⟨_, ⟨rfl, _⟩ | ⟨_, _, ⟨rfl, _⟩ | ⟨c, ex, rfl, _⟩⟩⟩ := h <;> rfl
theorem ISl.grs {base G v l I} (h : ISl base G v l I) : GrS base G v l.length 1 (Ints l) I := by
  obtain ⟨h1, ⟨rfl, rfl⟩ | ⟨h2, h3, ⟨rfl, rfl, h4⟩ | ⟨c, ex, rfl, h5, h6, h7⟩⟩⟩ := h
  · exact GrS.nils
  · exact ⟨by simp, rfl, .inr ⟨h2, h3, .inl ⟨rfl, h4⟩⟩⟩
  · exact ⟨by omega, by rw [Ints_len]; omega, .inr ⟨h2, h3, .inr ⟨c, ex, rfl, h5, by omega, h7⟩⟩⟩
theorem ISl.only {base G G' v l I bs} (h : ISl base G v l I) (k : Only bs G G') (hb : ∀ b ∈ bs, b ∉ grB v I) : ISl base G' v l I := by
  obtain ⟨h1, h2 | ⟨h3, h4, h5⟩⟩ := h
  · exact ⟨h1, .inl h2⟩
  · have hI : I ∉ bs := fun hm => hb I hm (by rcases h5 with ⟨rfl, _⟩ | ⟨c, ex, rfl, _⟩ <;> simp [grB])
    have e : G'.bk I = G.bk I := k.2 I h4 hI
    rw [← e] at h5
    exact ⟨h1, .inr ⟨h3, Nat.lt_of_lt_of_le h4 k.1, h5⟩⟩
theorem ISl.mem {base G v l I} (h : ISl base G v l I) {b : Nat} (hb : b ∈ grB v I) : b = I ∧ base ≤ I ∧ I < G.n := h.grs.mem hb
theorem ISl.sees {base G v l I} (h : ISl base G v l I) : SeesZ G v l := (h.grs.iv).sees
theorem ISl.push1 {base G v l I} (h : ISl base G v l I) (hb : base ≤ G.n) {x : Int} (hl : l.length < 1000) :
    ∃ v' G' I', aapp (G.push [.I x]) 1 v 1 [.I x] = some (v', G') ∧ ISl base G' v' (l ++ [x]) I' ∧ ((I' = I ∧ I ∈ grB v I) ∨ I' = G.n + 1) ∧ Only (grB v I) G G' ∧ v'.flat = true ∧ G.n + 1 ≤ G'.n := by
  obtain ⟨v', G', I', a1, a2, a3, a4⟩ := (h.grs.ext (Ext.push G [.I x])).app (by simp; omega) (k := 1) (new := [.I x]) rfl (by omega)
  obtain ⟨b, c, e⟩ := (h.grs.ext (Ext.push G [.I x])).app_lb a1 (by omega)
  refine ⟨v', G', I', a1, ?_, by simpa using a3, (show Only (grB v I) G (G.push [.I x]) from Only.refl.push).trans a4, a2.flat, by have := a4.1; simpa using this⟩
  obtain ⟨q1, q2, q3⟩ := a2
  refine ⟨by simp; omega, ?_⟩
  rcases q3 with ⟨q4, q5⟩ | ⟨q4, q5, ⟨q6, _⟩ | ⟨c', ex, q6, q7, q8, q9⟩⟩
  · omega
  · rw [e] at q6; simp at q6
  · exact .inr ⟨q4, q5, .inr ⟨c', ex, by simpa using q6, by simpa using q7, by simpa using q8, by rw [← Ints_snoc]; exact q9⟩⟩
theorem ISl.pop {base G v I} {y : Int} {l : List Int} (h : ISl base G v (y :: l) I) :
    ∃ v0 v1 v' G', aslice 1 v none (some (.I 0)) none = some v0 ∧ aslice 1 v (some (.I 1)) none none = some v1 ∧ alen v1 = some l.length ∧ AM.elems G 1 v1 = some (Ints l) ∧ aapp G 1 v0 l.length (Ints l) = some (v', G') ∧ ISl base G' v' l I ∧ Only [I] G G' ∧ v'.flat = true ∧ base ≤ I ∧ I < G.n ∧ grB v I = [I] := by
  obtain ⟨h1, ⟨_, h2⟩ | ⟨h2, h3, ⟨_, h4, _⟩ | ⟨c, ex, rfl, h5, h6, h7⟩⟩⟩ := h
  · cases h2
  · cases h4
  · have hl : (y :: l).length = l.length + 1 := rfl
    have h1' : l.length + 1 ≤ 1000 := h1
    have h5' : l.length + 1 ≤ c := h5
    have h6' : ex.length = c - (l.length + 1) := h6
    rw [hl]
    have e0 : aslice 1 (.sl I 0 (l.length + 1) (.lb c 1)) none (some (.I 0)) none = some (.sl I 0 0 (.lb c 1)) := by simp [aslice, bnd, aint]
    by_cases hn : l.length = 0
    · have : l = [] := List.eq_nil_of_length_eq_zero hn
      subst this
      refine ⟨_, .esl, .sl I 0 0 (.lb c 1), G, e0, by simp [aslice, bnd, aint], rfl, rfl, by simp [aapp], ⟨by simp, .inr ⟨h2, h3, .inr ⟨c, .I y :: ex, rfl, Nat.zero_le _, by simp at h6' ⊢; omega, by simpa [Ints] using h7⟩⟩⟩, Only.refl, rfl, h2, h3, rfl⟩
    · have e1 : aslice 1 (.sl I 0 (l.length + 1) (.lb c 1)) (some (.I 1)) none none = some (.sl I 1 l.length (.lb (c - 1) 1)) := by
        simp [aslice, bnd, aint]
        exact fun e => hn (by rw [e]; rfl)
      have st := store_bk (o := 0) (vs := Ints l) h7 (by simp [Ints]; omega)
      have es : splice (Ints (y :: l) ++ ex) 0 (Ints l) = Ints l ++ (Ints (y :: l) ++ ex).drop l.length := by
        unfold splice; simp [Ints_len]
      rw [es] at st
      refine ⟨_, _, .sl I 0 l.length (.lb c 1), G.put I (some ⟨Ints l ++ (Ints (y :: l) ++ ex).drop l.length, true⟩), e0, e1, rfl, ?_, ?_, ⟨by omega, .inr ⟨h2, h3, .inr ⟨c, _, rfl, by omega, ?_, put_same⟩⟩⟩, Only.refl.put (by simp), rfl, h2, h3, rfl⟩
      · show AH.loadN G I 1 (l.length * 1) = _
        rw [loadN_bk h7]
        unfold seg
        rw [if_pos (by simp [Ints]; omega)]
        simp [Ints]
      · unfold aapp
        simp only [if_neg hn, Nat.zero_add, Nat.zero_mul]
        rw [if_neg (show ¬ big < l.length by unfold big; omega), if_neg (show ¬ (1 ≠ 1) by simp), if_pos (by omega), st]; rfl
      · rw [List.length_drop, List.length_append, Ints_len, hl, h6']; omega
def PL (ok : Nat → Prop) (H : AH) : AV → List St1 → Prop
  | p, [] => p = .nilp
  | p, s :: r => ∃ q sb so c nx, p = .ptr q 0 ∧ ok q ∧ q < H.n ∧ H.bk q = some ⟨[.ptr sb so, nx], true⟩ ∧ ok sb ∧ sb < H.n ∧ H.loadN sb so 8 = some c ∧ S1 ok H c s ∧ nx.flat = true ∧ PL ok H nx r
theorem PL.mono {ok ok' : Nat → Prop} {H H' : AH} (hn : H.n ≤ H'.n) (hk : ∀ b, ok b → b < H.n → H'.bk b = H.bk b) (ho : ∀ b, ok b → b < H.n → ok' b) : ∀ {l p}, PL ok H p l → PL ok' H' p l
  | [], _, h => h
  | s :: r, p, ⟨q, sb, so, c, nx, h1, h2, h3, h4, h5, h6, h7, h8, h9, h10⟩ =>
    ⟨q, sb, so, c, nx, h1, ho q h2 h3, Nat.lt_of_lt_of_le h3 hn, (hk q h2 h3).trans h4, ho sb h5 h6, Nat.lt_of_lt_of_le h6 hn, by unfold AH.loadN at h7 ⊢; rw [hk sb h5 h6]; exact h7, h8.mono hn hk ho, h9, PL.mono hn hk ho h10⟩
theorem PL.ext {ok : Nat → Prop} {H H' : AH} {p l} (h : PL ok H p l) (k : Ext H H') : PL ok H' p l := h.mono k.1 (fun b _ hb => k.2 b hb) (fun _ h _ => h)
theorem PL.flat {ok : Nat → Prop} {H : AH} {p : AV} : ∀ {l}, PL ok H p l → p.flat = true
  | [], h => by cases h; rfl
  | s :: r, ⟨q, sb, so, c, nx, h1, _⟩ => by subst h1; rfl
theorem K_iahead_l {ok : Nat → Prop} {f : Sts} {v : AV} {rs : List St1} {Q : Out → Env → AH → Prop} (n : Nat) (hn : n ≤ f.list.length) {G : AH} {p : AV} (base : Nat) (hb : base ≤ G.n) (hok : ∀ b, base ≤ b → ok b) (h : SV ok G v f) (hp : PL ok G p (f.list.drop n ++ rs))
    (hQ : ∀ e G' p', Ext G G' → PL ok G' p' (f.list ++ rs) → get e 1 = some p' → Q (.brk 0) e G') : W Cd (.loop c_iahead_l0) [(0, v), (1, p), (5, .I (n - 1))] G Q := by
  induction n generalizing G p with
  | zero =>
    rw [W_loop_as c_iahead_l0.eq_1]
    simp
    exact hQ _ G p (Ext.refl _) (by simpa using hp) rfl
  | succ n ih =>
    rw [W_loop_as c_iahead_l0.eq_1]
    obtain ⟨s, hs⟩ : ∃ s, f.list[n]? = some s := ⟨_, List.getElem?_eq_getElem (by omega)⟩
    have hbig := h.big
    obtain ⟨b, o, cap, c, e1, ob, hbn, l1, s1⟩ := h.at hs
    have hdrop : f.list.drop n = s :: f.list.drop (n + 1) := by
      obtain ⟨hi, rfl⟩ := List.getElem?_eq_some_iff.1 hs
      exact List.drop_eq_getElem_cons hi
    have x0 := Ext.push G [.ptr b (o + n * 8), p]
    have hp' : PL ok (G.push [.ptr b (o + n * 8), p]) (.ptr G.n 0) (f.list.drop n ++ rs) := by
      rw [hdrop]
      exact ⟨G.n, b, o + n * 8, c, p, rfl, hok _ hb, Nat.lt_succ_self _, push_new, ob, Nat.lt_succ_of_lt hbn, loadN_extE l1 x0 hbn, s1.ext x0, hp.flat, hp.ext x0⟩
    have fp := hp.flat
    have := ih (by omega) (G := G.push [.ptr b (o + n * 8), p]) (p := .ptr G.n 0) (by simp; omega) (h.ext x0) hp' (fun e G' p' x => hQ e G' p' (x0.trans x))
    subst e1
    have hlt : n < f.list.length := by omega
    have e2 : ((n + 1 : Nat) : Int) - 1 = n := by omega
    rw [e2]
    simp (disch := omega) [flat_cells fp, flat_tup fp]
    simpa using this
theorem K_iahead {ok : Nat → Prop} {H : AH} {K : AV → AH → Prop} {w : Fk K} {v p : AV} {f : Sts} {rs : List St1} (base : Nat) (hb : base ≤ H.n) (hok : ∀ b, base ≤ b → ok b) (h : SV ok H v f) (hp : PL ok H p rs)
    (k : ∀ p' H', PL ok H' p' (f.list ++ rs) → Ext H H' → K p' H') : CallF Cd f_iahead [v, p] H K w := by
  rw [CallF_eq e_iahead rfl]
  have hbig := h.big
  simp (disch := omega) [h.alen]
  have := K_iahead_l (ok := ok) (f := f) (v := v) (rs := rs) (Q := ?_) f.list.length (Nat.le_refl _) base hb hok h (by rw [List.drop_length]; exact hp) ?_
  · simpa using this
  · intro e G' p' x u1 u2
    simp [u2]
    exact k p' G' u1 x
end Go.Proofs.YtmecbehegmgbhaaGreat.AM
namespace Go.Proofs.YtmecbehegmgbhaaGreat.AM
set_option linter.unusedSimpArgs false
set_option linter.unusedVariables false
set_option maxRecDepth 100000
set_option maxHeartbeats 2000000
open Go
theorem K_irunning_task_l {ok : Nat → Prop} {base P R' : Nat} {vv' : AV} (hP : P < base) (hR' : R' ≠ P) {Q : Out → Env → AH → Prop} (l : List St1) : ∀ {G : AH} {p g : AV} {f : Sts} {cs : List AV} {B : Nat} (hb : base ≤ G.n) (hp : PL (fun b => b < base ∧ b ≠ P) G p l) (hcp : ∀ s ∈ l, cpT s = true ∧ ctT s ≤ 1000) (hct : f.list.length + l.length ≤ 100000)
    (hg : GrS base G g f.list.length 8 cs B) (hf : SF (fun b => base ≤ b ∧ b ≠ B) G f cs) (gP : G.bk P = some ⟨[vv', g], true⟩)
    (hQ : ∀ e G' g' cs' B', GrS base G' g' (f.list ++ l).length 8 cs' B' → SF (fun b => base ≤ b ∧ b ≠ B') G' (Sts.of (f.list ++ l)) cs' → G'.bk P = some ⟨[vv', g'], true⟩ → (∀ b, b < base → b ≠ P → G'.bk b = G.bk b) → G.n ≤ G'.n → get e 2 = some (.ptr R' 0) → get e 3 = some (.ptr P 0) → Q (.brk 0) e G'),
    W Cd (.loop c_irunning_task_l0) [(2, .ptr R' 0), (3, .ptr P 0), (4, p)] G Q := by
  induction l with
  | nil =>
    intro G p g f cs B hb hp hcp hct hg hf gP hQ
    rw [W_loop_as c_irunning_task_l0.eq_1]
    have : p = .nilp := hp
    subst this
    simp
    exact hQ _ G g cs B (by simpa using hg) (by simpa [Sts.of_list] using hf) gP (fun _ _ _ => rfl) (Nat.le_refl _) rfl rfl
  | cons s r ih =>
    intro G p g f cs B hb hp hcp hct hg hf gP hQ
    rw [W_loop_as c_irunning_task_l0.eq_1]
    obtain ⟨q, sb, so, c, nx, rfl, oq, hq, gq, osb, hsb, l1, s1, fnx, hr⟩ := hp
    have hc8 := s1.len
    obtain ⟨hc1, hc2⟩ := hcp s (by simp)
    have x0 := Ext.push G c
    have hll : f.list.length + 1 + r.length ≤ 100000 := by simp at hct; omega
    have s1' : SV (fun b => b < base ∧ b ≠ P ∨ b = G.n) (G.push c) (.sl G.n 0 1 (.ex 1)) (Sts.of [s]) :=
      ⟨c, ((GrS.new (base := G.n) (G := G) (n := 1) (sz := 8) (cs := c) (Nat.le_refl _) (by omega) (by omega)).ivB (fun _ _ => .inr rfl)), (s1.mono (Nat.le_succ _) (fun b _ hb => x0.2 b hb) (fun b h _ => .inl h)).one⟩
    simp (disch := omega) [load_bk gP, load_bk gq, l1, hc8]
    refine K_istmtsCopy (Sts.of [s]) s1' (by rw [cpS_mem, Sts.list_of]; simp [hc1]) (by rw [ctS_of]; simp; omega) fun v1 H1 cs1 B1 u1 u2 x1 => ?_
    have n1 := x1.1
    simp only [push_n] at n1
    have sv1 : SV (fun b => G.n ≤ b) H1 v1 (Sts.of [s]) := (u1.sv u2).up (by simp)
    obtain ⟨c1, g', G', B', a1, a2, a3, a4, a5, a6, a7, _, _⟩ := hg.appS (r := P) hf (x0.trans x1).st hP hb sv1 (by simp; omega)
    have e2 : alen v1 = some 1 := sv1.alen
    have a2' : aapp H1 8 g 1 c1 = some (g', G') := a2
    have gP' : G'.bk P = some ⟨[vv', g], true⟩ := (a5 P hP).trans (((x0.trans x1).2 P (by omega)).trans gP)
    have st : G'.store P 1 [g'] = some (G'.put P (some ⟨[vv', g'], true⟩)) := store_bk gP' (by simp)
    have o1 : ∀ b, b < base → b ≠ P → (G'.put P (some ⟨[vv', g'], true⟩)).bk b = G.bk b := fun b h1 h2 => by rw [put_bk, if_neg h2, a5 b h1, (x0.trans x1).2 b (by omega)]
    have oP : Only [P] G' (G'.put P (some ⟨[vv', g'], true⟩)) := Only.refl.put (by simp)
    have gq' : (G'.put P (some ⟨[vv', g'], true⟩)).bk q = some ⟨[.ptr sb so, nx], true⟩ := (o1 q oq.1 oq.2).trans gq
    have elist : (Sts.of (f.list ++ (Sts.of [s]).list)).list = f.list ++ [s] := by rw [Sts.list_of, Sts.list_of]
    simp (disch := omega) [-AM.elems, x1, a1, e2, a2', flat_cells a7, flat_tup a7, st]
    simp (disch := omega) [load_bk gq']
    refine ih (f := Sts.of (f.list ++ (Sts.of [s]).list)) (cs := cs ++ c1) (B := B') (g := g') (by simp; omega) (hr.mono (by simp; omega) (fun b h _ => o1 b h.1 h.2) (fun _ h _ => h)) (fun s' hs' => hcp s' (by simp [hs'])) (by rw [elist]; simp; omega) (a3.only oP (by simp; omega)) (SF.mono (H := G') (H' := G'.put P (some ⟨[vv', g'], true⟩)) (Nat.le_refl _) (fun b hb' _ => by rw [put_bk, if_neg (by omega)]) (fun _ h _ => h) a4) put_same
      (fun e G2 g2 cs2 B2 w1 w2 w3 w4 w5 w6 w7 => hQ e G2 g2 cs2 B2 (by rw [elist] at w1; simpa using w1) (by rw [elist] at w2; simpa using w2) w3 (fun b h1 h2 => (w4 b h1 h2).trans (o1 b h1 h2)) (by simp at w5; omega) w6 w7)
theorem K_irunning_task {ok : Nat → Prop} {H : AH} {K : AV → AH → Prop} {w : Fk K} {R : Nat} {vv p : AV} {vars : List Int} {l : List St1} (gR : H.bk R = some ⟨[vv, p], true⟩) (hRn : R < H.n) (hv : Src H vv vars) (h4 : vars.length ≤ 1000)
    (hp : PL ok H p l) (hcp : ∀ s ∈ l, cpT s = true ∧ ctT s ≤ 1000) (hct : l.length ≤ 100000)
    (k : ∀ c H', TC (fun b => H.n ≤ b) H' c ⟨vars, Sts.of l⟩ → Ext H H' → K (.agg c) H') : CallF Cd f_irunning_task [.ptr R 0] H K w := by
  rw [CallF_eq e_irunning_task rfl]
  have x0 := Ext.push H [.nils, .nils]
  have gR0 := push_old (cs := [AV.nils, .nils]) hRn gR
  simp [load_bk gR0]
  refine K_cloneG (hv.ext x0) (by omega) fun vv' H1 V g1 x1 => ?_
  have n1 := x1.1
  simp only [push_n] at n1
  have fv := g1.flat
  have gR1 : (H1.push [vv', .nils]).bk R = _ := push_old (by omega) ((x1.2 _ (by simp; omega)).trans gR0)
  have x2 := Ext.push H1 [vv', .nils]
  simp [flat_cells fv, flat_tup fv, AH.store, push_put, load_bk gR1]
  have X := (x0.trans x1).trans x2
  have := K_irunning_task_l (ok := ok) (base := H1.n + 1) (P := H1.n) (R' := H.n) (vv' := vv') (by omega) (by omega) (Q := ?_) l (G := H1.push [vv', .nils]) (p := p) (g := .nils) (f := .nil) (cs := []) (B := 0) (by simp)
    (hp.mono X.1 (fun b _ hb => X.2 b hb) (fun b _ hb => by omega)) hcp (by simpa using hct) GrS.nils rfl push_new ?_
  · simpa using this
  · intro e G g cs B u1 u2 u3 u4 u5 u6 u7
    simp only [Exs.list, Sts.list, List.nil_append] at u1 u2
    simp at u5
    have qR : G.bk H.n = some ⟨[.nils, .nils], true⟩ := (u4 _ (by omega) (by omega)).trans (push_old (by omega) ((x1.2 _ (by simp)).trans push_new))
    have l3 : G.loadN H1.n 0 2 = some [vv', g] := by rw [loadN_bk u3]; rfl
    have st : G.store H.n 0 [vv', g] = some (G.put H.n (some ⟨[vv', g], true⟩)) := store_bk qR (by simp)
    simp [u6, u7, l3, st, loadN_bk put_same]
    have hk : ∀ b, b ≠ H.n → (G.put H.n (some ⟨[vv', g], true⟩)).bk b = G.bk b := fun b hb => by rw [put_bk, if_neg hb]
    have iv : IV (fun b => H.n + 1 ≤ b ∧ b < H1.n) H1 vv' vars := g1.ivB (fun a b => ⟨by simpa using a, b⟩)
    refine k _ _ ⟨vv', g, rfl, iv.mono (by simp; omega) (fun b hb hb2 => by rw [hk b (by omega), u4 b (by omega) (by omega), push_old hb2 rfl]) (fun b hb _ => by omega), ?_⟩ ⟨by simp; omega, fun b hb => ?_⟩
    · have : SV (fun b => H1.n + 1 ≤ b) G g (Sts.of l) := GrS.sv (by rw [Sts.list_of]; exact u1) u2
      exact this.mono (by simp) (fun b hb _ => hk b (by omega)) (fun b hb _ => by omega)
    · rw [hk b (by omega), u4 b (by omega) (by omega), X.2 b hb]
theorem K_iBox_put {H : AH} {K : AV → AH → Prop} {w : Fk K} {B o base I : Nat} {room x : Int} {vi : AV} {l : List Int} (hl : H.loadN B o 2 = some [.I room, vi]) (hB : B < H.n) (hw : ∃ cs, H.bk B = some ⟨cs, true⟩ ∧ o + 2 ≤ cs.length) (hi : ISl base H vi l I) (hbase : base ≤ H.n) (hBI : B ∉ grB vi I) (hr : l.length ≤ room ∧ room ≤ 100)
    (k1 : (l.length : Int) = room → K (.b false) H)
    (k2 : (l.length : Int) < room → ∀ v' I' H1 H', ISl base H1 v' (l ++ [x]) I' → ((I' = I ∧ I ∈ grB vi I) ∨ (H.n ≤ I')) → Only (grB vi I) H H1 → B < H1.n → I' < H1.n → H1.store B (o + 1) [v'] = some H' → v'.flat = true → K (.b true) H') : CallF Cd f_iBox_put [.ptr B o, .I x] H K w := by
  rw [CallF_eq e_iBox_put rfl]
  have l0 := loadN_get hl (i := 0) (by omega)
  have l1 := loadN_get hl (i := 1) (by omega)
  simp at l0 l1
  have ha := hi.sees.1
  by_cases hq : (l.length : Int) = room
  · have hq' : ¬ (l.length : Int) ≠ room := by omega
    simp (disch := omega) [l0, l1, ha, hq]
    exact k1 hq
  · obtain ⟨v', G', I', a1, a2, a3, a4, a5, n4⟩ := hi.push1 hbase (x := x) (by omega)
    obtain ⟨cs, q1, q2⟩ := hw
    have q3 : G'.bk B = some ⟨cs, true⟩ := a4.bk hB hBI q1
    obtain ⟨H', st⟩ : ∃ H', G'.store B (o + 1) [v'] = some H' := ⟨_, store_bk (o := o + 1) (vs := [v']) q3 (by simp; omega)⟩
    simp (disch := omega) [l0, l1, ha, hq, loadN_push, a1, flat_cells a5, flat_tup a5, st]
    refine k2 (by omega) v' I' G' _ a2 (a3.imp id (fun q => by omega)) a4 (by omega) ?_ st a5
    rcases a2.2 with q | q
    · have := congrArg List.length q.2; simp at this
    · exact q.2.1
theorem K_iBox_take {H : AH} {K : AV → AH → Prop} {w : Fk K} {B o base I : Nat} {room : Int} {vi : AV} {l : List Int} (hl : H.loadN B o 2 = some [.I room, vi]) (hB : B < H.n) (hw : ∃ cs, H.bk B = some ⟨cs, true⟩ ∧ o + 2 ≤ cs.length) (hi : ISl base H vi l I) (hBI : B ∉ grB vi I)
    (k1 : l = [] → K (.tup [.I 0, .b false]) H)
    (k2 : ∀ y q, l = y :: q → ∀ v' H1 H', ISl base H1 v' q I → Only [I] H H1 → grB vi I = [I] → B < H1.n → H1.store B (o + 1) [v'] = some H' → v'.flat = true → K (.tup [.I y, .b true]) H') : CallF Cd f_iBox_take [.ptr B o] H K w := by
  rw [CallF_eq e_iBox_take rfl]
  have l0 := loadN_get hl (i := 0) (by omega)
  have l1 := loadN_get hl (i := 1) (by omega)
  simp at l0 l1
  have ha := hi.sees.1
  cases l with
  | nil =>
    have ha' : alen vi = some 0 := ha
    simp (disch := omega) [l0, l1, ha']
    exact k1 rfl
  | cons y q =>
    obtain ⟨v0, v1, v', G', a1, a2, a3, a4, a5, a6, a7, a8, a9, a10, a11⟩ := hi.pop
    obtain ⟨cs, q1, q2⟩ := hw
    have hbi : B ∉ [I] := by rw [← a11]; exact hBI
    have q3 : G'.bk B = some ⟨cs, true⟩ := a7.bk hB hbi q1
    obtain ⟨H', st⟩ : ∃ H', G'.store B (o + 1) [v'] = some H' := ⟨_, store_bk (o := o + 1) (vs := [v']) q3 (by simp; omega)⟩
    obtain ⟨bv, ov, s1, s2, s3⟩ := hi.sees.at (i := 0) (by simp)
    simp at s3
    have ha' : alen vi = some (q.length + 1) := ha
    have hz : ¬ ((q.length : Int) + 1 = 0) := by omega
    have hz2 : ¬ ((q.length + 1 : Nat) : Int) = 0 := by omega
    have hl1 := hi.1
    simp at hl1 s1
    simp (disch := omega) [-AM.elems, l0, l1, ha', hz, s1, s3, a1, a2, a3, a4, a5, flat_cells a8, flat_tup a8, st]
    exact k2 y q rfl v' G' _ a6 a7 a11 (by have := a7.1; omega) st a8
end Go.Proofs.YtmecbehegmgbhaaGreat.AM
namespace Go.Proofs.YtmecbehegmgbhaaGreat.AM
set_option linter.unusedSimpArgs false
set_option linter.unusedVariables false
set_option maxRecDepth 100000
set_option maxHeartbeats 2000000
open Go
def cellsB : List Bx → List (AV × Nat) → List AV
  | x :: l, p :: r => .I x.room :: p.1 :: cellsB l r
  | _, _ => []
theorem cellsB_get : ∀ {l : List Bx} {r : List (AV × Nat)} {i : Nat} {x : Bx} {p : AV × Nat}, l[i]? = some x → r[i]? = some p → seg (cellsB l r) (i * 2) 2 = some [.I x.room, p.1]
  | x :: l, p :: r, 0, _, _, h1, h2 => by simp at h1 h2; subst h1 h2; simp [cellsB, seg]
  | x :: l, p :: r, i + 1, y, q, h1, h2 => by
    have := cellsB_get (l := l) (r := r) (i := i) (by simpa using h1) (by simpa using h2)
    rw [← this]
    unfold seg
    rw [show (i + 1) * 2 = i * 2 + 2 by omega]
    simp only [cellsB, List.length_cons, List.drop_succ_cons]
    by_cases hq : i * 2 + 2 ≤ (cellsB l r).length
    · rw [if_pos (by omega), if_pos hq]
    · rw [if_neg (by omega), if_neg hq]
  | [], _, i, _, _, h1, _ => by simp at h1
  | _ :: _, [], i, _, _, _, h2 => by simp at h2
theorem cellsB_set : ∀ {l : List Bx} {r : List (AV × Nat)} {i : Nat} {x : Bx} {p : AV × Nat} {q : List Int} {v' : AV} {I' : Nat}, l[i]? = some x → r[i]? = some p → splice (cellsB l r) (i * 2 + 1) [v'] = cellsB (l.set i ⟨x.room, q⟩) (r.set i (v', I'))
  | x :: l, p :: r, 0, _, _, _, _, _, h1, h2 => by simp at h1 h2; subst h1 h2; simp [cellsB, splice]
  | x :: l, p :: r, i + 1, y, q', q, v', I', h1, h2 => by
    have := cellsB_set (l := l) (r := r) (i := i) (q := q) (v' := v') (I' := I') (by simpa using h1) (by simpa using h2)
    simp only [List.set_cons_succ, cellsB]
    rw [← this]
    unfold splice
    rw [show (i + 1) * 2 + 1 = i * 2 + 1 + 2 by omega, show i * 2 + 1 + 2 + [v'].length = i * 2 + 1 + [v'].length + 2 by simp]
    simp [List.take_succ_cons]
  | [], _, i, _, _, _, _, _, h1, _ => by simp at h1
  | _ :: _, [], i, _, _, _, _, _, _, h2 => by simp at h2
def RB (base : Nat) (H : AH) (v : AV) (bs : List Bx) (B : Nat) (rs : List (AV × Nat)) : Prop :=
  rs.length = bs.length ∧ GrS base H v bs.length 2 (cellsB bs rs) B ∧ (∀ (i : Nat) (x : Bx) (p : AV × Nat), bs[i]? = some x → rs[i]? = some p → ISl base H p.1 x.items p.2 ∧ B ∉ grB p.1 p.2) ∧
    (∀ (i j : Nat) (p q : AV × Nat), i ≠ j → rs[i]? = some p → rs[j]? = some q → ∀ b ∈ grB p.1 p.2, b ∉ grB q.1 q.2) ∧ (bs = [] → v = .nils)
def fpB (B : Nat) (rs : List (AV × Nat)) : List Nat := if rs = [] then [] else B :: rs.flatMap fun p => grB p.1 p.2
theorem mem_fpB {B : Nat} {rs : List (AV × Nat)} {b : Nat} : b ∈ fpB B rs ↔ (rs ≠ [] ∧ b = B) ∨ ∃ p ∈ rs, b ∈ grB p.1 p.2 := by
  unfold fpB
  by_cases h : rs = []
  · simp [h]
  · simp [h]
theorem RB.onlyA {base H H' v bs B rs cs} (h : RB base H v bs B rs) (k : Only cs H H') (hc : ∀ b ∈ cs, b < base ∨ b ∉ fpB B rs) : RB base H' v bs B rs := by
  obtain ⟨h1, h2, h3, h4⟩ := h
  refine ⟨h1, ?_, fun i x p hx hp => ⟨(h3 i x p hx hp).1.only k fun b hb hm => ?_, (h3 i x p hx hp).2⟩, h4⟩
  · by_cases hbs : bs = []
    · have := h4.2 hbs
      subst this hbs
      exact ⟨h2.1, h2.2.1, .inl ⟨rfl, rfl⟩⟩
    refine h2.only k fun b hb => ?_
    rcases hc b hb with q | q
    · exact .inl q
    · exact .inr (fun e => q (by rw [e, mem_fpB]; exact .inl ⟨fun e => hbs (List.eq_nil_of_length_eq_zero (by rw [← h1, e]; rfl)), rfl⟩))
  · rcases hc b hb with q | q
    · have := (h3 i x p hx hp).1.mem hm; omega
    · exact q (mem_fpB.2 (.inr ⟨p, List.mem_of_getElem? hp, hm⟩))
theorem RB.only {base H H' v bs B rs cs} (h : RB base H v bs B rs) (k : Only cs H H') (hc : ∀ b ∈ cs, b < base ∨ b ∉ fpB B rs) (_ : bs ≠ []) : RB base H' v bs B rs := h.onlyA k hc
theorem ne_nil_of_get {α : Type} {l : List α} {i : Nat} {x : α} (h : l[i]? = some x) : l ≠ [] := by rintro rfl; simp at h
theorem RB.at {base H v bs B rs} (h : RB base H v bs B rs) {i : Nat} {x : Bx} (hx : bs[i]? = some x) : ∃ p cap, rs[i]? = some p ∧ v = .sl B 0 bs.length cap ∧ base ≤ B ∧ B < H.n ∧ H.loadN B (i * 2) 2 = some [.I x.room, p.1] ∧ (∃ cs, H.bk B = some ⟨cs, true⟩ ∧ i * 2 + 2 ≤ cs.length) ∧ ISl base H p.1 x.items p.2 ∧ B ∉ grB p.1 p.2 := by
  obtain ⟨h1, h2, h3, h4⟩ := h
  have hi := (List.getElem?_eq_some_iff.1 hx).1
  obtain ⟨p, hp⟩ : ∃ p, rs[i]? = some p := ⟨_, List.getElem?_eq_getElem (by omega)⟩
  obtain ⟨q1, q2, q3⟩ := h2
  have hc := cellsB_get hx hp
  refine ⟨p, ?_⟩
  rcases q3 with ⟨_, q4⟩ | ⟨q4, q5, ⟨q6, q7⟩ | ⟨c, ex, q6, q7, q8, q9⟩⟩
  · omega
  · exact ⟨_, hp, q6, q4, q5, by rw [loadN_bk q7]; exact hc, ⟨_, q7, by omega⟩, h3 i x p hx hp⟩
  · refine ⟨_, hp, q6, q4, q5, ?_, ⟨_, q9, by simp; omega⟩, h3 i x p hx hp⟩
    rw [loadN_bk q9, ← hc]
    unfold seg
    rw [if_pos (by simp; omega), if_pos (by omega), List.drop_append_of_le_length (by omega), List.take_append_of_le_length (by simp; omega)]
theorem RB.upd {base : Nat} {H H1 H' : AH} {v : AV} {bs : List Bx} {B : Nat} {rs : List (AV × Nat)} (h : RB base H v bs B rs) {i : Nat} {x : Bx} {p : AV × Nat} (hx : bs[i]? = some x) (hp : rs[i]? = some p) {v' : AV} {I' : Nat} {l : List Int}
    (hi : ISl base H1 v' l I') (hI : (I' = p.2 ∧ p.2 ∈ grB p.1 p.2) ∨ H.n ≤ I') (hb : base ≤ H.n) (ho : Only (grB p.1 p.2) H H1) (hst : H1.store B (i * 2 + 1) [v'] = some H') :
    RB base H' v (bs.set i ⟨x.room, l⟩) B (rs.set i (v', I')) ∧ Only (fpB B rs) H H' ∧ H'.n = H1.n := by
  have hat := h.at hx
  obtain ⟨p', cap, e1, e2, e3, e4, e5, e6, e7, e8⟩ := hat
  rw [hp] at e1; cases e1
  obtain ⟨h1, h2, h3, h4⟩ := h
  have hi' := (List.getElem?_eq_some_iff.1 hx).1
  have g1 : GrS base H1 v bs.length 2 (cellsB bs rs) B := h2.only ho (fun b hb => .inr (fun e => e8 (by rw [← e]; exact hb)))
  obtain ⟨cap', H2, f1, f2, f3, f4, f5, f6⟩ := g1.storeAt (o := i * 2 + 1) (c := [v']) (by simp) (by simp; omega)
  rw [hst] at f2
  cases f2
  have hn : H'.n = H1.n := by
    unfold AH.store at hst
    split at hst
    · split at hst
      · cases hst; rfl
      · cases hst
    · cases hst
  have hmem : ∀ b, b ∈ grB v' I' → b = I' ∧ base ≤ I' ∧ I' < H1.n := fun b hb => hi.mem hb
  have oldm : ∀ (j : Nat) (y : Bx) (q : AV × Nat), bs[j]? = some y → rs[j]? = some q → ∀ b ∈ grB q.1 q.2, b < H.n := fun j y q hy hq b hb => by have := (h3 j y q hy hq).1.mem hb; omega
  have hBI : B ∉ grB v' I' := fun hm => by
    have := hmem B hm
    rcases hI with q | q
    · exact e8 (by rw [this.1, q.1]; exact q.2)
    · omega
  have gety : ∀ j q, rs[j]? = some q → ∃ y, bs[j]? = some y := fun j q hq => ⟨_, List.getElem?_eq_getElem (by have := (List.getElem?_eq_some_iff.1 hq).1; omega)⟩
  refine ⟨⟨by simp [h1], ?_, fun j y q hy hq => ?_, fun j j' q q' hjj hq hq' b hb hb' => ?_, fun e => absurd ((List.set_eq_nil_iff ..).1 e) (ne_nil_of_get hx)⟩, ?_, hn⟩
  · rw [← cellsB_set hx hp]; simpa using f3
  · by_cases hj : j = i
    · subst hj
      rw [List.getElem?_set_self (by omega)] at hy
      rw [List.getElem?_set_self (by omega)] at hq
      cases hy; cases hq
      exact ⟨hi.only f4 (by simpa using hBI), hBI⟩
    · rw [List.getElem?_set_ne (by omega)] at hy hq
      obtain ⟨k1, k2⟩ := h3 j y q hy hq
      exact ⟨(k1.only ho (fun b hb hm => h4.1 i j p q (by omega) hp hq b hb hm)).only f4 (by simpa using k2), k2⟩
  · by_cases hj : j = i
    · subst hj
      rw [List.getElem?_set_self (by omega)] at hq
      cases hq
      rw [List.getElem?_set_ne (by omega)] at hq'
      have := hmem b hb
      obtain ⟨y', hy'⟩ := gety j' q' hq'
      rcases hI with q | q
      · exact h4.1 j j' p q' hjj hp hq' b (by rw [this.1, q.1]; exact q.2) hb'
      · have := oldm j' y' q' hy' hq' b hb'; omega
    · rw [List.getElem?_set_ne (by omega)] at hq
      by_cases hj' : j' = i
      · subst hj'
        rw [List.getElem?_set_self (by omega)] at hq'
        cases hq'
        have := hmem b hb'
        obtain ⟨y, hy⟩ := gety j q hq
        rcases hI with z | z
        · exact h4.1 j j' q p hjj hq hp b hb (by rw [this.1, z.1]; exact z.2)
        · have := oldm j y q hy hq b hb; omega
      · rw [List.getElem?_set_ne (by omega)] at hq'
        exact h4.1 j j' q q' hjj hq hq' b hb hb'
  · refine Only.trans ⟨ho.1, fun b hb hm => ho.2 b hb (fun hq => hm ?_)⟩ ⟨f4.1, fun b hb hm => f4.2 b hb (fun hq => hm ?_)⟩
    · exact mem_fpB.2 (.inr ⟨p, List.mem_of_getElem? hp, hq⟩)
    · exact mem_fpB.2 (.inl ⟨ne_nil_of_get hp, by simpa using hq⟩)
end Go.Proofs.YtmecbehegmgbhaaGreat.AM
namespace Go.Proofs.YtmecbehegmgbhaaGreat.AM
set_option linter.unusedSimpArgs false
set_option linter.unusedVariables false
set_option maxRecDepth 100000
set_option maxHeartbeats 2000000
open Go
theorem app_newI {H : AH} {b : Nat} {l : List Int} (hb : H.bk b = some ⟨[], true⟩) (hbn : b < H.n) {base : Nat} (hbb : base ≤ b) (hl : l.length ≤ 1000) : ∃ v H' B, aapp H 1 (.sl b 0 0 (.ex 0)) l.length (Ints l) = some (v, H') ∧ Ext H H' ∧ ISl base H' v l B ∧ v.flat = true := by
  by_cases h0 : l.length = 0
  · have : l = [] := List.eq_nil_of_length_eq_zero h0
    subst this
    exact ⟨.sl b 0 0 (.ex 0), H, b, by simp [aapp], Ext.refl _, ⟨by simp, .inr ⟨hbb, hbn, .inl ⟨rfl, rfl, hb⟩⟩⟩, rfl⟩
  · refine ⟨.sl H.n 0 l.length (.lb l.length 1), H.push (Ints l), H.n, ?_, Ext.push _ _, ⟨hl, .inr ⟨by omega, Nat.lt_succ_self _, .inr ⟨l.length, [], rfl, Nat.le_refl _, by simp, by rw [List.append_nil]; exact push_new⟩⟩⟩, rfl⟩
    unfold aapp
    simp only [if_neg h0, Nat.zero_add, Nat.zero_mul]
    rw [if_neg (show ¬ big < l.length by unfold big; omega)]
    have hs : H.loadN b 0 0 = some [] := by rw [loadN_bk hb]; rfl
    simp only [hs, List.nil_append]
    rw [if_neg (by omega)]
theorem K_cloneI {H : AH} {K : AV → AH → Prop} {w : Fk K} {v : AV} {l : List Int} (h : Src H v l) (hl : l.length ≤ 1000) (k : ∀ v' H' B, ISl H.n H' v' l B → Ext H H' → K v' H') : CallF Cd f_slices_Clone_int_int [v] H K w := by
  rw [CallF_eq e_slices_Clone_int_int rfl]
  have e1 := (h.ext (Ext.push H [])).elems
  have e2 := h.sees.1
  obtain ⟨h0, ⟨rfl, rfl⟩ | h'⟩ := h
  · simp
    exact k _ H 0 ⟨by simp, .inl ⟨rfl, rfl⟩⟩ (Ext.refl _)
  · obtain ⟨v', H', B, a1, a2, a3, a4⟩ := app_newI (l := l) (push_new (H := H) (cs := [])) (Nat.lt_succ_self _) (Nat.le_refl _) hl
    rcases h' with ⟨rfl, rfl⟩ | ⟨b1, o1, c1, rfl, _⟩
    · simp only [List.length_nil] at a1
      simp [-AM.elems, e1, e2, a1]
      exact k _ _ B a3 ((Ext.push _ _).trans a2)
    · simp [-AM.elems, e1, e2, a1]
      exact k _ _ B a3 ((Ext.push _ _).trans a2)
theorem cellsB_snoc : ∀ {l : List Bx} {r : List (AV × Nat)} {x : Bx} {p : AV × Nat}, r.length = l.length → cellsB l r ++ [.I x.room, p.1] = cellsB (l ++ [x]) (r ++ [p])
  | [], [], _, _, _ => rfl
  | y :: l, q :: r, x, p, h => by simp only [cellsB, List.cons_append, cellsB_snoc (l := l) (r := r) (x := x) (p := p) (by simpa using h)]
  | [], _ :: _, _, _, h => by simp at h
  | _ :: _, [], _, _, h => by simp at h
theorem R_iboxesCopy_l {l : List Bx} (hll : l.length ≤ 1000) (hit : ∀ x ∈ l, x.items.length ≤ 1000) {base : Nat} {v : AV}
    {Q : Out → Env → AH → Prop} (m i : Nat) (him : i + m = l.length) {G : AH} {g : AV} {B : Nat} {rs : List (AV × Nat)} (hb : base ≤ G.n) (hv : BV (fun b => b < base) G v l) (hg : RB base G g (l.take i) B rs)
    (hQ : ∀ G' g' B' rs', RB base G' g' l B' rs' → (∀ b, b < base → G'.bk b = G.bk b) → G.n ≤ G'.n → Q (.brk 0) [(9, .b false), (3, g'), (6, v), (7, .I l.length), (8, .I l.length)] G') :
    W Cd (.loop c_iboxesCopy_l0) [(3, g), (6, v), (7, .I l.length), (8, .I i)] G Q := by
  induction m generalizing i G g B rs with
  | zero =>
    rw [W_loop_as c_iboxesCopy_l0.eq_1]
    have hi : i = l.length := by omega
    subst hi
    simp
    rw [List.take_length] at hg
    exact hQ G g B rs hg (fun _ _ => rfl) (Nat.le_refl _)
  | succ m ihm =>
    rw [W_loop_as c_iboxesCopy_l0.eq_1]
    have hi : i < l.length := by omega
    obtain ⟨s, hs⟩ : ∃ s, l[i]? = some s := ⟨_, List.getElem?_eq_getElem hi⟩
    have hmem := List.mem_of_getElem? hs
    have htl : (l.take i).length = i := by simp; omega
    obtain ⟨b, o, cap, vi, e1, ob, hbn, l1, iv⟩ := hv.at hs
    have q0 : (G.push [.I s.room, vi]).bk G.n = some ⟨[.I s.room, vi], true⟩ := push_new
    have x0 := Ext.push G [.I s.room, vi]
    have hlt : (i : Int) < l.length := by omega
    subst e1
    simp (disch := omega) [hlt, l1, AH.store, push_put, load_bk q0]
    refine K_cloneI (iv.ext x0).src (hit s hmem) fun vi' H1 B1 g1 x1 => ?_
    have f1 := g1.flat
    have n1 := x1.1
    simp only [push_n] at n1
    have x7 := (x0.trans x1).trans (Ext.push H1 [.I s.room, vi'])
    obtain ⟨r1, r2, r3, r4⟩ := hg
    obtain ⟨g', G', B', a1, a2, a3, a4⟩ := (r2.ext x7).app (by simp; omega) (k := 1) (new := [.I s.room, vi']) rfl (by omega)
    have n4 := a4.1
    simp only [push_n] at n4 a3
    have hmB : ∀ b, b ∈ grB g B → b = B ∧ base ≤ B ∧ B < G.n := fun b hb => r2.mem hb
    have hB : (B' = B ∧ base ≤ B ∧ B < G.n ∧ B ∈ grB g B) ∨ B' = H1.n + 1 := by
      rcases a3 with q | q
      · exact .inl ⟨q.1, (hmB _ q.2).2.1, (hmB _ q.2).2.2, q.2⟩
      · exact .inr q
    have hm1 : ∀ b, b ∈ grB vi' B1 → b = B1 ∧ G.n + 1 ≤ B1 ∧ B1 < H1.n := fun b hb => by have := g1.mem hb; simpa using this
    have old : ∀ (j : Nat) (q : AV × Nat), rs[j]? = some q → ∃ y, (l.take i)[j]? = some y ∧ ISl base G q.1 y.items q.2 ∧ B ∉ grB q.1 q.2 := fun j q hq => by
      obtain ⟨y, hy⟩ : ∃ y, (l.take i)[j]? = some y := ⟨_, List.getElem?_eq_getElem (by have := (List.getElem?_eq_some_iff.1 hq).1; omega)⟩
      exact ⟨y, hy, r3 j y q hy hq⟩
    have oldm : ∀ (j : Nat) (q : AV × Nat), rs[j]? = some q → ∀ b ∈ grB q.1 q.2, b < G.n := fun j q hq b hb => by obtain ⟨y, _, h1, _⟩ := old j q hq; have := h1.mem hb; omega
    have hrl : rs.length = i := by rw [r1, htl]
    simp (disch := omega) [x1, flat_cells f1, flat_tup f1, loadN_push, a1]
    have hk : ∀ b, b < base → G'.bk b = G.bk b := fun b hb' => by
      rw [a4.2 b (by simp; omega) (fun hq => by have := hmB b hq; omega), x7.2 b (by omega)]
    have rb : RB base G' g' (l.take (i + 1)) B' (rs ++ [(vi', B1)]) := by
      rw [take_snoc hs]
      refine ⟨by simp [r1], ?_, fun j y q hy hq => ?_, fun j j' q q' hjj hq hq' b hb1 hb2 => ?_, fun e => by simp at e⟩
      · rw [← cellsB_snoc (by rw [r1])]; simpa using a2
      · by_cases hj : j < i
        · rw [List.getElem?_append_left (by omega)] at hy hq
          obtain ⟨k1, k2⟩ := r3 j y q hy hq
          refine ⟨(k1.only (bs := []) x7.only (by simp)).only a4 (fun b hb1 hb2 => k2 (by rw [← (hmB b hb1).1]; exact hb2)), fun hm => ?_⟩
          rcases hB with z | z
          · exact k2 (by rw [← z.1]; exact hm)
          · have := oldm j q hq _ hm; omega
        · have hj' : j = i := by
            have := (List.getElem?_eq_some_iff.1 hq).1
            rw [List.length_append, hrl, List.length_singleton] at this; omega
          subst hj'
          rw [List.getElem?_append_right (by omega), htl, Nat.sub_self] at hy
          rw [List.getElem?_append_right (by omega), hrl, Nat.sub_self] at hq
          simp at hy hq
          subst hy hq
          refine ⟨?_, fun hm => by have := hm1 _ hm; omega⟩
          have g2 : ISl base H1 vi' s.items B1 := by
            obtain ⟨z1, z2 | ⟨z3, z4⟩⟩ := g1
            · exact ⟨z1, .inl z2⟩
            · exact ⟨z1, .inr ⟨by have : G.n + 1 ≤ B1 := z3; omega, z4⟩⟩
          exact (g2.only (bs := []) (Ext.push H1 [.I s.room, vi']).only (by simp)).only a4 (fun b hb1 hb2 => by have := hmB b hb1; have := hm1 b hb2; omega)
      · have key : ∀ (j : Nat) (q : AV × Nat), (rs ++ [(vi', B1)])[j]? = some q → (j < i ∧ rs[j]? = some q) ∨ (j = i ∧ q = (vi', B1)) := fun j q hq => by
          by_cases hj : j < i
          · rw [List.getElem?_append_left (by omega)] at hq; exact .inl ⟨hj, hq⟩
          · have := (List.getElem?_eq_some_iff.1 hq).1
            rw [List.length_append, hrl, List.length_singleton] at this
            have hj' : j = i := by omega
            subst hj'
            rw [List.getElem?_append_right (by omega), hrl, Nat.sub_self] at hq
            simp at hq
            exact .inr ⟨rfl, hq.symm⟩
        rcases key j q hq with ⟨u1, u2⟩ | ⟨u1, rfl⟩ <;> rcases key j' q' hq' with ⟨w1, w2⟩ | ⟨w1, rfl⟩
        · exact r4.1 j j' q q' hjj u2 w2 b hb1 hb2
        · have := oldm j q u2 b hb1; have := hm1 b hb2; omega
        · have := oldm j' q' w2 b hb2; have := hm1 b hb1; omega
        · omega
    have := ihm (i + 1) (by omega) (G := G') (g := g') (B := B') (rs := rs ++ [(vi', B1)]) (by omega) (hv.mono (by omega) (fun b hb' _ => hk b hb') (fun _ h _ => h)) rb (fun G2 g2 B2 rs2 u1 u2 u3 => hQ G2 g2 B2 rs2 u1 (fun b hb' => (u2 b hb').trans (hk b hb')) (by omega))
    simpa using this
theorem R_iboxesCopy {ok : Nat → Prop} {H : AH} {K : AV → AH → Prop} {w : Fk K} {v : AV} {l : List Bx} (h : BV ok H v l) (hl : l.length ≤ 1000) (hit : ∀ x ∈ l, x.items.length ≤ 1000)
    (k : ∀ v' B rs H', RB H.n H' v' l B rs → Ext H H' → K v' H') : CallF Cd f_iboxesCopy [v] H K w := by
  rw [CallF_eq e_iboxesCopy rfl]
  have hbig := h.big
  simp (disch := omega) [h.alen]
  have := R_iboxesCopy_l hl hit (Q := ?_) l.length 0 (by omega) (base := H.n) (G := H) (g := .nils) (B := H.n) (rs := []) (v := v) (Nat.le_refl _)
    (h.mono (Nat.le_refl _) (fun b _ hb => rfl) (fun b _ hb => hb)) ⟨rfl, GrS.nils, by simp, by simp, fun _ => rfl⟩ ?_
  · simpa using this
  · intro G g B rs u1 u2 u3
    simp
    exact k g B rs G u1 ⟨u3, u2⟩
end Go.Proofs.YtmecbehegmgbhaaGreat.AM
