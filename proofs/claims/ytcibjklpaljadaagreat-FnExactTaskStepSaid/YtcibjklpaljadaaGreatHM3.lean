/-
  The abstract machine and its walks, merged by program out of smaller texts (part 3). No condition.
-/
import Derived.Test.YtcibjklpaljadaaGreatHCd
namespace Go.Proofs.YtcibjklpaljadaaGreat.AM
set_option linter.unusedSimpArgs false
set_option linter.unusedVariables false
open Go

def isW (n : Int) : Bool := decide (-2147483648 ≤ n ∧ n ≤ 2147483647)
def bitsM (u low many : Int) : Int := if 0 ≤ u ∧ u ≤ 4294967295 ∧ 0 ≤ low ∧ low ≤ 31 ∧ 1 ≤ many ∧ many ≤ 32 - low then u / 2 ^ low.toNat % 2 ^ many.toNat else 0
def wrapM (n : Int) : Int := (n + 2147483648) % 4294967296 - 2147483648

section
variable {H : AH} {K : AV → AH → Prop} {n u low many lo hi : Int} {w : Fk K}
theorem K_iWordValid : CallF Cd f_iWordValid [.I n] H K w = K (.b (isW n)) H := by
  rw [CallF_eq e_iWordValid rfl]
  simp
  repeat' (refine cnd_iff (fun h => ?_) (fun h => ?_) <;> try simp (disch := omega) [*])
  all_goals (refine Kb_fin ?_; simp [isW]; try omega)
theorem K_sl6In : CallF Cd f_sl6In [.I n, .I lo, .I hi] H K w = K (.b (decide (lo ≤ n ∧ n ≤ hi))) H := by
  rw [CallF_eq e_sl6In rfl]
  simp
  repeat' (refine cnd_iff (fun h => ?_) (fun h => ?_) <;> try simp (disch := omega) [*])
  all_goals (refine Kb_fin ?_; simp; try omega)
theorem K_sWordValid : CallF Cd f_sWordValid [.I n] H K w = K (.b (isW n)) H := by
  rw [CallF_eq e_sWordValid rfl]
  simp [K_sl6In, isW]
theorem wrap_i32 : IntKind.i32.wrap n = wrapM n := by
  unfold IntKind.wrap wrapM
  simp [IntKind.bits, IntKind.signed]
  split <;> omega
theorem wrapM_lt : -2147483648 ≤ wrapM n ∧ wrapM n ≤ 2147483647 := by unfold wrapM; omega
theorem K_iWrap : CallF Cd f_iWrap [.I n] H K w = K (.I (wrapM n)) H := by
  rw [CallF_eq e_iWrap rfl]
  have := @wrapM_lt n
  simp (disch := omega) [wrap_i32]
theorem K_sWrap : CallF Cd f_sWrap [.I n] H K w = K (.I (wrapM n)) H := by
  rw [CallF_eq e_sWrap rfl]
  have h1 : n.tmod 4294967296 < 4294967296 := Int.tmod_lt_of_pos _ (by omega)
  have h2 : -4294967296 < n.tmod 4294967296 := by have := Int.lt_tmod_of_pos n (show (0:Int) < 4294967296 by omega); omega
  have h3 : ∃ q : Int, n = 4294967296 * q + n.tmod 4294967296 := ⟨n.tdiv 4294967296, (Int.mul_tdiv_add_tmod n _).symm⟩
  simp
  generalize n.tmod 4294967296 = m at *
  obtain ⟨q, hq⟩ := h3
  repeat' (refine cnd_iff (fun h => ?_) (fun h => ?_) <;> try simp (disch := omega) [*])
  all_goals (refine Ki_fin ?_; unfold wrapM; omega)
theorem mod_pow_lt {u : Int} {m : Nat} : 0 ≤ u % 2 ^ m ∧ u % 2 ^ m < 2 ^ m :=
  ⟨Int.emod_nonneg _ (Int.ne_of_gt pow_pos2), Int.emod_lt_of_pos _ pow_pos2⟩
end
end Go.Proofs.YtcibjklpaljadaaGreat.AM
namespace Go.Proofs.YtcibjklpaljadaaGreat.AM
set_option linter.unusedSimpArgs false
set_option linter.unusedVariables false
open Go

def St (r : Nat) (H H' : AH) : Prop := H.n ≤ H'.n ∧ ∀ b, b < H.n → b ≠ r → H'.bk b = H.bk b
theorem St.refl {r H} : St r H H := ⟨Nat.le_refl _, fun _ _ _ => rfl⟩
theorem St.trans {r a b c} (h : St r a b) (k : St r b c) : St r a c := ⟨Nat.le_trans h.1 k.1, fun x hx hr => (k.2 x (Nat.lt_of_lt_of_le hx h.1) hr).trans (h.2 x hx hr)⟩
theorem St.push {r a b cs} (h : St r a b) : St r a (b.push cs) := h.trans ⟨Nat.le_succ _, fun x hx _ => by simp only [push_bk]; rw [if_neg (by omega)]⟩
def Bytes (H : AH) (r : Nat) (s : AV) (l : List Int) : Prop := alen s = some l.length ∧ l.length ≤ 8589934592 ∧
  ∀ (i : Nat) x, l[i]? = some x → (0 ≤ x ∧ x < 256) ∧ ∃ b o, asSl s = some (b, o, l.length) ∧ b < r ∧ b < H.n ∧ ((H.bk b).bind fun k => k.cells[o + i]?) = some (.i .u8 x)
def Rd (H : AH) (r : Nat) (p : Int) : Prop := r < H.n ∧ ∃ s l, H.bk r = some ⟨[s, .I p], true⟩ ∧ Bytes H r s l
theorem Bytes.st {H H' : AH} {r s l} (h : Bytes H r s l) (k : St r H H') : Bytes H' r s l :=
  ⟨h.1, h.2.1, fun i x hx => let ⟨h1, b, o, h2, h3, h4, h5⟩ := h.2.2 i x hx; ⟨h1, b, o, h2, h3, Nat.lt_of_lt_of_le h4 k.1, by rw [k.2 b h4 (by omega)]; exact h5⟩⟩
theorem Rd.push {H : AH} {r p cs} (h : Rd H r p) : Rd (H.push cs) r p := by
  obtain ⟨h1, s, l, h2, h3⟩ := h
  exact ⟨Nat.lt_succ_of_lt h1, s, l, by simp only [push_bk]; rw [if_neg (by omega)]; exact h2, h3.st (St.push St.refl)⟩

section
variable {H : AH} {K : AV → AH → Prop} {n p : Int} {r : Nat} {w : Fk K}
theorem SlI.bytes {v : AV} {zs : List Int} (h : SlI H .u8 v zs) (hz : ∀ n ∈ zs, 0 ≤ n ∧ n < 256) {r : Nat} (hr : H.n ≤ r) (hl : zs.length ≤ 1048576) : Bytes H r v zs := by
  rcases h with ⟨rfl, rfl⟩ | ⟨rfl, rfl⟩ | ⟨b, rest, hb, rfl, h⟩
  · exact ⟨rfl, by simp, fun i x hx => by simp at hx⟩
  · exact ⟨rfl, by simp, fun i x hx => by simp at hx⟩
  · refine ⟨rfl, by omega, fun i x hx => ⟨hz x (List.mem_of_getElem? hx), b, 0, rfl, by omega, hb, ?_⟩⟩
    have hi := (List.getElem?_eq_some_iff.1 hx).1
    rw [h]
    simp only [Option.bind_some, Nat.zero_add, List.getElem?_map, List.getElem?_append_left hi, hx, Option.map_some]
theorem SlI.len {v : AV} {k : IntKind} {zs : List Int} (h : SlI H k v zs) : alen v = some zs.length := by
  rcases h with ⟨rfl, rfl⟩ | ⟨rfl, rfl⟩ | ⟨b, rest, hb, rfl, h⟩ <;> rfl
theorem SlI.cut {v : AV} {k : IntKind} {zs : List Int} (h : SlI H k v zs) (hl : 2000 < zs.length) : ∃ v', aslice 1 v none (some (.I 2000)) none = some v' ∧ SlI H k v' (zs.take 2000) := by
  rcases h with ⟨rfl, rfl⟩ | ⟨rfl, rfl⟩ | ⟨b, rest, hb, rfl, h⟩
  · simp at hl
  · simp at hl
  · refine ⟨.sl b 0 2000 .ro, ?_, .inr (.inr ⟨b, zs.drop 2000 ++ rest, hb, ?_, ?_⟩)⟩
    · simp [aslice, bnd, aint]; omega
    · rw [List.length_take, Nat.min_eq_left (by omega)]
    · rw [h, ← List.append_assoc, List.take_append_drop]
def Rdx (H : AH) (r : Nat) (m : Int) : Prop := ∃ p, 0 ≤ p ∧ p ≤ m ∧ Rd H r p
theorem Rdx.push {r m cs} (h : Rdx H r m) : Rdx (H.push cs) r m := let ⟨p, a, b, c⟩ := h; ⟨p, a, b, c.push⟩
theorem Rdx.up {r m m'} (h : Rdx H r m) (k : m ≤ m') : Rdx H r m' := let ⟨p, a, b, c⟩ := h; ⟨p, a, by omega, c⟩
theorem Rdx.lt {r m} (h : Rdx H r m) : r < H.n := let ⟨p, a, b, c⟩ := h; c.1
def Ints (l : List Int) : List AV := l.map (.i .i64 ·)
theorem St.at {r : Nat} {H H' : AH} {b : Nat} (h : St r H H') (hb : b < H.n) (hr : b ≠ r) {o} (e : H.bk b = o) : H'.bk b = o := (h.2 b hb hr).trans e

end
end Go.Proofs.YtcibjklpaljadaaGreat.AM
namespace Go.Proofs.YtcibjklpaljadaaGreat.AM
set_option linter.unusedSimpArgs false
set_option linter.unusedVariables false
open Go

theorem load_push {H : AH} {cs : List AV} {b o : Nat} : (H.push cs).load b o = if b = H.n then cs[o]? else H.load b o := by
  unfold AH.load; simp only [push_bk]; split <;> rfl
theorem loadN_push {H : AH} {cs : List AV} {b o n : Nat} : (H.push cs).loadN b o n = if b = H.n then seg cs o n else H.loadN b o n := by
  unfold AH.loadN; simp only [push_bk]; split <;> rfl
theorem load_put {H : AH} {cs : List AV} {b' b o : Nat} {q : Bool} : (H.put b' (some ⟨cs, q⟩)).load b o = if b = b' then cs[o]? else H.load b o := by
  unfold AH.load; simp only [put_bk]; split <;> rfl
theorem loadN_put {H : AH} {cs : List AV} {b' b o n : Nat} {q : Bool} : (H.put b' (some ⟨cs, q⟩)).loadN b o n = if b = b' then seg cs o n else H.loadN b o n := by
  unfold AH.loadN; simp only [put_bk]; split <;> rfl
theorem load_ext {H H' : AH} {b o : Nat} (h : Ext H H') (hb : b < H.n) : H'.load b o = H.load b o := by unfold AH.load; rw [h.2 b hb]
theorem loadN_ext {H H' : AH} {b o n : Nat} (h : Ext H H') (hb : b < H.n) : H'.loadN b o n = H.loadN b o n := by unfold AH.loadN; rw [h.2 b hb]
theorem seg_at {cs x : List AV} {o n j : Nat} (h : seg cs o n = some x) (hj : j < n) : cs[o + j]? = x[j]? := by
  unfold seg at h
  split at h
  · cases h
    rw [List.getElem?_take, if_pos hj, List.getElem?_drop]
  · cases h
theorem loadN_at {H : AH} {b o n j : Nat} {x : List AV} (h : H.loadN b o n = some x) (hj : j < n) : H.load b (o + j) = x[j]? := by
  unfold AH.loadN at h
  unfold AH.load
  cases hb : H.bk b with
  | none => rw [hb] at h; cases h
  | some k => rw [hb] at h; exact seg_at h hj

def SeesN (sz : Nat) (H : AH) (v : AV) (l : List (List AV)) : Prop := alen v = some l.length ∧ l.length ≤ 8589934592 ∧
  ∀ (i : Nat) x, l[i]? = some x → ∃ b o, asSl v = some (b, o, l.length) ∧ b < H.n ∧ H.loadN b (o + i * sz) sz = some x
theorem SeesN.ext {sz : Nat} {H H' : AH} {v l} (h : SeesN sz H v l) (k : Ext H H') : SeesN sz H' v l :=
  ⟨h.1, h.2.1, fun i x hx => let ⟨b, o, h1, h2, h3⟩ := h.2.2 i x hx; ⟨b, o, h1, Nat.lt_of_lt_of_le h2 k.1, by rw [loadN_ext k h2]; exact h3⟩⟩

theorem seg_flatten {sz : Nat} : ∀ {l : List (List AV)}, (∀ x ∈ l, x.length = sz) → ∀ {i : Nat} {x : List AV}, l[i]? = some x → seg l.flatten (i * sz) sz = some x
  | [], _, i, x, h => by simp at h
  | y :: l, hs, 0, x, h => by
    simp only [List.getElem?_cons_zero, Option.some.injEq] at h
    subst h
    have := hs y (by simp)
    unfold seg
    simp only [Nat.zero_mul, Nat.zero_add, List.flatten_cons, List.length_append, List.drop_zero]
    rw [if_pos (by omega), ← this, List.take_left']
    rfl
  | y :: l, hs, i + 1, x, h => by
    have hy := hs y (by simp)
    have ih := seg_flatten (l := l) (fun z hz => hs z (by simp [hz])) (i := i) (x := x) (by simpa using h)
    unfold seg at ih ⊢
    split at ih
    · cases ih
      simp only [List.flatten_cons, List.length_append]
      rw [if_pos (by rw [Nat.succ_mul]; omega), Nat.succ_mul, Nat.add_comm, ← hy, ← List.drop_drop, List.drop_left']
      rfl
    · cases ih
theorem SeesN.new {sz : Nat} {H : AH} {l : List (List AV)} {cap : ACap} {n : Nat} {cs : List AV} (hs : ∀ x ∈ l, x.length = sz) (hl : l.length ≤ 8589934592) (hn : n = l.length) (hc : cs = l.flatten) : SeesN sz (H.push cs) (.sl H.n 0 n cap) l := by
  subst hn hc
  refine ⟨rfl, hl, fun i x hx => ⟨H.n, 0, rfl, Nat.lt_succ_self _, ?_⟩⟩
  rw [loadN_push, if_pos rfl, Nat.zero_add]
  exact seg_flatten hs hx
theorem SeesN.nil {sz : Nat} {H : AH} {v : AV} (h : alen v = some 0) : SeesN sz H v [] := ⟨h, by simp, fun i x hx => by simp at hx⟩

structure Ins where
  op : Int
  rd : Int
  rs : Int
  rt : Int
  imm : Int
deriving DecidableEq
def Ins.cs (i : Ins) : List AV := [.I i.op, .I i.rd, .I i.rs, .I i.rt, .I i.imm]
def SeesI (H : AH) (v : AV) (l : List Ins) : Prop := SeesN 5 H v (l.map Ins.cs)

section
variable {H : AH} {K : AV → AH → Prop} {n rd rs imm : Int} {w : Fk K}
theorem SeesI.new {H : AH} {l : List Ins} {cap : ACap} {n : Nat} {cs : List AV} (hl : l.length ≤ 8589934592) (hn : n = l.length) (hc : cs = (l.map Ins.cs).flatten) : SeesI (H.push cs) (.sl H.n 0 n cap) l :=
  SeesN.new (fun x hx => by obtain ⟨i, _, rfl⟩ := List.mem_map.1 hx; rfl) (by simpa using hl) (by simpa using hn) hc
end
end Go.Proofs.YtcibjklpaljadaaGreat.AM
namespace Go.Proofs.YtcibjklpaljadaaGreat.AM
set_option linter.unusedSimpArgs false
set_option linter.unusedVariables false
open Go

section
variable {H : AH} {K : AV → AH → Prop} {n rd : Int} {w : Fk K}
theorem SeesI.at {H : AH} {v : AV} {l : List Ins} (h : SeesI H v l) {i : Nat} (hi : i < l.length) : ∃ b o, asSl v = some (b, o, l.length) ∧ b < H.n ∧ H.loadN b (o + i * 5) 5 = some l[i].cs := by
  obtain ⟨b, o, h1, h2, h3⟩ := h.2.2 i (l[i].cs) (by simp [hi])
  exact ⟨b, o, by simpa using h1, h2, h3⟩
theorem SeesI.len {H : AH} {v : AV} {l : List Ins} (h : SeesI H v l) : alen v = some l.length := by simpa using h.1
theorem SeesI.big {H : AH} {v : AV} {l : List Ins} (h : SeesI H v l) : l.length ≤ 8589934592 := by simpa using h.2.1
end
end Go.Proofs.YtcibjklpaljadaaGreat.AM
namespace Go.Proofs.YtcibjklpaljadaaGreat.AM
set_option linter.unusedSimpArgs false
set_option linter.unusedVariables false
open Go

section
variable {H : AH} {K : AV → AH → Prop} {n rd : Int} {w : Fk K}
end
end Go.Proofs.YtcibjklpaljadaaGreat.AM
namespace Go.Proofs.YtcibjklpaljadaaGreat.AM
set_option linter.unusedSimpArgs false
set_option linter.unusedVariables false
open Go

theorem put_put {H : AH} {b : Nat} {x y : Option Blk} : (H.put b x).put b y = H.put b y := by
  unfold AH.put; congr 1; funext c; by_cases h : c = b <;> simp [h]
section
variable {H : AH} {K : AV → AH → Prop} {n rd rs imm : Int} {w : Fk K}
theorem NewI.sees {H : AH} {b : Nat} {cap : ACap} {l : List Ins} (hb : b < H.n) (h : H.bk b = some ⟨(l.map Ins.cs).flatten, true⟩) (hl : l.length ≤ 8589934592) : SeesI H (.sl b 0 l.length cap) l := by
  refine ⟨by simp [alen], by simpa using hl, fun i x hx => ⟨b, 0, by simp [asSl], hb, ?_⟩⟩
  unfold AH.loadN
  rw [h, Nat.zero_add]
  exact seg_flatten (fun y hy => by obtain ⟨j, _, rfl⟩ := List.mem_map.1 hy; rfl) hx
end
end Go.Proofs.YtcibjklpaljadaaGreat.AM
namespace Go.Proofs.YtcibjklpaljadaaGreat.AM
set_option linter.unusedSimpArgs false
set_option linter.unusedVariables false
open Go

def SeesZ (H : AH) (v : AV) (l : List Int) : Prop := alen v = some l.length ∧ l.length ≤ 8589934592 ∧
  ∀ (i : Nat) x, l[i]? = some x → ∃ b o, asSl v = some (b, o, l.length) ∧ b < H.n ∧ H.load b (o + i) = some (.I x)
theorem SeesZ.ext {H H' : AH} {v l} (h : SeesZ H v l) (k : Ext H H') : SeesZ H' v l :=
  ⟨h.1, h.2.1, fun i x hx => let ⟨b, o, h1, h2, h3⟩ := h.2.2 i x hx; ⟨b, o, h1, Nat.lt_of_lt_of_le h2 k.1, by rw [load_ext k h2]; exact h3⟩⟩
theorem SeesZ.at {H : AH} {v : AV} {l : List Int} (h : SeesZ H v l) {i : Nat} (hi : i < l.length) : ∃ b o, asSl v = some (b, o, l.length) ∧ b < H.n ∧ H.load b (o + i) = some (.I l[i]) :=
  h.2.2 i l[i] (by simp [hi])
theorem SeesZ.nil {H : AH} {v : AV} (h : alen v = some 0) : SeesZ H v [] := ⟨h, by simp, fun i x hx => by simp at hx⟩

section
variable {H : AH} {K : AV → AH → Prop} {n : Int} {w : Fk K}
theorem K_iareWords_l {v : AV} {l : List Int} (h : SeesZ H v l) {Q : Out → Env → AH → Prop}
    (h1 : ∀ e H, Q (.brk 0) e H = K (.b true) H) (h2 : ∀ e H, Q .ret e H = bindO (get e 2) fun v => K v H) (m i : Nat) (hm : i + m = l.length) :
    W Cd (.loop c_iareWords_l0) [(5, v), (6, .I l.length), (7, .I i)] H Q ↔ K (.b ((l.drop i).all isW)) H := by
  have hbig := h.2.1
  induction m generalizing i with
  | zero =>
    rw [W_loop_as c_iareWords_l0.eq_1]
    have : ¬ (i : Int) < l.length := by omega
    simp [this, h1]
    rw [List.drop_eq_nil_of_le (by omega)]; rfl
  | succ m ih =>
    rw [W_loop_as c_iareWords_l0.eq_1]
    have hi : i < l.length := by omega
    obtain ⟨b, o, s1, _, l1⟩ := h.at hi
    have hlt : (i : Int) < l.length := by omega
    have hr := ih (i + 1) (by omega)
    have d1 := List.drop_eq_getElem_cons hi
    simp (disch := omega) [hlt, s1, l1, K_iWordValid]
    refine cnd_iff (fun h => ?_) (fun h => ?_)
    · simp [h2]
      refine Kb_false ?_
      rw [d1, List.all_cons]; simp [h]
    · simp (disch := omega)
      have e : (l.drop i).all isW = (l.drop (i + 1)).all isW := by rw [d1, List.all_cons]; simp at h; simp [h]
      rw [e]
      simpa using hr
theorem K_iareWords {v : AV} {l : List Int} (h : SeesZ H v l) : CallF Cd f_iareWords [v] H K w = K (.b (l.all isW)) H := by
  rw [CallF_eq e_iareWords rfl]
  simp [h.1]
  have := K_iareWords_l (K := K) h (Q := ?_) ?_ ?_ l.length 0 (by omega)
  · simpa using this
  · intros; simp
  · intros; simp
theorem K_sl4Words_l {v : AV} {l : List Int} (h : SeesZ H v l) {Q : Out → Env → AH → Prop}
    (h1 : ∀ e H, Q (.brk 0) e H = K (.b true) H) (h2 : ∀ e H, Q .ret e H = bindO (get e 4) fun v => K v H) (m i : Nat) (hm : i + m = l.length) :
    W Cd (.loop c_sl4Words_l0) [(0, v), (5, .I i)] H Q ↔ K (.b ((l.drop i).all isW)) H := by
  have hbig := h.2.1
  induction m generalizing i with
  | zero =>
    rw [W_loop_as c_sl4Words_l0.eq_1]
    have : ¬ (i : Int) < l.length := by omega
    simp [this, h1, h.1]
    rw [List.drop_eq_nil_of_le (by omega)]; rfl
  | succ m ih =>
    rw [W_loop_as c_sl4Words_l0.eq_1]
    have hi : i < l.length := by omega
    obtain ⟨b, o, s1, _, l1⟩ := h.at hi
    have hlt : (i : Int) < l.length := by omega
    have hr := ih (i + 1) (by omega)
    have d1 := List.drop_eq_getElem_cons hi
    simp (disch := omega) [hlt, s1, l1, K_sWordValid, h.1]
    refine cnd_iff (fun h => ?_) (fun h => ?_)
    · simp [h2]
      refine Kb_false ?_
      rw [d1, List.all_cons]; simp [h]
    · simp (disch := omega)
      have e : (l.drop i).all isW = (l.drop (i + 1)).all isW := by rw [d1, List.all_cons]; simp at h; simp [h]
      rw [e]
      simpa using hr
theorem K_sl4Words {v : AV} {l : List Int} (h : SeesZ H v l) : CallF Cd f_sl4Words [v, .I n] H K w = K (.b (decide ((l.length : Int) = n) && l.all isW)) H := by
  rw [CallF_eq e_sl4Words rfl]
  simp [h.1]
  refine cnd_iff (fun hn => ?_) (fun hn => ?_)
  · simp [hn]
  · simp
    have := K_sl4Words_l (K := K) h (Q := ?_) ?_ ?_ l.length 0 (by omega)
    · have hn : (l.length : Int) = n := Decidable.of_not_not hn
      simpa [hn] using this
    · intros; simp
    · intros; simp
theorem K_weqIntS_l {a b : AV} {la lb : List Int} (ha : SeesZ H a la) (hb : SeesZ H b lb) (he : la.length = lb.length) {Q : Out → Env → AH → Prop}
    (h1 : ∀ e H, Q (.brk 0) e H = K (.b true) H) (h2 : ∀ e H, Q .ret e H = bindO (get e 4) fun v => K v H) (m i : Nat) (hm : i + m = la.length) :
    W Cd (.loop c_weqIntS_l0) [(0, a), (1, b), (5, .I i)] H Q ↔ K (.b (decide (la.drop i = lb.drop i))) H := by
  have hbig := ha.2.1
  induction m generalizing i with
  | zero =>
    rw [W_loop_as c_weqIntS_l0.eq_1]
    have : ¬ (i : Int) < la.length := by omega
    simp [this, h1, ha.1]
    rw [List.drop_eq_nil_of_le (by omega), List.drop_eq_nil_of_le (by omega)]
    simp
  | succ m ih =>
    rw [W_loop_as c_weqIntS_l0.eq_1]
    have hi : i < la.length := by omega
    have hi' : i < lb.length := by omega
    obtain ⟨b1, o1, s1, _, l1⟩ := ha.at hi
    obtain ⟨b2, o2, s2, _, l2⟩ := hb.at hi'
    have hlt : (i : Int) < la.length := by omega
    have hr := ih (i + 1) (by omega)
    have d1 := List.drop_eq_getElem_cons hi
    have d2 := List.drop_eq_getElem_cons hi'
    simp (disch := omega) [hlt, ha.1, s1, s2, l1, l2]
    refine cnd_iff (fun h => ?_) (fun h => ?_)
    · simp [h, h2]
      exact Kb_false (by rw [d1, d2]; simp only [decide_eq_false_iff_not, List.cons.injEq]; exact fun q => h q.1)
    · simp (disch := omega) [h]
      rw [show decide (la.drop i = lb.drop i) = decide (la.drop (i + 1) = lb.drop (i + 1)) from by
        rw [d1, d2, Bool.eq_iff_iff]; simp only [decide_eq_true_eq, List.cons.injEq]; exact ⟨fun q => q.2, fun q => ⟨Decidable.of_not_not h, q⟩⟩]
      simpa using hr
theorem K_weqIntS {a b : AV} {la lb : List Int} (ha : SeesZ H a la) (hb : SeesZ H b lb) : CallF Cd f_weqIntS [a, b] H K w = K (.b (decide (la = lb))) H := by
  rw [CallF_eq e_weqIntS rfl]
  simp [ha.1, hb.1]
  refine cnd_iff (fun h => ?_) (fun h => ?_)
  · simp
    have : la ≠ lb := fun e => h (by rw [e])
    simp [this]
  · have he : la.length = lb.length := by omega
    simp
    have := K_weqIntS_l (K := K) ha hb he (Q := ?_) ?_ ?_ la.length 0 (by omega)
    · simpa using this
    · intros; simp
    · intros; simp
structure Mach where
  regs : List Int
  pc : Int
  mem : List Int
deriving DecidableEq
def SeesM (H : AH) (c : List AV) (m : Mach) : Prop := ∃ r e, c = [r, .I m.pc, e] ∧ SeesZ H r m.regs ∧ SeesZ H e m.mem ∧ r.flat = true ∧ e.flat = true
theorem SeesM.ext {H H' : AH} {c m} (h : SeesM H c m) (k : Ext H H') : SeesM H' c m := let ⟨r, e, h1, h2, h3, h4, h5⟩ := h; ⟨r, e, h1, h2.ext k, h3.ext k, h4, h5⟩
theorem push_put {H : AH} {cs cs' : List AV} : (H.push cs).put H.n (some ⟨cs', true⟩) = H.push cs' := by
  unfold AH.push AH.put; congr 1; funext c; by_cases h : c = H.n <;> simp [h]
theorem splice_at {A B : List AV} {x y : AV} : splice (A ++ x :: B) A.length [y] = A ++ y :: B := by
  simp [splice]
def copied (l : List Int) (i : Nat) : List AV := Ints (l.take i) ++ List.replicate (l.length - i) (.I 0)
theorem copied_len {l : List Int} {i : Nat} (h : i ≤ l.length) : (copied l i).length = l.length := by simp [copied, Ints]; omega
theorem copied_step {l : List Int} {i : Nat} (h : i < l.length) : splice (copied l i) i [.I l[i]] = copied l (i + 1) := by
  have e1 : List.replicate (l.length - i) (AV.I 0) = AV.I 0 :: List.replicate (l.length - (i + 1)) (AV.I 0) := by
    rw [show l.length - i = (l.length - (i + 1)) + 1 by omega, List.replicate_succ]
  have e2 : (Ints (l.take i)).length = i := by simp [Ints]; omega
  have e3 : Ints (l.take (i + 1)) = Ints (l.take i) ++ [.I l[i]] := by
    rw [List.take_succ_eq_append_getElem h]; unfold Ints; rw [List.map_append]; rfl
  have := @splice_at (Ints (l.take i)) (List.replicate (l.length - (i + 1)) (AV.I 0)) (AV.I 0) (AV.I l[i])
  rw [e2] at this
  unfold copied
  rw [e1, this, e3]; simp
theorem K_wtoIntS_l {v : AV} {l : List Int} (h : SeesZ H v l) {Q : Out → Env → AH → Prop} (m i : Nat) (hm : i + m = l.length)
    (h1 : ∀ e, Q (.brk 0) ([(0, v), (3, .sl H.n 0 l.length (.ex l.length)), (4, .I l.length)] ++ e) (H.push (Ints l))) :
    W Cd (.loop c_wtoIntS_l0) [(0, v), (3, .sl H.n 0 l.length (.ex l.length)), (4, .I i)] (H.push (copied l i)) Q := by
  have hbig := h.2.1
  induction m generalizing i with
  | zero =>
    rw [W_loop_as c_wtoIntS_l0.eq_1]
    have hi : i = l.length := by omega
    have hc : copied l i = Ints l := by unfold copied; rw [List.take_of_length_le (by omega)]; simp [hi]
    subst hi
    rw [hc]
    simp [h.1]
    exact h1 [(11, .b false)]
  | succ m ih =>
    rw [W_loop_as c_wtoIntS_l0.eq_1]
    have hi : i < l.length := by omega
    obtain ⟨b, o, s1, k1, l1⟩ := h.at hi
    have hlt : (i : Int) < l.length := by omega
    have nb : ¬ b = H.n := by omega
    have hcl := copied_len (l := l) (i := i) (by omega)
    have hst : (H.push (copied l i)).store H.n i [.I l[i]] = some (H.push (copied l (i + 1))) := by
      simp only [AH.store, push_bk, if_true]
      rw [if_pos ⟨trivial, by simp [hcl]; omega⟩, push_put, copied_step hi]
    have hr := ih (i + 1) (by omega)
    simp (disch := omega) [hlt, h.1, s1, l1, load_push, nb, hst]
    simpa using hr
theorem K_wtoIntS {v : AV} {l : List Int} (h : SeesZ H v l) (k : K (.sl H.n 0 l.length (.ex l.length)) (H.push (Ints l))) : CallF Cd f_wtoIntS [v] H K w := by
  have hbig := h.2.1
  rw [CallF_eq e_wtoIntS rfl]
  simp (disch := omega) [h.1]
  have e0 : copied l 0 = List.replicate l.length (.I 0) := by simp [copied, Ints]
  rw [← e0]
  refine K_wtoIntS_l (i := 0) h l.length (by omega) (fun e => ?_)
  simp
  exact k
end
end Go.Proofs.YtcibjklpaljadaaGreat.AM
namespace Go.Proofs.YtcibjklpaljadaaGreat.AM
set_option linter.unusedSimpArgs false
set_option linter.unusedVariables false
open Go

theorem nf2 {a : Nat} : (a = a + 1 + 1) = False := eq_false (by omega)
theorem ng2 {a : Nat} : (a + 1 + 1 = a) = False := eq_false (by omega)
theorem nf3 {a : Nat} : (a = a + 1 + 1 + 1) = False := eq_false (by omega)
theorem ng3 {a : Nat} : (a + 1 + 1 + 1 = a) = False := eq_false (by omega)
theorem nf4 {a : Nat} : (a = a + 1 + 1 + 1 + 1) = False := eq_false (by omega)
theorem ng4 {a : Nat} : (a + 1 + 1 + 1 + 1 = a) = False := eq_false (by omega)
theorem nf5 {a : Nat} : (a = a + 1 + 1 + 1 + 1 + 1) = False := eq_false (by omega)
theorem ng5 {a : Nat} : (a + 1 + 1 + 1 + 1 + 1 = a) = False := eq_false (by omega)
theorem nf6 {a : Nat} : (a = a + 1 + 1 + 1 + 1 + 1 + 1) = False := eq_false (by omega)
theorem ng6 {a : Nat} : (a + 1 + 1 + 1 + 1 + 1 + 1 = a) = False := eq_false (by omega)
theorem nf7 {a : Nat} : (a = a + 1 + 1 + 1 + 1 + 1 + 1 + 1) = False := eq_false (by omega)
theorem ng7 {a : Nat} : (a + 1 + 1 + 1 + 1 + 1 + 1 + 1 = a) = False := eq_false (by omega)
attribute [simp] nf2 ng2 nf3 ng3 nf4 ng4 nf5 ng5 nf6 ng6 nf7 ng7

section
variable {H : AH} {K : AV → AH → Prop} {n : Int} {w : Fk K}
theorem SeesZ.new {H : AH} {l : List Int} {cap : ACap} (hl : l.length ≤ 8589934592) : SeesZ (H.push (Ints l)) (.sl H.n 0 l.length cap) l :=
  ⟨rfl, hl, fun i x hx => ⟨H.n, 0, rfl, Nat.lt_succ_self _, by rw [load_push, if_pos rfl, Nat.zero_add]; simp [Ints, hx]⟩⟩
theorem SeesZ.of {H : AH} {l : List Int} {cap : ACap} {b : Nat} {q : Bool} (hl : l.length ≤ 8589934592) (hb : b < H.n) (h : H.bk b = some ⟨Ints l, q⟩) : SeesZ H (.sl b 0 l.length cap) l :=
  ⟨rfl, hl, fun i x hx => ⟨b, 0, rfl, hb, by unfold AH.load; rw [h, Nat.zero_add]; simp [Ints, hx]⟩⟩
theorem Ext.put {H G : AH} {b : Nat} {o : Option Blk} (h : Ext H G) (hb : H.n ≤ b) : Ext H (G.put b o) := ⟨h.1, fun x hx => by simp only [put_bk]; rw [if_neg (by omega)]; exact h.2 x hx⟩
theorem Ext.to_push {H G : AH} {cs} (h : Ext H G) : Ext H (G.push cs) := h.trans (Ext.push _ _)
theorem K_wszIntS' {v : AV} {k : Nat} (h : alen v = some k) (hk : k ≤ 9223372036854775807) (hn : -1 ≤ n ∧ n ≤ 1048576) : CallF Cd f_wszIntS [v, .I n] H K w = K (.I (if n - k < 0 then -1 else n - k)) H := by
  rw [CallF_eq e_wszIntS rfl]
  simp (disch := omega) [h]
  refine cnd_iff (fun hn => ?_) (fun hn => ?_)
  · simp; exact Ki_fin (by rw [if_pos (by omega)])
  · simp; exact Ki_fin (by rw [if_neg (by omega)])
def ArgZ (H : AH) (v : AV) (l : List Int) : Prop := alen v = some l.length ∧ l.length ≤ 9223372036854775807 ∧ v.flat = true ∧
  ∀ (i : Nat) x, l[i]? = some x → ∃ b o, asSl v = some (b, o, l.length) ∧ b < H.n ∧ H.load b (o + i) = some (.I x)
theorem ArgZ.sees {v l} (h : ArgZ H v l) (k : l.length ≤ 8589934592) : SeesZ H v l := ⟨h.1, k, h.2.2.2⟩
end
end Go.Proofs.YtcibjklpaljadaaGreat.AM
namespace Go.Proofs.YtcibjklpaljadaaGreat.AM
set_option linter.unusedSimpArgs false
set_option linter.unusedVariables false
open Go Go.RowKit

theorem rowV_flat {b a len cap} : (rowV b a len cap).flat = true := by
  unfold rowV; split
  · rfl
  · split <;> rfl

end Go.Proofs.YtcibjklpaljadaaGreat.AM
namespace Go.Proofs.YtcibjklpaljadaaGreat.AM
set_option linter.unusedSimpArgs false
set_option linter.unusedVariables false
open Go

section
variable {H : AH} {K : AV → AH → Prop} {n p : Int} {r : Nat} {w : Fk K}
theorem Rdx.put {m : Int} {b : Nat} {o : Option Blk} (h : Rdx H r m) (hb : r < b) : Rdx (H.put b o) r m := by
  obtain ⟨p, h1, h2, h3, s, l, h4, h5⟩ := h
  refine ⟨p, h1, h2, h3, s, l, ?_, h5.1, h5.2.1, fun i x hx => ?_⟩
  · simp only [put_bk]; rw [if_neg (by omega)]; exact h4
  · obtain ⟨q1, b', o', q2, q3, q4, q5⟩ := h5.2.2 i x hx
    exact ⟨q1, b', o', q2, q3, q4, by simp only [put_bk]; rw [if_neg (by omega)]; exact q5⟩
theorem St.put {a b : AH} {x : Nat} {o : Option Blk} (h : St r a b) (hx : a.n ≤ x) : St r a (b.put x o) :=
  ⟨h.1, fun y hy hr => by simp only [put_bk]; rw [if_neg (by omega)]; exact h.2 y hy hr⟩
end
end Go.Proofs.YtcibjklpaljadaaGreat.AM
namespace Go.Proofs.YtcibjklpaljadaaGreat.AM
set_option linter.unusedSimpArgs false
set_option linter.unusedVariables false
open Go

section
variable {H : AH} {K : AV → AH → Prop} {n a b : Int} {w : Fk K}
end
end Go.Proofs.YtcibjklpaljadaaGreat.AM
namespace Go.Proofs.YtcibjklpaljadaaGreat.AM
set_option linter.unusedSimpArgs false
set_option linter.unusedVariables false
open Go

section
variable {H : AH} {K : AV → AH → Prop} {n a b : Int} {r : Nat} {w : Fk K}
end
end Go.Proofs.YtcibjklpaljadaaGreat.AM
namespace Go.Proofs.YtcibjklpaljadaaGreat.AM
set_option linter.unusedSimpArgs false
set_option linter.unusedVariables false
open Go

def Only (bs : List Nat) (H H' : AH) : Prop := H.n ≤ H'.n ∧ ∀ b, b < H.n → b ∉ bs → H'.bk b = H.bk b
theorem Only.refl {bs H} : Only bs H H := ⟨Nat.le_refl _, fun _ _ _ => rfl⟩
theorem Only.trans {bs a b c} (h : Only bs a b) (k : Only bs b c) : Only bs a c := ⟨Nat.le_trans h.1 k.1, fun x hx hr => (k.2 x (Nat.lt_of_lt_of_le hx h.1) hr).trans (h.2 x hx hr)⟩
theorem Only.push {bs a b cs} (h : Only bs a b) : Only bs a (b.push cs) := ⟨Nat.le_succ_of_le h.1, fun x hx hr => by simp only [push_bk]; rw [if_neg (by have := h.1; omega)]; exact h.2 x hx hr⟩
theorem Only.put {bs a b x o} (h : Only bs a b) (hx : a.n ≤ x ∨ x ∈ bs) : Only bs a (b.put x o) := ⟨h.1, fun y hy hr => by
  simp only [put_bk]; rw [if_neg (by rintro rfl; rcases hx with hx | hx; omega; exact hr hx)]; exact h.2 y hy hr⟩
theorem St.only {r H H' bs} (h : St r H H') (hb : r ∈ bs) : Only bs H H' := ⟨h.1, fun x hx hr => h.2 x hx (by rintro rfl; exact hr hb)⟩
theorem Only.bk {bs H H' b o} (h : Only bs H H') (hb : b < H.n) (hr : b ∉ bs) (e : H.bk b = o) : H'.bk b = o := (h.2 b hb hr).trans e
theorem Only.st {r bs H G G'} (h : Only bs G G') (k : St r H G) (hb : ∀ b ∈ bs, b = r ∨ H.n ≤ b) : St r H G' := ⟨Nat.le_trans k.1 h.1, fun x hx hr => (h.2 x (Nat.lt_of_lt_of_le hx k.1) (fun hm => by
  rcases hb x hm with e | e
  · exact hr e
  · omega)).trans (k.2 x hx hr)⟩
theorem Ints_len {l : List Int} : (Ints l).length = l.length := by simp [Ints]
theorem splice_set : ∀ {l : List AV} {i : Nat} {x : AV}, i < l.length → splice l i [x] = l.set i x
  | [], _, _, h => by simp at h
  | a :: l, 0, x, _ => by simp [splice]
  | a :: l, i + 1, x, h => by
    have := splice_set (l := l) (i := i) (x := x) (by simpa using h)
    unfold splice at this ⊢
    have e : i + 1 + [x].length = (i + [x].length) + 1 := by omega
    rw [e]
    simp only [List.take_succ_cons, List.drop_succ_cons, List.cons_append, List.set_cons_succ]
    rw [this]
theorem Ints_set {l : List Int} {i : Nat} {x : Int} (h : i < l.length) : splice (Ints l) i [.I x] = Ints (l.set i x) := by
  rw [splice_set (by rw [Ints_len]; exact h)]
  unfold Ints; rw [List.map_set]

theorem load_bk {H : AH} {b o : Nat} {cs : List AV} {q : Bool} (h : H.bk b = some ⟨cs, q⟩) : H.load b o = cs[o]? := by unfold AH.load; rw [h]; rfl
theorem loadN_bk {H : AH} {b o n : Nat} {cs : List AV} {q : Bool} (h : H.bk b = some ⟨cs, q⟩) : H.loadN b o n = seg cs o n := by unfold AH.loadN; rw [h]; rfl
theorem store_bk {H : AH} {b o : Nat} {vs cs : List AV} (h : H.bk b = some ⟨cs, true⟩) (hl : o + vs.length ≤ cs.length) : H.store b o vs = some (H.put b (some ⟨splice cs o vs, true⟩)) := store_of h hl

theorem push_old {H : AH} {cs b o} (hb : b < H.n) (e : H.bk b = o) : (H.push cs).bk b = o := by simp only [push_bk]; rw [if_neg (by omega)]; exact e
theorem push_new {H : AH} {cs} : (H.push cs).bk H.n = some ⟨cs, true⟩ := by simp only [push_bk, if_true]
theorem put_same {H : AH} {b o} : (H.put b o).bk b = o := by simp
theorem put_other {H : AH} {b b' o o'} (hb : ¬ b = b') (e : H.bk b = o) : (H.put b' o').bk b = o := by simp [hb]; exact e
theorem SeesZ.off {H : AH} {l : List Int} {cap : ACap} {b o : Nat} {q : Bool} (hl : l.length ≤ 8589934592) (hb : b < H.n) (h : H.bk b = some ⟨Ints l, q⟩) (ho : o ≤ l.length) : SeesZ H (.sl b o (l.drop o).length cap) (l.drop o) :=
  ⟨rfl, by rw [List.length_drop]; omega, fun i x hx => ⟨b, o, rfl, hb, by rw [load_bk h]; rw [List.getElem?_drop] at hx; simp [Ints, hx]⟩⟩
theorem push_put1 {H : AH} {a cs cs' : List AV} : ((H.push a).push cs).put (H.n + 1) (some ⟨cs', true⟩) = (H.push a).push cs' := push_put
theorem push_put2 {H : AH} {a b cs cs' : List AV} : (((H.push a).push b).push cs).put (H.n + 1 + 1) (some ⟨cs', true⟩) = ((H.push a).push b).push cs' := push_put
section
variable {H : AH} {K : AV → AH → Prop} {n p : Int} {r : Nat} {w : Fk K}
def MemS (base : Nat) (no : List Nat) (G : AH) (v : AV) (l : List Int) : Prop := ∃ b cap, v = .sl b 0 l.length cap ∧ base ≤ b ∧ b ∉ no ∧ b < G.n ∧ G.bk b = some ⟨Ints l, true⟩ ∧ (cap = .ex l.length ∨ cap = .lb l.length 1)
theorem seg_all {l : List Int} : seg (Ints l) 0 (l.length * 1) = some (Ints l) := by
  unfold seg; rw [Ints_len, if_pos (by omega), List.drop_zero, List.take_of_length_le (by rw [Ints_len]; omega)]
theorem MemS.app {base no} {G : AH} {v : AV} {l : List Int} {x : Int} (h : MemS base no G v l) (hl : l.length < 1000) (hn : ∀ y ∈ no, y < G.n) (hb : base ≤ G.n) :
    ∃ v' G', aapp G 1 v 1 [.I x] = some (v', G') ∧ MemS base no G' v' (l ++ [x]) ∧ G.n ≤ G'.n ∧ (∀ y, y < G.n → (y < base ∨ y ∈ no) → G'.bk y = G.bk y) ∧ v'.flat = true := by
  obtain ⟨b, cap, rfl, h1, h2, h3, h4, h5⟩ := h
  have e1 : Ints l ++ [.I x] = Ints (l ++ [x]) := by simp [Ints]
  have nn : G.n ∉ no := fun hm => by have := hn _ hm; omega
  rcases h5 with rfl | rfl
  · refine ⟨.sl G.n 0 (l.length + 1) (.lb (l.length + 1) 1), G.push (Ints l ++ [.I x]), ?_, ⟨G.n, .lb (l.length + 1) 1, by simp, hb, nn, Nat.lt_succ_self _, by rw [e1]; simp, .inr (by simp)⟩, Nat.le_succ _, fun y hy _ => ?_, rfl⟩
    · unfold aapp
      simp only
      rw [if_neg (show ¬ 1 = 0 by omega), if_neg (show ¬ big < l.length + 1 by unfold big; omega), if_neg (show ¬ l.length + 1 ≤ l.length by omega), loadN_bk h4, seg_all]
    · simp only [push_bk]; rw [if_neg (by omega)]
  · refine ⟨.sl G.n 0 (l.length + 1) (.lb (l.length + 1) 1), (G.put b none).push (Ints l ++ [.I x]), ?_, ⟨G.n, .lb (l.length + 1) 1, by simp, hb, nn, Nat.lt_succ_self _, by rw [e1]; simp, .inr (by simp)⟩, Nat.le_succ _, fun y hy hq => ?_, rfl⟩
    · unfold aapp
      simp only
      rw [if_neg (show ¬ 1 = 0 by omega), if_neg (show ¬ big < l.length + 1 by unfold big; omega), if_neg (show ¬ (1 ≠ 1) by omega), if_neg (show ¬ l.length + 1 ≤ l.length by omega), h4, loadN_bk h4, seg_all]
      simp
    · have hy' : ¬ y = (G.put b none).n := Nat.ne_of_lt hy
      simp only [push_bk, put_bk]; rw [if_neg hy', if_neg]; rintro rfl; rcases hq with hq | hq
      · omega
      · exact h2 hq
theorem flat_cells {v : AV} (h : v.flat = true) : v.cells = [v] := by cases v <;> first | rfl | cases h
theorem flat_tup {v : AV} (h : v.flat = true) : v.isTup = false := by cases v <;> first | rfl | cases h
theorem Rdx.same {m : Int} {G G' : AH} (h : Rdx G r m) (hn : G.n ≤ G'.n) (k : ∀ b, b ≤ r → G'.bk b = G.bk b) : Rdx G' r m := by
  obtain ⟨p, h1, h2, h3, s, l, h4, h5⟩ := h
  refine ⟨p, h1, h2, by omega, s, l, (k r (Nat.le_refl _)).trans h4, h5.1, h5.2.1, fun i x hx => ?_⟩
  obtain ⟨q1, b', o', q2, q3, q4, q5⟩ := h5.2.2 i x hx
  exact ⟨q1, b', o', q2, q3, by omega, by rw [k b' (by omega)]; exact q5⟩
theorem MemS.sees {base no} {G : AH} {v : AV} {l : List Int} (h : MemS base no G v l) (hl : l.length ≤ 8589934592) : SeesZ G v l := by
  obtain ⟨b, cap, rfl, h1, h2, h3, h4, h5⟩ := h
  exact SeesZ.of hl h3 h4
def Regs (base : Nat) (c : List AV) (m : Mach) : Prop := ∃ b o e, c = [.sl b o m.regs.length (.ex m.regs.length), .I m.pc, e] ∧ base ≤ b ∧ ∀ b' o' n', asSl e = some (b', o', n') → base ≤ b'
theorem SeesZ.put {H : AH} {v l b o} (h : SeesZ H v l) (k : ∀ b' o' n', asSl v = some (b', o', n') → b' ≠ b) : SeesZ (H.put b o) v l :=
  ⟨h.1, h.2.1, fun i x hx => let ⟨b1, o1, h1, h2, h3⟩ := h.2.2 i x hx; ⟨b1, o1, h1, h2, by unfold AH.load at h3 ⊢; simp only [put_bk]; rw [if_neg (k _ _ _ h1)]; exact h3⟩⟩
def Src (H : AH) (v : AV) (l : List Int) : Prop := l.length ≤ 8589934592 ∧ ((v = .nils ∧ l = []) ∨ (v = .esl ∧ l = []) ∨ ∃ b o c, v = .sl b o l.length c ∧ b < H.n ∧ H.loadN b o l.length = some (Ints l))
theorem Src.sees {H : AH} {v : AV} {l : List Int} (h : Src H v l) : SeesZ H v l := by
  obtain ⟨h0, h | h | ⟨b, o, c, rfl, hb, hl⟩⟩ := h
  · obtain ⟨rfl, rfl⟩ := h; exact SeesZ.nil rfl
  · obtain ⟨rfl, rfl⟩ := h; exact SeesZ.nil rfl
  · refine ⟨rfl, h0, fun i x hx => ⟨b, o, rfl, hb, ?_⟩⟩
    have hi := (List.getElem?_eq_some_iff.1 hx).1
    rw [loadN_at hl hi]; simp [Ints, hx]
theorem Src.flat {H : AH} {v : AV} {l : List Int} (h : Src H v l) : v.flat = true := by
  obtain ⟨h0, h | h | ⟨b, o, c, rfl, hb, hl⟩⟩ := h
  · rw [h.1]; rfl
  · rw [h.1]; rfl
  · rfl
theorem Src.elems {H : AH} {v : AV} {l : List Int} (h : Src H v l) : elems H 1 v = some (Ints l) := by
  obtain ⟨h0, h | h | ⟨b, o, c, rfl, hb, hl⟩⟩ := h
  · obtain ⟨rfl, rfl⟩ := h; rfl
  · obtain ⟨rfl, rfl⟩ := h; rfl
  · simpa [AM.elems] using hl
theorem Src.same {H H' : AH} {v : AV} {l : List Int} (h : Src H v l) (hn : H.n ≤ H'.n) (k : ∀ b o n, asSl v = some (b, o, n) → b < H.n → H'.bk b = H.bk b) : Src H' v l := by
  obtain ⟨h0, h | h | ⟨b, o, c, rfl, hb, hl⟩⟩ := h
  · exact ⟨h0, .inl h⟩
  · exact ⟨h0, .inr (.inl h)⟩
  · refine ⟨h0, .inr (.inr ⟨b, o, c, rfl, Nat.lt_of_lt_of_le hb hn, ?_⟩)⟩
    unfold AH.loadN at hl ⊢
    rw [k _ _ _ rfl hb]; exact hl
theorem Src.ext {H H' : AH} {v : AV} {l : List Int} (h : Src H v l) (k : Ext H H') : Src H' v l := h.same k.1 fun b o n _ hb => k.2 b hb
def SrcM (H : AH) (c : List AV) (m : Mach) : Prop := ∃ r e, c = [r, .I m.pc, e] ∧ Src H r m.regs ∧ Src H e m.mem
theorem SrcM.sees {H : AH} {c m} (h : SrcM H c m) : SeesM H c m := let ⟨r, e, h1, h2, h3⟩ := h; ⟨r, e, h1, h2.sees, h3.sees, h2.flat, h3.flat⟩
theorem SrcM.ext {H H' : AH} {c m} (h : SrcM H c m) (k : Ext H H') : SrcM H' c m := let ⟨r, e, h1, h2, h3⟩ := h; ⟨r, e, h1, h2.ext k, h3.ext k⟩
theorem MemS.src {base no} {G : AH} {v : AV} {l : List Int} (h : MemS base no G v l) (hl : l.length ≤ 8589934592) : Src G v l := by
  obtain ⟨b, cap, rfl, h1, h2, h3, h4, h5⟩ := h
  refine ⟨hl, .inr (.inr ⟨b, 0, cap, rfl, h3, ?_⟩)⟩
  rw [loadN_bk h4]; have := @seg_all l; simpa using this
theorem Src.off {H : AH} {l : List Int} {cap : ACap} {b o n : Nat} {q : Bool} (hl : l.length ≤ 8589934592) (hn : n = (l.drop o).length) (hb : b < H.n) (h : H.bk b = some ⟨Ints l, q⟩) (ho : o ≤ l.length) : Src H (.sl b o n cap) (l.drop o) := by
  subst hn
  refine ⟨by rw [List.length_drop]; omega, .inr (.inr ⟨b, o, cap, rfl, hb, ?_⟩)⟩
  rw [loadN_bk h]
  unfold seg
  rw [if_pos (by rw [Ints_len, List.length_drop]; omega)]
  congr 1
  unfold Ints
  rw [List.map_drop, List.take_of_length_le (by simp)]
theorem Regs.put {base b : Nat} {o} {H : AH} {c : List AV} {m : Mach} (h : Regs base c m) (k : SrcM H c m) (hb : b < base) : SrcM (H.put b o) c m := by
  obtain ⟨b1, o1, e, rfl, h1, h2⟩ := h
  obtain ⟨r', e', hc, k1, k2⟩ := k
  simp only [List.cons.injEq, and_true, true_and] at hc
  obtain ⟨rfl, rfl⟩ := hc
  exact ⟨_, _, rfl, k1.same (Nat.le_refl _) (fun b' o' n' q _ => by simp at q; simp only [put_bk]; rw [if_neg (by omega)]), k2.same (Nat.le_refl _) (fun b' o' n' q _ => by have := h2 _ _ _ q; simp only [put_bk]; rw [if_neg (by omega)])⟩
end
end Go.Proofs.YtcibjklpaljadaaGreat.AM
namespace Go.Proofs.YtcibjklpaljadaaGreat.AM
set_option linter.unusedSimpArgs false
set_option linter.unusedVariables false
open Go

theorem SlI.ext {H H' : AH} {k : IntKind} {v : AV} {zs : List Int} (h : SlI H k v zs) (e : Ext H H') : SlI H' k v zs := by
  rcases h with ⟨rfl, rfl⟩ | ⟨rfl, rfl⟩ | ⟨b, rest, hb, rfl, h⟩
  · exact .inl ⟨rfl, rfl⟩
  · exact .inr (.inl ⟨rfl, rfl⟩)
  · exact .inr (.inr ⟨b, rest, Nat.lt_of_lt_of_le hb e.1, rfl, (e.2 b hb).trans h⟩)
theorem SeesZ.loadN {H : AH} {b o n : Nat} {cap : ACap} {l : List Int} (h : SeesZ H (.sl b o n cap) l) (hn : n = l.length) (hl : 0 < l.length) : H.loadN b o n = some (Ints l) := by
  have q : ∀ i (hi : i < l.length), H.load b (o + i) = some (.I l[i]) := fun i hi => by
    obtain ⟨b1, o1, q1, q2, q3⟩ := h.at hi
    simp at q1
    obtain ⟨rfl, rfl, _⟩ := q1
    exact q3
  unfold AH.loadN AH.load at *
  cases hb : H.bk b with
  | none => have := q 0 hl; rw [hb] at this; cases this
  | some k =>
    rw [hb] at q
    simp only [Option.bind_some] at q ⊢
    have q1 := q (l.length - 1) (by omega)
    have q2 := (List.getElem?_eq_some_iff.1 q1).1
    unfold seg
    rw [if_pos (by omega), hn]
    congr 1
    apply List.ext_getElem?
    intro i
    by_cases hi : i < l.length
    · rw [List.getElem?_take, if_pos hi, List.getElem?_drop, q i hi]; simp [Ints, hi]
    · rw [List.getElem?_take, if_neg hi, List.getElem?_eq_none (by rw [Ints_len]; omega)]
section
variable {H : AH} {K : AV → AH → Prop} {w : Fk K}
end
end Go.Proofs.YtcibjklpaljadaaGreat.AM
namespace Go.Proofs.YtcibjklpaljadaaGreat.AM
set_option linter.unusedSimpArgs false
set_option linter.unusedVariables false
open Go

section
variable {x y : Int}
end

def threeM (op : Int) : Int := ([0, 0, 0, 4, 6, 7, 6, 4, 1, 5, 2, 0, 3, 2, 0, 2, 0, 1, 0, 0, 0] : List Int).getD (op - 1).toNat 0
def sevenM (op : Int) : Int := ([0, 32, 1, 1, 1, 0, 0, 0, 0, 32, 0] : List Int).getD (op - 1).toNat 0
def opcM (op : Int) : Int := ([51, 51, 51, 51, 51, 51, 51, 51, 51, 51, 51, 19, 19, 3, 103, 35, 99, 99, 55, 111, 115] : List Int).getD (op - 1).toNat 0
theorem bits_lt {u lo many : Int} : 0 ≤ bitsM u lo many ∧ bitsM u lo many < 2 ^ many.toNat := by
  unfold bitsM
  split
  · exact mod_pow_lt
  · exact ⟨Int.le_refl _, pow_pos2⟩
end Go.Proofs.YtcibjklpaljadaaGreat.AM
namespace Go.Proofs.YtcibjklpaljadaaGreat.AM
set_option linter.unusedSimpArgs false
set_option linter.unusedVariables false
open Go

theorem b5 {u lo : Int} : 0 ≤ bitsM u lo 5 ∧ bitsM u lo 5 < 32 := bits_lt
theorem b1 {u lo : Int} : 0 ≤ bitsM u lo 1 ∧ bitsM u lo 1 < 2 := bits_lt
theorem b3 {u lo : Int} : 0 ≤ bitsM u lo 3 ∧ bitsM u lo 3 < 8 := bits_lt
theorem b4 {u lo : Int} : 0 ≤ bitsM u lo 4 ∧ bitsM u lo 4 < 16 := bits_lt
theorem b6 {u lo : Int} : 0 ≤ bitsM u lo 6 ∧ bitsM u lo 6 < 64 := bits_lt
theorem b7 {u lo : Int} : 0 ≤ bitsM u lo 7 ∧ bitsM u lo 7 < 128 := bits_lt
end Go.Proofs.YtcibjklpaljadaaGreat.AM
namespace Go.Proofs.YtcibjklpaljadaaGreat.AM
set_option linter.unusedSimpArgs false
set_option linter.unusedVariables false
open Go

section
variable {H : AH} {K : AV → AH → Prop} {n a b : Int} {w : Fk K}
end
end Go.Proofs.YtcibjklpaljadaaGreat.AM
namespace Go.Proofs.YtcibjklpaljadaaGreat.AM
set_option linter.unusedSimpArgs false
set_option linter.unusedVariables false
set_option maxRecDepth 10000
open Go

theorem B1 {u lo : Int} : 0 ≤ bitsM u lo 1 ∧ bitsM u lo 1 < 2 := bits_lt
def tabRows (ns : Nat → ByteArray) : List (List AV) := (List.range 21).map fun j => [.str (ns j), .I (opcM ((j : Int) + 1)), .I (threeM ((j : Int) + 1)), .I (sevenM ((j : Int) + 1))]
def mops : List Int := [8, 9, 10, 11, 12, 3, 1, 2, 6, 7, 5]
def Glob (H : AH) : Prop := 2 ≤ H.n ∧ (∃ ns q, H.bk 0 = some ⟨(tabRows ns).flatten, q⟩) ∧ ∃ q, H.bk 1 = some ⟨Ints mops, q⟩
theorem Glob.ext {H H' : AH} (h : Glob H) (e : Ext H H') : Glob H' := by
  obtain ⟨h0, ⟨ns, q, h1⟩, q', h2⟩ := h
  exact ⟨Nat.le_trans h0 e.1, ⟨ns, q, (e.2 0 (by omega)).trans h1⟩, q', (e.2 1 (by omega)).trans h2⟩
theorem Glob.row {H : AH} (h : Glob H) {op : Int} (ho : 1 ≤ op ∧ op ≤ 21) : ∃ s, H.loadN 0 ((op.toNat - 1) * 4) 4 = some [.str s, .I (opcM op), .I (threeM op), .I (sevenM op)] := by
  obtain ⟨_, ⟨ns, q, h1⟩, _⟩ := h
  refine ⟨ns (op.toNat - 1), ?_⟩
  rw [loadN_bk h1]
  refine seg_flatten (fun x hx => ?_) ?_
  · simp only [tabRows, List.mem_map] at hx
    obtain ⟨j, _, rfl⟩ := hx
    rfl
  · have e : ((op.toNat - 1 : Nat) : Int) + 1 = op := by omega
    simp only [tabRows, List.getElem?_map]
    rw [List.getElem?_range (by omega)]
    simp only [Option.map_some, e]
section
variable {H : AH} {K : AV → AH → Prop} {n a b op u : Int} {w : Fk K}
theorem cs0 {i : Ins} : i.cs[0]? = some (.I i.op) := rfl
theorem cs1 {i : Ins} : i.cs[1]? = some (.I i.rd) := rfl
theorem cs2 {i : Ins} : i.cs[2]? = some (.I i.rs) := rfl
theorem cs3 {i : Ins} : i.cs[3]? = some (.I i.rt) := rfl
theorem cs4 {i : Ins} : i.cs[4]? = some (.I i.imm) := rfl
attribute [simp] cs0 cs1 cs2 cs3 cs4
end
end Go.Proofs.YtcibjklpaljadaaGreat.AM
namespace Go.Proofs.YtcibjklpaljadaaGreat.AM
set_option linter.unusedSimpArgs false
set_option linter.unusedVariables false
open Go

def ibitsV (f : BitVec 64 → BitVec 64 → BitVec 64) (x y : Int) : Int := (f (BitVec.ofInt 64 x) (BitVec.ofInt 64 y)).toInt
theorem wrap_toNat {v : BitVec 64} : IntKind.i64.wrap (v.toNat : Int) = v.toInt := by
  rw [BitVec.toInt_eq_toNat_cond]
  have := v.isLt
  unfold IntKind.wrap
  simp [IntKind.bits, IntKind.signed]
  split <;> split <;> omega
theorem ibits_V {f : BitVec 64 → BitVec 64 → BitVec 64} {x y : Int} : ibits .i64 f x y = some (.I (ibitsV f x y)) := by
  unfold ibits ibitsV
  exact congrArg (fun z => some (AV.I z)) wrap_toNat
theorem ibits_orV {x y : Int} : ibits .i64 (· ||| ·) x y = some (.I (ibitsV (· ||| ·) x y)) := ibits_V
theorem ibits_andV {x y : Int} : ibits .i64 (· &&& ·) x y = some (.I (ibitsV (· &&& ·) x y)) := ibits_V
theorem ibits_xorV {x y : Int} : ibits .i64 (· ^^^ ·) x y = some (.I (ibitsV (· ^^^ ·) x y)) := ibits_V
theorem ofInt_sign {a : Int} (h : -2147483648 ≤ a ∧ a ≤ 2147483647) : BitVec.ofInt 64 a = (BitVec.ofInt 32 a).signExtend 64 := by
  apply BitVec.eq_of_toInt_eq
  rw [BitVec.toInt_signExtend_of_le (by omega)]
  simp [BitVec.toInt_ofInt, Int.bmod_def]
  omega
theorem sext_lt {v : BitVec 32} : -2147483648 ≤ (v.signExtend 64).toInt ∧ (v.signExtend 64).toInt ≤ 2147483647 := by
  rw [BitVec.toInt_signExtend_of_le (by omega)]
  have h1 := BitVec.le_toInt v
  have h2 := @BitVec.toInt_lt 32 v
  simp at h1 h2
  omega
section
variable {a b : Int}
theorem or_W (ha : -2147483648 ≤ a ∧ a ≤ 2147483647) (hb : -2147483648 ≤ b ∧ b ≤ 2147483647) : -2147483648 ≤ ibitsV (· ||| ·) a b ∧ ibitsV (· ||| ·) a b ≤ 2147483647 := by
  unfold ibitsV; dsimp only; rw [ofInt_sign ha, ofInt_sign hb, ← BitVec.signExtend_or]; exact sext_lt
theorem and_W (ha : -2147483648 ≤ a ∧ a ≤ 2147483647) (hb : -2147483648 ≤ b ∧ b ≤ 2147483647) : -2147483648 ≤ ibitsV (· &&& ·) a b ∧ ibitsV (· &&& ·) a b ≤ 2147483647 := by
  unfold ibitsV; dsimp only; rw [ofInt_sign ha, ofInt_sign hb, ← BitVec.signExtend_and]; exact sext_lt
theorem xor_W (ha : -2147483648 ≤ a ∧ a ≤ 2147483647) (hb : -2147483648 ≤ b ∧ b ≤ 2147483647) : -2147483648 ≤ ibitsV (· ^^^ ·) a b ∧ ibitsV (· ^^^ ·) a b ≤ 2147483647 := by
  unfold ibitsV; dsimp only; rw [ofInt_sign ha, ofInt_sign hb, ← BitVec.signExtend_xor]; exact sext_lt
theorem and_31 (ha : -2147483648 ≤ a ∧ a ≤ 2147483647) : ibitsV (· &&& ·) a 31 = a % 32 := by
  unfold ibitsV
  dsimp only
  have e : (BitVec.ofInt 64 a &&& BitVec.ofInt 64 31).toNat = (a % 32).toNat := by
    rw [BitVec.toNat_and]
    have h31 : (BitVec.ofInt 64 31).toNat = 2 ^ 5 - 1 := by decide
    rw [h31, Nat.and_two_pow_sub_one_eq_mod, BitVec.toNat_ofInt]
    omega
  rw [BitVec.toInt_eq_toNat_cond, e]
  split <;> omega
end
def applyM (op a b : Int) : Int :=
  if op = 1 then ibitsV (· ||| ·) a b
  else if op = 2 then ibitsV (· ^^^ ·) a b
  else if op = 3 then ibitsV (· &&& ·) a b
  else if op = 4 then (if a = b then 1 else 0)
  else if op = 5 then (if a < b then 1 else 0)
  else if op = 6 then wrapM (IntKind.i64.wrap (a * 2 ^ (b % 32).toNat))
  else if op = 7 then a / 2 ^ (b % 32).toNat
  else if op = 8 then wrapM (a + b)
  else if op = 9 then wrapM (a - b)
  else if op = 10 then wrapM (IntKind.i64.wrap (a * b))
  else if op = 11 then (if b = 0 then -1 else wrapM (IntKind.i64.wrap (a.tdiv b)))
  else if b = 0 then a else a.tmod b
theorem iteW {c : Prop} [Decidable c] {x y : Int} (h1 : c → -2147483648 ≤ x ∧ x ≤ 2147483647) (h2 : ¬c → -2147483648 ≤ y ∧ y ≤ 2147483647) : -2147483648 ≤ (if c then x else y) ∧ (if c then x else y) ≤ 2147483647 := by
  by_cases h : c
  · rw [if_pos h]; exact h1 h
  · rw [if_neg h]; exact h2 h
theorem apply_W {op a b : Int} (ha : -2147483648 ≤ a ∧ a ≤ 2147483647) (hb : -2147483648 ≤ b ∧ b ≤ 2147483647) : -2147483648 ≤ applyM op a b ∧ applyM op a b ≤ 2147483647 := by
  have w1 := @wrapM_lt (IntKind.i64.wrap (a * 2 ^ (b % 32).toNat))
  have w2 := @wrapM_lt (a + b)
  have w3 := @wrapM_lt (a - b)
  have w4 := @wrapM_lt (IntKind.i64.wrap (a * b))
  have w5 := @wrapM_lt (IntKind.i64.wrap (a.tdiv b))
  have o1 := or_W ha hb
  have o2 := xor_W ha hb
  have o3 := and_W ha hb
  have hshr : -2147483648 ≤ a / 2 ^ (b % 32).toNat ∧ a / 2 ^ (b % 32).toNat ≤ 2147483647 := by
    have hp := @pow_pos2 (b % 32).toNat
    generalize (2 : Int) ^ (b % 32).toNat = c at *
    clear w1 w2 w3 w4 w5 o1 o2 o3
    by_cases h : 0 ≤ a
    · have h1 := Int.ediv_nonneg h (Int.le_of_lt hp)
      have h2 := Int.ediv_le_self c h
      omega
    · have h1 : a ≤ a / c := by
        rw [Int.le_ediv_iff_mul_le hp]
        have : a * c ≤ a * 1 := Int.mul_le_mul_of_nonpos_left (by omega) (by omega)
        omega
      have h2 : a / c < 0 := Int.ediv_neg_of_neg_of_pos (by omega) hp
      omega
  have htm : b ≠ 0 → -2147483648 ≤ a.tmod b ∧ a.tmod b ≤ 2147483647 := by
    intro hb0
    clear w1 w2 w3 w4 w5 o1 o2 o3 hshr
    have h := Int.natAbs_tmod a b
    have h2 : a.natAbs % b.natAbs ≤ a.natAbs := Nat.mod_le _ _
    have h3 : a.natAbs % b.natAbs < b.natAbs := Nat.mod_lt _ (by omega)
    generalize a.tmod b = t at *
    generalize a.natAbs % b.natAbs = r at *
    by_cases hs : 0 ≤ a
    · omega
    · omega
  unfold applyM
  refine iteW (fun _ => o1) fun _ => iteW (fun _ => o2) fun _ => iteW (fun _ => o3) fun _ => iteW (fun _ => iteW (fun _ => by omega) fun _ => by omega) fun _ => iteW (fun _ => iteW (fun _ => by omega) fun _ => by omega) fun _ =>
    iteW (fun _ => w1) fun _ => iteW (fun _ => hshr) fun _ => iteW (fun _ => w2) fun _ => iteW (fun _ => w3) fun _ => iteW (fun _ => w4) fun _ => iteW (fun _ => iteW (fun _ => by omega) fun _ => w5) fun _ => iteW (fun _ => ha) fun h => htm h
section
variable {H : AH} {K : AV → AH → Prop} {op a b : Int} {w : Fk K}
theorem K_itruth {x : Bool} : CallF Cd f_itruth [.b x] H K w = K (.I (if x = true then 1 else 0)) H := by
  rw [CallF_eq e_itruth rfl]
  cases x <;> simp
theorem K_sl2Flag {x : Bool} : CallF Cd f_sl2Flag [.b x] H K w = K (.I (if x = true then 1 else 0)) H := by
  rw [CallF_eq e_sl2Flag rfl]
  cases x <;> simp
theorem K_iapply (ha : -2147483648 ≤ a ∧ a ≤ 2147483647) (hb : -2147483648 ≤ b ∧ b ≤ 2147483647) : CallF Cd f_iapply [.I op, .I a, .I b] H K w = K (.I (applyM op a b)) H := by
  rw [CallF_eq e_iapply rfl]
  have h31 := and_31 hb
  simp
  repeat' (refine cnd_iff (fun h => ?_) (fun h => ?_) <;> try simp (disch := omega) [h, ibits_orV, ibits_andV, ibits_xorV, K_itruth, h31, K_iWrap])
  all_goals (refine Ki_fin ?_; simp [applyM, *])
theorem K_sl2Shift {x : Bool} (ha : -2147483648 ≤ a ∧ a ≤ 2147483647) (hb : -2147483648 ≤ b ∧ b ≤ 2147483647) : CallF Cd f_sl2Shift [.I a, .I b, .b x] H K w = K (.I (if x = true then a / 2 ^ (b % 32).toNat else wrapM (IntKind.i64.wrap (a * 2 ^ (b % 32).toNat)))) H := by
  rw [CallF_eq e_sl2Shift rfl]
  have h31 := and_31 hb
  cases x <;> simp (disch := omega) [ibits_orV, ibits_andV, ibits_xorV, h31, K_sWrap]
theorem K_sl2Divide : CallF Cd f_sl2Divide [.I a, .I b] H K w = K (.I (if b = 0 then -1 else wrapM (IntKind.i64.wrap (a.tdiv b)))) H := by
  rw [CallF_eq e_sl2Divide rfl]
  simp
  refine cnd_iff (fun h => ?_) (fun h => ?_)
  · simp [h]
  · simp (disch := omega) [h, K_sWrap]
theorem K_sl2Remain : CallF Cd f_sl2Remain [.I a, .I b] H K w = K (.I (if b = 0 then a else a.tmod b)) H := by
  rw [CallF_eq e_sl2Remain rfl]
  simp
  refine cnd_iff (fun h => ?_) (fun h => ?_)
  · simp [h]
  · simp (disch := omega) [h]
theorem Kt_fin {x y : Int} {z : AV} (h : x = y) : K (.tup [.I x, z]) H ↔ K (.tup [.I y, z]) H := by rw [h]
theorem K_sApply (ho : 1 ≤ op ∧ op ≤ 12) (ha : -2147483648 ≤ a ∧ a ≤ 2147483647) (hb : -2147483648 ≤ b ∧ b ≤ 2147483647) : CallF Cd f_sApply [.I op, .I a, .I b] H K w = K (.tup [.I (applyM op a b), .b true]) H := by
  rw [CallF_eq e_sApply rfl]
  have wa : isW a = true := by simp [isW]; omega
  have wb : isW b = true := by simp [isW]; omega
  have eo : ∀ (K : AV → AH → Prop) (w : Fk K), CallF Cd f_sOpValid [.I op] H K w = K (.b true) H := fun K w => by
    rw [CallF_eq e_sOpValid rfl]; simp [K_sl6In, ho]
  simp [eo, K_sWordValid, wa, wb]
  repeat' (refine cnd_iff (fun h => ?_) (fun h => ?_) <;> try simp (disch := omega) [h, ibits_orV, ibits_andV, ibits_xorV, K_sl2Flag, K_sl2Shift, K_sl2Divide, K_sl2Remain, K_sWrap])
  all_goals (refine Kt_fin ?_; simp [applyM, *])
end
end Go.Proofs.YtcibjklpaljadaaGreat.AM
namespace Go.Proofs.YtcibjklpaljadaaGreat.AM
set_option linter.unusedSimpArgs false
set_option linter.unusedVariables false
set_option maxRecDepth 10000
open Go

def Own (H : AH) (v : AV) (b : Nat) (l : List Int) : Prop := l.length ≤ 8589934592 ∧ ((v = .nils ∧ l = []) ∨ ∃ c, v = .sl b 0 l.length c ∧ H.bk b = some ⟨Ints l, true⟩ ∧ b < H.n)
theorem Own.only {H H' : AH} {v b l bs} (h : Own H v b l) (k : Only bs H H') (hb : b ∉ bs) : Own H' v b l := by
  obtain ⟨h0, h | ⟨c, rfl, h1, h2⟩⟩ := h
  · exact ⟨h0, .inl h⟩
  · exact ⟨h0, .inr ⟨c, rfl, k.bk h2 hb h1, Nat.lt_of_lt_of_le h2 k.1⟩⟩
theorem Ext.only {H H' bs} (h : Ext H H') : Only bs H H' := ⟨h.1, fun b hb _ => h.2 b hb⟩
theorem Own.ext {H H' : AH} {v b l} (h : Own H v b l) (k : Ext H H') : Own H' v b l := h.only (bs := []) k.only (by simp)
theorem Own.src {H : AH} {v b l} (h : Own H v b l) : Src H v l := by
  obtain ⟨h0, ⟨rfl, rfl⟩ | ⟨c, rfl, h1, h2⟩⟩ := h
  · exact ⟨h0, .inl ⟨rfl, rfl⟩⟩
  · refine ⟨h0, .inr (.inr ⟨b, 0, c, rfl, h2, ?_⟩)⟩
    rw [loadN_bk h1]; have := @seg_all l; simpa using this
theorem Own.flat {H : AH} {v b l} (h : Own H v b l) : v.flat = true := h.src.flat
theorem Own.len {H : AH} {v b l} (h : Own H v b l) : alen v = some l.length := h.src.sees.1
structure MAt (H : AH) (P rb mb : Nat) (c1 : ACap) (e : AV) (m : Mach) : Prop where
  p : H.bk P = some ⟨[.sl rb 0 32 c1, .I m.pc, e], true⟩
  r : H.bk rb = some ⟨Ints m.regs, true⟩
  rl : m.regs.length = 32
  own : Own H e mb m.mem
  mp : mb ≠ P
  mr : mb ≠ rb
  pr : P ≠ rb
  pn : P < H.n
  rn : rb < H.n
  ml : m.mem.length ≤ 10000
theorem MAt.only {H H' : AH} {P rb mb c1 e m bs} (h : MAt H P rb mb c1 e m) (k : Only bs H H') (hb : P ∉ bs ∧ rb ∉ bs ∧ mb ∉ bs) : MAt H' P rb mb c1 e m :=
  ⟨k.bk h.pn hb.1 h.p, k.bk h.rn hb.2.1 h.r, h.rl, h.own.only k hb.2.2, h.mp, h.mr, h.pr, Nat.lt_of_lt_of_le h.pn k.1, Nat.lt_of_lt_of_le h.rn k.1, h.ml⟩
theorem MAt.ext {H H' : AH} {P rb mb c1 e m} (h : MAt H P rb mb c1 e m) (k : Ext H H') : MAt H' P rb mb c1 e m := h.only (bs := []) k.only (by simp)
section
variable {H : AH} {K : AV → AH → Prop} {a x rd : Int} {w : Fk K} {P rb mb : Nat} {c1 : ACap} {e : AV} {m : Mach}
end
end Go.Proofs.YtcibjklpaljadaaGreat.AM
namespace Go.Proofs.YtcibjklpaljadaaGreat.AM
set_option linter.unusedSimpArgs false
set_option linter.unusedVariables false
set_option maxRecDepth 10000
open Go

section
variable {H : AH} {K : AV → AH → Prop} {w : Fk K} {P rb mb : Nat} {c1 : ACap} {e : AV} {m : Mach}
end
end Go.Proofs.YtcibjklpaljadaaGreat.AM
namespace Go.Proofs.YtcibjklpaljadaaGreat.AM
set_option linter.unusedSimpArgs false
set_option linter.unusedVariables false
set_option maxRecDepth 10000
open Go

section
variable {H : AH} {K : AV → AH → Prop} {w : Fk K} {P rb mb : Nat} {c1 : ACap} {e : AV} {m : Mach} {i : Ins}
end
end Go.Proofs.YtcibjklpaljadaaGreat.AM
namespace Go.Proofs.YtcibjklpaljadaaGreat.AM
set_option linter.unusedSimpArgs false
set_option linter.unusedVariables false
set_option maxRecDepth 10000
open Go

def OwnM (base : Nat) (H : AH) (c : List AV) (rb mb : Nat) (m : Mach) : Prop := ∃ r e, c = [r, .I m.pc, e] ∧ Own H r rb m.regs ∧ Own H e mb m.mem ∧ base ≤ rb ∧ base ≤ mb ∧ rb ≠ mb
theorem OwnM.src {base H c rb mb m} (h : OwnM base H c rb mb m) : SrcM H c m := let ⟨r, e, h1, h2, h3, _⟩ := h; ⟨r, e, h1, h2.src, h3.src⟩
theorem OwnM.ext {base H H' c rb mb m} (h : OwnM base H c rb mb m) (k : Ext H H') : OwnM base H' c rb mb m := let ⟨r, e, h1, h2, h3, h4⟩ := h; ⟨r, e, h1, h2.ext k, h3.ext k, h4⟩
section
variable {H : AH} {K : AV → AH → Prop} {w : Fk K} {m : Mach}
end
end Go.Proofs.YtcibjklpaljadaaGreat.AM
namespace Go.Proofs.YtcibjklpaljadaaGreat.AM
set_option linter.unusedSimpArgs false
set_option linter.unusedVariables false
set_option maxRecDepth 10000
open Go

def nums (k : Int) (n : Nat) : List Int := (List.range n).map fun (i : Nat) => k + i
theorem nums_len {k : Int} {n : Nat} : (nums k n).length = n := by simp [nums]
section
variable {H : AH} {K : AV → AH → Prop} {w : Fk K} {m : Mach} {c : List AV}
theorem K_wheldIntS_l {v : AV} {l : List Int} {k : Int} (h : SeesZ H v (nums k l.length)) (hk : 0 ≤ k ∧ k ≤ 1099511627776) {Q : Out → Env → AH → Prop} (n i : Nat) (hn : i + n = l.length)
    (h1 : ∀ e, Q (.brk 0) ([(0, v), (1, .I (k + l.length))] ++ e) H) :
    W Cd (.loop c_wheldIntS_l0) [(0, v), (1, .I (k + i)), (5, .I i)] H Q := by
  have hl := h.2.1
  have al := h.1
  rw [nums_len] at hl al
  induction n generalizing i with
  | zero =>
    rw [W_loop_as c_wheldIntS_l0.eq_1]
    have hi : i = l.length := by omega
    subst hi
    simp [al]
    exact h1 [(5, .I l.length), (9, .b false)]
  | succ n ih =>
    rw [W_loop_as c_wheldIntS_l0.eq_1]
    have hi : i < l.length := by omega
    have hlt : (i : Int) < l.length := by omega
    obtain ⟨b, o, s1, _, l1⟩ := h.at (i := i) (by rw [nums_len]; exact hi)
    rw [nums_len] at s1
    have hx : (nums k l.length)[i]'(by rw [nums_len]; exact hi) = k + i := by simp [nums]
    rw [hx] at l1
    have hr := ih (i + 1) (by omega)
    simp (disch := omega) [hlt, al, s1, l1]
    rw [show k + (i : Int) + 1 = k + ((i + 1 : Nat) : Int) by omega]
    simpa using hr
theorem K_wheldIntS {v : AV} {l : List Int} {k : Int} (h : SeesZ H v (nums k l.length)) (hk : 0 ≤ k ∧ k ≤ 1099511627776) (h1 : K (.I (k + l.length)) H) : CallF Cd f_wheldIntS [v, .I k] H K w := by
  rw [CallF_eq e_wheldIntS rfl]
  simp
  have := K_wheldIntS_l h hk (Q := blockK 0 (seqK Cd (.keep [1]) (seqK Cd (((AC.ops [o1 20 (.mv (.t 1)), o1 4 (.mv (.t 20))]).seq (.keep [4])).seq .ret) (retK [.t 4] K)))) l.length 0 (by omega) (fun e => by simp; exact h1)
  simpa using this
theorem Own.lt {v : AV} {b : Nat} {l : List Int} (h : Own H v b l) : (v = .nils ∧ l = []) ∨ b < H.n := by
  obtain ⟨_, h | ⟨_, _, _, h⟩⟩ := h
  · exact .inl h
  · exact .inr h
end
end Go.Proofs.YtcibjklpaljadaaGreat.AM
namespace Go.Proofs.YtcibjklpaljadaaGreat.AM
set_option linter.unusedSimpArgs false
set_option linter.unusedVariables false
open Go

inductive Exs where
  | nil
  | cons (op n : Int) (args rest : Exs)
deriving DecidableEq, Inhabited
structure Ex where
  op : Int
  n : Int
  args : Exs
deriving DecidableEq, Inhabited
@[simp] def Exs.list : Exs → List Ex
  | .nil => []
  | .cons op n a r => ⟨op, n, a⟩ :: r.list
@[simp] def Exs.of : List Ex → Exs
  | [] => .nil
  | e :: l => .cons e.op e.n e.args (Exs.of l)
theorem Exs.list_of : ∀ l : List Ex, (Exs.of l).list = l
  | [] => rfl
  | e :: l => by simp [Exs.list_of l]
theorem Exs.of_list : ∀ l : Exs, Exs.of l.list = l
  | .nil => rfl
  | .cons op n a r => by simp [Exs.of_list r]
theorem Exs.both {Q : Exs → Prop} (h : ∀ a : Exs, (∀ e ∈ a.list, Q e.args) → Q a) : ∀ a : Exs, Q a ∧ ∀ e ∈ a.list, Q e.args
  | .nil => ⟨h _ (by simp), by simp⟩
  | .cons op n a r => by
    have h1 := (Exs.both h a).1
    have h2 := (Exs.both h r).2
    have h3 : ∀ e ∈ (Exs.cons op n a r).list, Q e.args := by
      intro e he
      rcases List.mem_cons.1 he with rfl | he
      · exact h1
      · exact h2 e he
    exact ⟨h _ h3, h3⟩
theorem Exs.ind {Q : Exs → Prop} (h : ∀ a : Exs, (∀ e ∈ a.list, Q e.args) → Q a) (a : Exs) : Q a := (Exs.both h a).1

inductive Sts where
  | nil
  | cons (k v b : Int) (e : Ex) (body els rest : Sts)
deriving DecidableEq, Inhabited
structure St1 where
  k : Int
  v : Int
  b : Int
  e : Ex
  body : Sts
  els : Sts
deriving DecidableEq, Inhabited
@[simp] def Sts.list : Sts → List St1
  | .nil => []
  | .cons k v b e y z r => ⟨k, v, b, e, y, z⟩ :: r.list
@[simp] def Sts.of : List St1 → Sts
  | [] => .nil
  | s :: l => .cons s.k s.v s.b s.e s.body s.els (Sts.of l)
theorem Sts.list_of : ∀ l : List St1, (Sts.of l).list = l
  | [] => rfl
  | e :: l => by simp [Sts.list_of l]
theorem Sts.of_list : ∀ l : Sts, Sts.of l.list = l
  | .nil => rfl
  | .cons k v b e y z r => by simp [Sts.of_list r]
theorem Sts.both {Q : Sts → Prop} (h : ∀ a : Sts, (∀ s ∈ a.list, Q s.body ∧ Q s.els) → Q a) : ∀ a : Sts, Q a ∧ ∀ s ∈ a.list, Q s.body ∧ Q s.els
  | .nil => ⟨h _ (by simp), by simp⟩
  | .cons k v b e y z r => by
    have h1 := (Sts.both h y).1
    have h1' := (Sts.both h z).1
    have h2 := (Sts.both h r).2
    have h3 : ∀ s ∈ (Sts.cons k v b e y z r).list, Q s.body ∧ Q s.els := by
      intro e he
      rcases List.mem_cons.1 he with rfl | he
      · exact ⟨h1, h1'⟩
      · exact h2 e he
    exact ⟨h _ h3, h3⟩
theorem Sts.ind {Q : Sts → Prop} (h : ∀ a : Sts, (∀ s ∈ a.list, Q s.body ∧ Q s.els) → Q a) (a : Sts) : Q a := (Sts.both h a).1

def capOk (n sz : Nat) : ACap → Prop
  | .ex c => n ≤ c
  | .lb c z => n ≤ c ∧ z = sz
  | .ro => True
def SlC (ok : Nat → Prop) (H : AH) (v : AV) (n sz : Nat) (cs : List AV) : Prop :=
  n ≤ 8589934592 ∧ cs.length = n * sz ∧ ((n = 0 ∧ (v = .nils ∨ v = .esl)) ∨ ∃ b o cap, v = .sl b o n cap ∧ (ok b ∧ capOk n sz cap) ∧ b < H.n ∧ H.loadN b o (n * sz) = some cs)
theorem SlC.flat {ok H v n sz cs} (h : SlC ok H v n sz cs) : v.flat = true := by
  obtain ⟨_, _, ⟨_, rfl | rfl⟩ | ⟨b, o, c, rfl, _⟩⟩ := h <;> rfl
theorem SlC.alen {ok H v n sz cs} (h : SlC ok H v n sz cs) : alen v = some n := by
  obtain ⟨_, _, ⟨rfl, rfl | rfl⟩ | ⟨b, o, c, rfl, _⟩⟩ := h <;> rfl
theorem SlC.mono {ok ok' : Nat → Prop} {H H' v n sz cs} (h : SlC ok H v n sz cs) (hn : H.n ≤ H'.n) (hk : ∀ b, ok b → b < H.n → H'.bk b = H.bk b) (ho : ∀ b, ok b → b < H.n → ok' b) : SlC ok' H' v n sz cs := by
  refine ⟨h.1, h.2.1, ?_⟩
  rcases h.2.2 with q | ⟨b, o, cap, h1, h2, h3, h4⟩
  · exact .inl q
  · exact .inr ⟨b, o, cap, h1, ⟨ho b h2.1 h3, h2.2⟩, Nat.lt_of_lt_of_le h3 hn, by unfold AH.loadN at h4 ⊢; rw [hk b h2.1 h3]; exact h4⟩
theorem SlC.elems {ok H v n sz cs} (h : SlC ok H v n sz cs) : AM.elems H sz v = some cs := by
  obtain ⟨h1, h2, ⟨rfl, rfl | rfl⟩ | ⟨b, o, c, rfl, _, _, h3⟩⟩ := h
  · have : cs = [] := List.eq_nil_of_length_eq_zero (by omega)
    subst this; rfl
  · have : cs = [] := List.eq_nil_of_length_eq_zero (by omega)
    subst this; rfl
  · exact h3
theorem seg_seg {cs c1 : List AV} {o n o1 n1 : Nat} (h : seg cs o n = some c1) (h1 : o1 + n1 ≤ n) : seg cs (o + o1) n1 = seg c1 o1 n1 := by
  unfold seg at h ⊢
  split at h
  · rename_i hl
    simp only [Option.some.injEq] at h
    subst h
    rw [if_pos (by omega), if_pos (by simp; omega), List.drop_take, List.drop_drop, List.take_take]
    congr 2; omega
  · cases h
theorem SlC.at {ok H v n sz cs} (h : SlC ok H v n sz cs) {i : Nat} (hi : i < n) : ∃ b o cap, v = .sl b o n cap ∧ ok b ∧ b < H.n ∧ ∀ j m, j + m ≤ n * sz → H.loadN b (o + j) m = seg cs j m := by
  obtain ⟨h1, h2, ⟨rfl, _⟩ | ⟨b, o, c, rfl, h3, h4, h5⟩⟩ := h
  · omega
  · refine ⟨b, o, c, rfl, h3.1, h4, fun j m hj => ?_⟩
    unfold AH.loadN at h5 ⊢
    obtain ⟨k, hk, hs⟩ := Option.bind_eq_some_iff.1 h5
    rw [hk]; exact seg_seg hs hj

theorem drop3 {a b c : AV} {l : List AV} {n : Nat} : (a :: b :: c :: l).drop (n + 3) = l.drop n := rfl
theorem drop8 {a b c d e f g h : AV} {l : List AV} {n : Nat} : (a :: b :: c :: d :: e :: f :: g :: h :: l).drop (n + 8) = l.drop n := rfl
def EF (ok : Nat → Prop) (H : AH) : Exs → List AV → Prop
  | .nil, cs => cs = []
  | .cons op n a r, cs => ∃ v ca cr, cs = .I op :: .I n :: v :: cr ∧ SlC ok H v a.list.length 3 ca ∧ EF ok H a ca ∧ EF ok H r cr
def EV (ok : Nat → Prop) (H : AH) (v : AV) (a : Exs) : Prop := ∃ ca, SlC ok H v a.list.length 3 ca ∧ EF ok H a ca
theorem EF.mono {ok ok' : Nat → Prop} {H H' : AH} (hn : H.n ≤ H'.n) (hk : ∀ b, ok b → b < H.n → H'.bk b = H.bk b) (ho : ∀ b, ok b → b < H.n → ok' b) : ∀ {f cs}, EF ok H f cs → EF ok' H' f cs
  | .nil, _, h => h
  | .cons _ _ _ _, _, ⟨v, ca, cr, h1, h2, h3, h4⟩ => ⟨v, ca, cr, h1, h2.mono hn hk ho, EF.mono hn hk ho h3, EF.mono hn hk ho h4⟩
theorem EV.mono {ok ok' : Nat → Prop} {H H' : AH} {v f} (h : EV ok H v f) (hn : H.n ≤ H'.n) (hk : ∀ b, ok b → b < H.n → H'.bk b = H.bk b) (ho : ∀ b, ok b → b < H.n → ok' b) : EV ok' H' v f := let ⟨ca, h1, h2⟩ := h; ⟨ca, h1.mono hn hk ho, h2.mono hn hk ho⟩
theorem EV.ext {ok H H' v f} (h : EV ok H v f) (k : Ext H H') : EV ok H' v f := h.mono k.1 (fun b _ hb => k.2 b hb) (fun _ h _ => h)
theorem EF.ext {ok H H' v f} (h : EF ok H v f) (k : Ext H H') : EF ok H' v f := h.mono k.1 (fun b _ hb => k.2 b hb) (fun _ h _ => h)
theorem EF.len {ok H} : ∀ {f cs}, EF ok H f cs → cs.length = f.list.length * 3
  | .nil, _, h => by cases h; rfl
  | .cons _ _ _ _, _, ⟨v, ca, cr, h1, h2, h3, h4⟩ => by subst h1; have := h4.len; simp; omega
theorem EF.get {ok H} : ∀ {f cs}, EF ok H f cs → ∀ {i e}, f.list[i]? = some e → ∃ v, seg cs (i * 3) 3 = some [.I e.op, .I e.n, v] ∧ EV ok H v e.args
  | .nil, _, _, i, e, hi => by simp at hi
  | .cons op n a r, _, ⟨v, ca, cr, h1, h2, h3, h4⟩, i, e, hi => by
    subst h1
    cases i with
    | zero =>
      simp at hi; subst hi
      exact ⟨v, by simp [seg], ca, h2, h3⟩
    | succ i =>
      obtain ⟨v', h5, h6⟩ := h4.get (i := i) (e := e) (by simpa using hi)
      refine ⟨v', ?_, h6⟩
      rw [← h5]
      unfold seg
      have : (i + 1) * 3 = i * 3 + 3 := by omega
      rw [this]
      rw [drop3]
      simp only [List.length_cons]
      by_cases hq : i * 3 + 3 ≤ cr.length
      · rw [if_pos (by omega), if_pos hq]
      · rw [if_neg (by omega), if_neg hq]
theorem EF.app {ok H} : ∀ {f cs} {g : Exs} {cg}, EF ok H f cs → EF ok H g cg → EF ok H (Exs.of (f.list ++ g.list)) (cs ++ cg)
  | .nil, _, g, cg, h, k => by cases h; simpa [Exs.of_list] using k
  | .cons _ _ _ _, _, g, cg, ⟨v, ca, cr, h1, h2, h3, h4⟩, k => by
    subst h1
    exact ⟨v, ca, cr ++ cg, by simp, h2, h3, EF.app h4 k⟩
theorem EF.one {ok H} {e : Ex} {v} (h : EV ok H v e.args) : EF ok H (.cons e.op e.n e.args .nil) [.I e.op, .I e.n, v] := let ⟨ca, h1, h2⟩ := h; ⟨v, ca, [], rfl, h1, h2, rfl⟩

def SF (ok : Nat → Prop) (H : AH) : Sts → List AV → Prop
  | .nil, cs => cs = []
  | .cons k v b e y z r, cs => ∃ va vy vz cy cz cr, cs = .I k :: .I v :: .I b :: .I e.op :: .I e.n :: va :: vy :: vz :: cr ∧ EV ok H va e.args ∧ SlC ok H vy y.list.length 8 cy ∧ SF ok H y cy ∧ SlC ok H vz z.list.length 8 cz ∧ SF ok H z cz ∧ SF ok H r cr
def SV (ok : Nat → Prop) (H : AH) (v : AV) (a : Sts) : Prop := ∃ ca, SlC ok H v a.list.length 8 ca ∧ SF ok H a ca
def S1 (ok : Nat → Prop) (H : AH) (c : List AV) (s : St1) : Prop := ∃ va vy vz, c = [.I s.k, .I s.v, .I s.b, .I s.e.op, .I s.e.n, va, vy, vz] ∧ EV ok H va s.e.args ∧ SV ok H vy s.body ∧ SV ok H vz s.els
theorem SF.mono {ok ok' : Nat → Prop} {H H' : AH} (hn : H.n ≤ H'.n) (hk : ∀ b, ok b → b < H.n → H'.bk b = H.bk b) (ho : ∀ b, ok b → b < H.n → ok' b) : ∀ {f cs}, SF ok H f cs → SF ok' H' f cs
  | .nil, _, h => h
  | .cons _ _ _ _ _ _ _, _, ⟨va, vy, vz, cy, cz, cr, h1, h2, h3, h4, h5, h6, h7⟩ => ⟨va, vy, vz, cy, cz, cr, h1, h2.mono hn hk ho, h3.mono hn hk ho, SF.mono hn hk ho h4, h5.mono hn hk ho, SF.mono hn hk ho h6, SF.mono hn hk ho h7⟩
theorem SV.mono {ok ok' : Nat → Prop} {H H' : AH} {v f} (h : SV ok H v f) (hn : H.n ≤ H'.n) (hk : ∀ b, ok b → b < H.n → H'.bk b = H.bk b) (ho : ∀ b, ok b → b < H.n → ok' b) : SV ok' H' v f := let ⟨ca, h1, h2⟩ := h; ⟨ca, h1.mono hn hk ho, h2.mono hn hk ho⟩
theorem S1.mono {ok ok' : Nat → Prop} {H H' : AH} {v f} (h : S1 ok H v f) (hn : H.n ≤ H'.n) (hk : ∀ b, ok b → b < H.n → H'.bk b = H.bk b) (ho : ∀ b, ok b → b < H.n → ok' b) : S1 ok' H' v f :=
  let ⟨va, vy, vz, h0, h1, h2, h3⟩ := h; ⟨va, vy, vz, h0, h1.mono hn hk ho, h2.mono hn hk ho, h3.mono hn hk ho⟩
theorem SV.ext {ok H H' v f} (h : SV ok H v f) (k : Ext H H') : SV ok H' v f := h.mono k.1 (fun b _ hb => k.2 b hb) (fun _ h _ => h)
theorem S1.ext {ok H H' v f} (h : S1 ok H v f) (k : Ext H H') : S1 ok H' v f := h.mono k.1 (fun b _ hb => k.2 b hb) (fun _ h _ => h)
theorem SF.ext {ok H H' v f} (h : SF ok H v f) (k : Ext H H') : SF ok H' v f := h.mono k.1 (fun b _ hb => k.2 b hb) (fun _ h _ => h)
theorem SF.len {ok H} : ∀ {f cs}, SF ok H f cs → cs.length = f.list.length * 8
  | .nil, _, h => by cases h; rfl
  | .cons _ _ _ _ _ _ _, _, ⟨va, vy, vz, cy, cz, cr, h1, h2, h3, h4, h5, h6, h7⟩ => by subst h1; have := h7.len; simp; omega
theorem SF.get {ok H} : ∀ {f cs}, SF ok H f cs → ∀ {i s}, f.list[i]? = some s → ∃ c, seg cs (i * 8) 8 = some c ∧ S1 ok H c s
  | .nil, _, _, i, e, hi => by simp at hi
  | .cons k v b e y z r, _, ⟨va, vy, vz, cy, cz, cr, h1, h2, h3, h4, h5, h6, h7⟩, i, s, hi => by
    subst h1
    cases i with
    | zero =>
      simp at hi; subst hi
      exact ⟨[.I k, .I v, .I b, .I e.op, .I e.n, va, vy, vz], by simp [seg], va, vy, vz, rfl, h2, ⟨cy, h3, h4⟩, cz, h5, h6⟩
    | succ i =>
      obtain ⟨v', h5, h6⟩ := h7.get (i := i) (s := s) (by simpa using hi)
      refine ⟨v', ?_, h6⟩
      rw [← h5]
      unfold seg
      have : (i + 1) * 8 = i * 8 + 8 := by omega
      rw [this]
      rw [drop8]
      simp only [List.length_cons]
      by_cases hq : i * 8 + 8 ≤ cr.length
      · rw [if_pos (by omega), if_pos hq]
      · rw [if_neg (by omega), if_neg hq]
theorem SF.app {ok H} : ∀ {f cs} {g : Sts} {cg}, SF ok H f cs → SF ok H g cg → SF ok H (Sts.of (f.list ++ g.list)) (cs ++ cg)
  | .nil, _, g, cg, h, k => by cases h; simpa [Sts.of_list] using k
  | .cons _ _ _ _ _ _ _, _, g, cg, ⟨va, vy, vz, cy, cz, cr, h1, h2, h3, h4, h5, h6, h7⟩, k => by
    subst h1
    exact ⟨va, vy, vz, cy, cz, cr ++ cg, by simp, h2, h3, h4, h5, h6, SF.app h7 k⟩
theorem S1.one {ok H c s} (h : S1 ok H c s) : SF ok H (Sts.of [s]) c := by
  obtain ⟨va, vy, vz, h0, h1, ⟨cy, h2, h2'⟩, cz, h3, h3'⟩ := h
  exact ⟨va, vy, vz, cy, cz, [], h0, h1, h2, h2', h3, h3', rfl⟩
theorem S1.len {ok H c s} (h : S1 ok H c s) : c.length = 8 := by
  obtain ⟨va, vy, vz, rfl, _⟩ := h; rfl
theorem SV.at {ok H v f} (h : SV ok H v f) {i : Nat} {s : St1} (hi : f.list[i]? = some s) : ∃ b o cap c, v = .sl b o f.list.length cap ∧ ok b ∧ b < H.n ∧ H.loadN b (o + i * 8) 8 = some c ∧ S1 ok H c s := by
  obtain ⟨ca, h1, h2⟩ := h
  have hl := (List.getElem?_eq_some_iff.1 hi).1
  obtain ⟨b, o, cap, e1, e2, e3, e4⟩ := h1.at hl
  obtain ⟨c, e5, e6⟩ := h2.get hi
  exact ⟨b, o, cap, c, e1, e2, e3, by rw [e4 _ _ (by omega)]; exact e5, e6⟩
theorem EV.at {ok H v f} (h : EV ok H v f) {i : Nat} {e : Ex} (hi : f.list[i]? = some e) : ∃ b o cap va, v = .sl b o f.list.length cap ∧ ok b ∧ b < H.n ∧ H.loadN b (o + i * 3) 3 = some [.I e.op, .I e.n, va] ∧ EV ok H va e.args := by
  obtain ⟨ca, h1, h2⟩ := h
  have hl := (List.getElem?_eq_some_iff.1 hi).1
  obtain ⟨b, o, cap, e1, e2, e3, e4⟩ := h1.at hl
  obtain ⟨c, e5, e6⟩ := h2.get hi
  exact ⟨b, o, cap, c, e1, e2, e3, by rw [e4 _ _ (by omega)]; exact e5, e6⟩
theorem EV.flat {ok H v f} (h : EV ok H v f) : v.flat = true := let ⟨_, h1, _⟩ := h; h1.flat
theorem SV.flat {ok H v f} (h : SV ok H v f) : v.flat = true := let ⟨_, h1, _⟩ := h; h1.flat
theorem EV.alen {ok H v f} (h : EV ok H v f) : alen v = some f.list.length := let ⟨_, h1, _⟩ := h; h1.alen
theorem SV.alen {ok H v f} (h : SV ok H v f) : alen v = some f.list.length := let ⟨_, h1, _⟩ := h; h1.alen
theorem EV.big {ok H v f} (h : EV ok H v f) : f.list.length ≤ 8589934592 := let ⟨_, h1, _⟩ := h; h1.1
theorem SV.big {ok H v f} (h : SV ok H v f) : f.list.length ≤ 8589934592 := let ⟨_, h1, _⟩ := h; h1.1
theorem EV.nil {ok H v} (h : v = .nils ∨ v = .esl) : EV ok H v .nil := ⟨[], ⟨by simp, rfl, .inl ⟨rfl, h⟩⟩, rfl⟩
theorem SV.nil {ok H v} (h : v = .nils ∨ v = .esl) : SV ok H v .nil := ⟨[], ⟨by simp, rfl, .inl ⟨rfl, h⟩⟩, rfl⟩

def okE1 (d op n : Int) (k : Nat) (sub : Bool) : Bool :=
  if op = 0 then decide (0 ≤ n ∧ n ≤ 99999 ∧ k = 0 ∧ 0 < d) else if op = 13 then decide (0 ≤ n ∧ n < 4 ∧ k = 0 ∧ 0 < d)
  else decide (1 ≤ op ∧ op ≤ 12 ∧ n = 0 ∧ k = 2 ∧ 1 < d) && sub
def okF : Int → Exs → Bool
  | _, .nil => true
  | d, .cons op n a r => okE1 d op n a.list.length (okF (d - 1) a) && okF d r
def okE (d : Int) (e : Ex) : Bool := okE1 d e.op e.n e.args.list.length (okF (d - 1) e.args)
theorem okF_mem {d : Int} : ∀ {f : Exs}, okF d f = f.list.all (okE d)
  | .nil => rfl
  | .cons op n a r => by simp only [okF, Exs.list, List.all_cons, okF_mem (f := r)]; rfl
def evE1 (vars : List Int) (op n : Int) (xs : List Int) : Int :=
  if op = 0 then n else if op = 13 then vars.getD n.toNat 0 else applyM op (xs.getD 0 0) (xs.getD 1 0)
def evF (vars : List Int) : Exs → List Int
  | .nil => []
  | .cons op n a r => evE1 vars op n (evF vars a) :: evF vars r
def evE (vars : List Int) (e : Ex) : Int := evE1 vars e.op e.n (evF vars e.args)
theorem evF_map {vars : List Int} : ∀ {f : Exs}, evF vars f = f.list.map (evE vars)
  | .nil => rfl
  | .cons op n a r => by simp only [evF, Exs.list, List.map_cons, evF_map (f := r)]; rfl
def cpE1 (n : Int) (k : Nat) (sub : Bool) : Bool := decide (k = 0) || (decide (k = 2 ∧ n = 0) && sub)
def cpF : Exs → Bool
  | .nil => true
  | .cons _ n a r => cpE1 n a.list.length (cpF a) && cpF r
def cpE (e : Ex) : Bool := cpE1 e.n e.args.list.length (cpF e.args)
theorem cpF_mem : ∀ {f : Exs}, cpF f = f.list.all cpE
  | .nil => rfl
  | .cons op n a r => by simp only [cpF, Exs.list, List.all_cons, cpF_mem (f := r)]; rfl
theorem cp_of_ok : ∀ {f : Exs} {d : Int}, okF d f = true → cpF f = true
  | .nil, _, _ => rfl
  | .cons op n a r, d, h => by
    simp only [okF, Bool.and_eq_true] at h
    simp only [cpF, Bool.and_eq_true]
    refine ⟨?_, cp_of_ok h.2⟩
    have h1 := h.1
    unfold okE1 at h1; unfold cpE1
    split at h1
    · simp at h1; simp [h1]
    · split at h1
      · simp at h1; simp [h1]
      · simp at h1; simp [h1, cp_of_ok h1.2]
theorem cpE_of_ok {e : Ex} {d : Int} (h : okE d e = true) : cpE e = true := by
  have := cp_of_ok (f := .cons e.op e.n e.args .nil) (d := d) (by simp [okF]; exact h)
  simp only [cpF, Bool.and_true] at this
  exact this
end Go.Proofs.YtcibjklpaljadaaGreat.AM
namespace Go.Proofs.YtcibjklpaljadaaGreat.AM
set_option linter.unusedSimpArgs false
set_option linter.unusedVariables false
open Go

theorem two_of {α : Type} {l : List α} (h : l.length = 2) : ∃ a b, l = [a, b] := by
  match l, h with
  | [a, b], _ => exact ⟨a, b, rfl⟩
theorem EV.two {ok H v} {f : Exs} (h : EV ok H v f) {x y : Ex} (hl : f.list = [x, y]) : ∃ b o cap vx vy, v = .sl b o 2 cap ∧ ok b ∧ b < H.n ∧ H.loadN b o 3 = some [.I x.op, .I x.n, vx] ∧ H.loadN b (o + 3) 3 = some [.I y.op, .I y.n, vy] ∧ EV ok H vx x.args ∧ EV ok H vy y.args := by
  obtain ⟨b, o, cap, vx, e1, e2, e3, e4, e5⟩ := h.at (i := 0) (e := x) (by rw [hl]; rfl)
  obtain ⟨b', o', cap', vy, e6, e7, e8, e9, e10⟩ := h.at (i := 1) (e := y) (by rw [hl]; rfl)
  rw [e1] at e6
  simp only [AV.sl.injEq, true_and] at e6
  obtain ⟨rfl, rfl, rfl⟩ := e6
  rw [hl] at e1
  exact ⟨b, o, cap, vx, vy, e1, e2, e3, by simpa using e4, by simpa using e9, e5, e10⟩
theorem loadN_extE {H H' : AH} {b o n : Nat} {cs : List AV} (h : H.loadN b o n = some cs) (k : Ext H H') (hb : b < H.n) : H'.loadN b o n = some cs := by
  unfold AH.loadN at h ⊢; rw [k.2 b hb]; exact h
theorem loadN_get {H : AH} {b o n : Nat} {cs : List AV} (h : H.loadN b o n = some cs) {i : Nat} (hi : i < n) : H.load b (o + i) = cs[i]? := by
  unfold AH.loadN at h; unfold AH.load
  obtain ⟨k, hk, hs⟩ := Option.bind_eq_some_iff.1 h
  rw [hk]
  unfold seg at hs
  split at hs
  · simp only [Option.some.injEq] at hs
    subst hs
    simp [List.getElem?_take, hi]
  · cases hs
theorem loadN_at0 {H : AH} {b o : Nat} {x y z : AV} (h : H.loadN b o 3 = some [x, y, z]) : H.load b o = some x := by
  have := loadN_get h (i := 0) (by omega); simpa using this
theorem loadN_at1 {H : AH} {b o : Nat} {x y z : AV} (h : H.loadN b o 3 = some [x, y, z]) : H.load b (o + 1) = some y := by
  have := loadN_get h (i := 1) (by omega); simpa using this
theorem loadN_at2 {H : AH} {b o : Nat} {x y z : AV} (h : H.loadN b o 3 = some [x, y, z]) : H.load b (o + 2) = some z := by
  have := loadN_get h (i := 2) (by omega); simpa using this
section
variable {H : AH} {K : AV → AH → Prop} {w : Fk K} {n : Int}
theorem K_iOpValid : CallF Cd f_iOpValid [.I n] H K w = K (.b (decide (1 ≤ n ∧ n ≤ 12))) H := by
  rw [CallF_eq e_iOpValid rfl]
  by_cases h : 1 ≤ n <;> simp [h]
theorem K_sOpValid : CallF Cd f_sOpValid [.I n] H K w = K (.b (decide (1 ≤ n ∧ n ≤ 12))) H := by
  apply propext
  rw [CallF_eq e_sOpValid rfl]
  simp [K_sl6In]
end
theorem K_iexprValid (a : Exs) : ∀ {ok : Nat → Prop} {H : AH} {K : AV → AH → Prop} {w : Fk K} {op n d : Int} {v : AV}, EV ok H v a → -100 ≤ d ∧ d ≤ 100 →
    (∀ H', Ext H H' → K (.b (okE1 d op n a.list.length (okF (d - 1) a))) H') → CallF Cd f_iexprValid [.agg [.I op, .I n, v], .I d] H K w := by
  induction a using Exs.ind with
  | h a ih =>
  intro ok H K w op n d v h hd k
  have hl := h.alen
  have hb := h.big
  have x1 := Ext.push H [.I op, .I n, v]
  have fin : ∀ b, b = okE1 d op n a.list.length (okF (d - 1) a) → K (.b b) (H.push [.I op, .I n, v]) := fun b hb => by rw [hb]; exact k _ x1
  rw [CallF_eq e_iexprValid rfl]
  generalize hm : a.list.length = m at *
  by_cases h0 : op = 0
  · by_cases c1 : 0 ≤ n <;> by_cases c2 : n ≤ 99999 <;> by_cases c3 : m = 0 <;> by_cases c4 : 0 < d <;> simp (disch := omega) [load_push, hl, h0, c1, c2, c3, c4] <;> simp only [h0] at fin <;> exact fin _ (by simp [okE1, c1, c2, c3, c4])
  by_cases h1 : op = 13
  · by_cases c1 : 0 ≤ n <;> by_cases c2 : n < 4 <;> by_cases c3 : m = 0 <;> by_cases c4 : 0 < d <;> simp (disch := omega) [load_push, hl, h1, c1, c2, c3, c4] <;> simp only [h1] at fin <;> exact fin _ (by simp [okE1, c1, c2, c3, c4])
  by_cases c0 : 1 ≤ op ∧ op ≤ 12
  rotate_left
  · simp (disch := omega) [load_push, hl, h0, h1, K_iOpValid, c0]
    exact fin _ (by simp [okE1, h0, h1, c0]; omega)
  by_cases c1 : n = 0
  rotate_left
  · simp (disch := omega) [load_push, hl, h0, h1, K_iOpValid, c0, c1]
    exact fin _ (by simp [okE1, h0, h1, c1])
  subst c1
  by_cases c2 : m = 2
  rotate_left
  · have c2' : ¬ (m : Int) = 2 := by omega
    simp (disch := omega) [load_push, hl, h0, h1, K_iOpValid, c0, c2']
    refine fin _ ?_; simp [okE1, h0, h1, c2]
  by_cases c3 : 1 < d
  rotate_left
  · simp (disch := omega) [load_push, hl, h0, h1, K_iOpValid, c0, c2, c3]
    refine fin _ ?_; simp [okE1, h0, h1, c2, c3]
  subst c2
  obtain ⟨x, y, hxy⟩ := two_of hm
  obtain ⟨b, o, cap, vx, vy, rfl, ob, hbn, l1, l2, ex, ey⟩ := h.two hxy
  have ev : okE1 d op 0 2 (okF (d - 1) a) = (okE (d - 1) x && okE (d - 1) y) := by
    rw [okF_mem, hxy]; simp [okE1, h0, h1, c0, c3]
  rw [ev] at k
  have l1' := loadN_extE l1 x1 hbn
  simp (disch := omega) [load_push, h0, h1, K_iOpValid, c0, c3, l1']
  refine ih x (by rw [hxy]; simp) (ex.ext x1) (by omega) fun H1 x2 => ?_
  have q1 : H1.bk H.n = some ⟨[.I op, .I 0, .sl b o 2 cap], true⟩ := (x2.2 H.n (by simp)).trans push_new
  have l2' := loadN_extE (loadN_extE l2 x1 hbn) x2 (by simp; omega)
  generalize hx : okE1 (d - 1) x.op x.n x.args.list.length (okF (d - 1 - 1) x.args) = bx
  have hx' : okE (d - 1) x = bx := hx
  rw [hx'] at k
  cases bx with
  | false =>
    simp [x2]
    exact k _ (x1.trans x2)
  | true =>
    simp (disch := omega) [x2, load_bk q1, l2']
    refine ih y (by rw [hxy]; simp) (ey.ext (x1.trans x2)) (by omega) fun H2 x3 => ?_
    simp [x3]
    exact k _ ((x1.trans x2).trans x3)
theorem K_sl4Ok (a : Exs) : ∀ {ok : Nat → Prop} {H : AH} {K : AV → AH → Prop} {w : Fk K} {op n d : Int} {v : AV}, EV ok H v a → -100 ≤ d ∧ d ≤ 100 →
    (∀ H', Ext H H' → K (.b (okE1 d op n a.list.length (okF (d - 1) a))) H') → CallF Cd f_sl4Ok [.agg [.I op, .I n, v], .I d] H K w := by
  induction a using Exs.ind with
  | h a ih =>
  intro ok H K w op n d v h hd k
  have hl := h.alen
  have hb := h.big
  have x1 := Ext.push H [.I op, .I n, v]
  have fin : ∀ b, b = okE1 d op n a.list.length (okF (d - 1) a) → K (.b b) (H.push [.I op, .I n, v]) := fun b hb => by rw [hb]; exact k _ x1
  rw [CallF_eq e_sl4Ok rfl]
  generalize hm : a.list.length = m at *
  by_cases hd1 : d < 1
  · simp (disch := omega) [hd1]
    refine fin _ ?_
    unfold okE1
    split
    · simp; omega
    · split
      · simp; omega
      · have : ¬ 1 < d := by omega
        simp [this]
  have hd2 : 0 < d := by omega
  by_cases h0 : op = 0
  · by_cases c1 : 0 ≤ n ∧ n ≤ 99999 <;> by_cases c3 : m = 0 <;> simp (disch := omega) [load_push, hl, h0, c1, c3, hd1, K_sl6In] <;> simp only [h0] at fin <;> refine fin _ ?_ <;> simp [okE1, c1, c3, hd2] <;> omega
  by_cases h1 : op = 13
  · by_cases c1 : 0 ≤ n ∧ n ≤ 3 <;> by_cases c3 : m = 0 <;> simp (disch := omega) [load_push, hl, h1, c1, c3, hd1, K_sl6In] <;> simp only [h1] at fin <;> refine fin _ ?_ <;> simp [okE1, c1, c3, hd2] <;> omega
  by_cases c0 : 1 ≤ op ∧ op ≤ 12
  rotate_left
  · simp (disch := omega) [load_push, hl, h0, h1, K_sOpValid, c0, hd1]
    exact fin _ (by simp [okE1, h0, h1, c0]; omega)
  by_cases c1 : n = 0
  rotate_left
  · simp (disch := omega) [load_push, hl, h0, h1, K_sOpValid, c0, c1, hd1]
    exact fin _ (by simp [okE1, h0, h1, c1])
  subst c1
  by_cases c2 : m = 2
  rotate_left
  · have c2' : ¬ (m : Int) = 2 := by omega
    simp (disch := omega) [load_push, hl, h0, h1, K_sOpValid, c0, c2', hd1]
    refine fin _ ?_; simp [okE1, h0, h1, c2]
  subst c2
  obtain ⟨x, y, hxy⟩ := two_of hm
  obtain ⟨b, o, cap, vx, vy, rfl, ob, hbn, l1, l2, ex, ey⟩ := h.two hxy
  have z : ∀ e : Ex, okE 0 e = false := fun e => by
    unfold okE okE1
    split
    · simp
    · split <;> simp
  have ev : okE1 d op 0 2 (okF (d - 1) a) = (okE (d - 1) x && okE (d - 1) y) := by
    rw [okF_mem, hxy]
    by_cases c3 : 1 < d
    · simp [okE1, h0, h1, c0, c3]
    · have : d = 1 := by omega
      subst this
      simp [okE1, h0, h1, c0, z]
  rw [ev] at k
  have l1' := loadN_extE l1 x1 hbn
  simp (disch := omega) [load_push, h0, h1, K_sOpValid, c0, hd1, l1']
  refine ih x (by rw [hxy]; simp) (ex.ext x1) (by omega) fun H1 x2 => ?_
  have q1 : H1.bk H.n = some ⟨[.I op, .I 0, .sl b o 2 cap], true⟩ := (x2.2 H.n (by simp)).trans push_new
  have l2' := loadN_extE (loadN_extE l2 x1 hbn) x2 (by simp; omega)
  generalize hx : okE1 (d - 1) x.op x.n x.args.list.length (okF (d - 1 - 1) x.args) = bx
  have hx' : okE (d - 1) x = bx := hx
  rw [hx'] at k
  cases bx with
  | false =>
    simp [x2]
    exact k _ (x1.trans x2)
  | true =>
    simp (disch := omega) [x2, load_bk q1, l2']
    refine ih y (by rw [hxy]; simp) (ey.ext (x1.trans x2)) (by omega) fun H2 x3 => ?_
    simp [x3]
    exact k _ ((x1.trans x2).trans x3)
section
variable {H : AH} {K : AV → AH → Prop} {w : Fk K} {e : Ex} {v : AV} {ok : Nat → Prop}
theorem K_iExprValid (h : EV ok H v e.args) (k : ∀ H', Ext H H' → K (.b (okE 5 e)) H') : CallF Cd f_iExprValid [.agg [.I e.op, .I e.n, v]] H K w := by
  rw [CallF_eq e_iExprValid rfl]
  simp [loadN_push]
  refine K_iexprValid e.args (d := 5) (h.ext (Ext.push _ _)) (by omega) fun H1 x1 => ?_
  simp [x1]
  exact k _ ((Ext.push _ _).trans x1)
theorem K_sExprValid (h : EV ok H v e.args) (k : ∀ H', Ext H H' → K (.b (okE 5 e)) H') : CallF Cd f_sExprValid [.agg [.I e.op, .I e.n, v]] H K w := by
  rw [CallF_eq e_sExprValid rfl]
  simp [loadN_push]
  refine K_sl4Ok e.args (d := 5) (h.ext (Ext.push _ _)) (by omega) fun H1 x1 => ?_
  simp [x1]
  exact k _ ((Ext.push _ _).trans x1)
end
theorem isW_iff {n : Int} : isW n = true ↔ -2147483648 ≤ n ∧ n ≤ 2147483647 := by unfold isW; simp
theorem okE1_op {d op n : Int} {k : Nat} {sub : Bool} (h : okE1 d op n k sub = true) (h0 : ¬ op = 0) (h1 : ¬ op = 13) : (1 ≤ op ∧ op ≤ 12) ∧ n = 0 ∧ k = 2 ∧ sub = true := by
  unfold okE1 at h
  rw [if_neg h0, if_neg h1] at h
  simp at h
  exact ⟨⟨h.1.1, h.1.2.1⟩, h.1.2.2.1, h.1.2.2.2.1, h.2⟩
theorem evE_word {vars : List Int} (hv : vars.all isW = true) (a : Exs) : ∀ {d op n : Int}, okE1 d op n a.list.length (okF (d - 1) a) = true → isW (evE1 vars op n (evF vars a)) = true := by
  induction a using Exs.ind with
  | h a ih =>
  intro d op n h
  by_cases h0 : op = 0
  · unfold okE1 at h
    unfold evE1
    rw [if_pos h0] at h ⊢
    simp at h
    rw [isW_iff]; omega
  by_cases h1 : op = 13
  · unfold evE1
    rw [if_neg h0, if_pos h1]
    rw [List.getD_eq_getElem?_getD]
    cases hx : vars[n.toNat]? with
    | none => rfl
    | some x => exact List.all_eq_true.1 hv x (List.mem_of_getElem? hx)
  obtain ⟨c0, c1, c2, c3⟩ := okE1_op h h0 h1
  obtain ⟨x, y, hxy⟩ := two_of c2
  rw [okF_mem, hxy] at c3
  simp at c3
  have wx := ih x (by rw [hxy]; simp) (d := d - 1) (op := x.op) (n := x.n) c3.1
  have wy := ih y (by rw [hxy]; simp) (d := d - 1) (op := y.op) (n := y.n) c3.2
  unfold evE1
  rw [if_neg h0, if_neg h1, evF_map, hxy]
  exact isW_iff.2 (apply_W (isW_iff.1 wx) (isW_iff.1 wy))
theorem K_iexprEval (a : Exs) : ∀ {ok : Nat → Prop} {H : AH} {K : AV → AH → Prop} {w : Fk K} {op n d : Int} {b o : Nat} {v vv : AV} {vars : List Int}, EV ok H v a → b < H.n → H.loadN b o 3 = some [.I op, .I n, v] →
    SeesZ H vv vars → vars.length = 4 → vars.all isW = true → okE1 d op n a.list.length (okF (d - 1) a) = true → (∀ H', Ext H H' → K (.I (evE1 vars op n (evF vars a))) H') → CallF Cd f_iexprEval [.ptr b o, vv] H K w := by
  induction a using Exs.ind with
  | h a ih =>
  intro ok H K w op n d b o v vv vars h hb hl hv h4 hw hok k
  rw [CallF_eq e_iexprEval rfl]
  have l0 : H.load b o = some (.I op) := loadN_at0 hl
  have l1 : H.load b (o + 1) = some (.I n) := loadN_at1 hl
  have l2 : H.load b (o + 2) = some v := loadN_at2 hl
  have fin : ∀ x, x = evE1 vars op n (evF vars a) → K (.I x) H := fun b hb => by rw [hb]; exact k _ (Ext.refl _)
  by_cases h0 : op = 0
  · subst h0
    simp [l0, l1]
    exact fin _ (by simp [evE1])
  by_cases h1 : op = 13
  · subst h1
    unfold okE1 at hok
    simp at hok
    obtain ⟨bv, ov, s1, _, s3⟩ := hv.at (i := n.toNat) (by omega)
    have e1 : vars[n.toNat]? = some vars[n.toNat] := by simp
    simp (disch := omega) [l0, l1, s1, s3, h4]
    refine fin _ ?_
    simp [evE1, e1]
  obtain ⟨c0, rfl, c2, c3⟩ := okE1_op hok h0 h1
  obtain ⟨x, y, hxy⟩ := two_of c2
  rw [okF_mem, hxy] at c3
  simp at c3
  obtain ⟨b', o', cap, vx, vy, rfl, ob, hbn, m1, m2, ex, ey⟩ := h.two hxy
  have wx := isW_iff.1 (evE_word hw x.args (d := d - 1) (op := x.op) (n := x.n) c3.1)
  have wy := isW_iff.1 (evE_word hw y.args (d := d - 1) (op := y.op) (n := y.n) c3.2)
  have e0 : evE1 vars op 0 (evF vars a) = applyM op (evE1 vars x.op x.n (evF vars x.args)) (evE1 vars y.op y.n (evF vars y.args)) := by
    rw [evF_map, hxy]; unfold evE1; rw [if_neg h0, if_neg h1]; rfl
  rw [e0] at k
  simp (disch := omega) [l0, l1, l2, h0, h1]
  refine ih x (by rw [hxy]; simp) (d := d - 1) ex hbn m1 hv h4 hw c3.1 fun H1 x1 => ?_
  have q2 : H1.load b (o + 2) = some (.sl b' o' 2 cap) := by rw [load_ext x1 hb]; exact l2
  simp (disch := omega) [x1, q2]
  refine ih y (by rw [hxy]; simp) (d := d - 1) (ey.ext x1) (Nat.lt_of_lt_of_le hbn x1.1) (loadN_extE m2 x1 hbn) (hv.ext x1) h4 hw c3.2 fun H2 x2 => ?_
  simp [x2, K_iapply wx wy]
  exact k _ (x1.trans x2)
theorem K_sl4Eval (a : Exs) : ∀ {ok : Nat → Prop} {H : AH} {K : AV → AH → Prop} {w : Fk K} {op n d : Int} {v vv : AV} {vars : List Int}, EV ok H v a →
    SeesZ H vv vars → vars.length = 4 → vars.all isW = true → okE1 d op n a.list.length (okF (d - 1) a) = true → (∀ H', Ext H H' → K (.I (evE1 vars op n (evF vars a))) H') → CallF Cd f_sl4Eval [.agg [.I op, .I n, v], vv] H K w := by
  induction a using Exs.ind with
  | h a ih =>
  intro ok H K w op n d v vv vars h hv h4 hw hok k
  rw [CallF_eq e_sl4Eval rfl]
  have x0 := Ext.push H [.I op, .I n, v]
  have fin : ∀ x, x = evE1 vars op n (evF vars a) → K (.I x) (H.push [.I op, .I n, v]) := fun b hb => by rw [hb]; exact k _ x0
  by_cases h0 : op = 0
  · subst h0
    simp [load_push]
    exact fin _ (by simp [evE1])
  by_cases h1 : op = 13
  · subst h1
    unfold okE1 at hok
    simp at hok
    obtain ⟨bv, ov, s1, s2, s3⟩ := (hv.ext x0).at (i := n.toNat) (by omega)
    have e1 : vars[n.toNat]? = some vars[n.toNat] := by simp
    simp (disch := omega) [load_bk push_new, s1, s3, h4]
    refine fin _ ?_
    simp [evE1, e1]
  obtain ⟨c0, rfl, c2, c3⟩ := okE1_op hok h0 h1
  obtain ⟨x, y, hxy⟩ := two_of c2
  rw [okF_mem, hxy] at c3
  simp at c3
  obtain ⟨b', o', cap, vx, vy, rfl, ob, hbn, m1, m2, ex, ey⟩ := h.two hxy
  have wx := isW_iff.1 (evE_word hw x.args (d := d - 1) (op := x.op) (n := x.n) c3.1)
  have wy := isW_iff.1 (evE_word hw y.args (d := d - 1) (op := y.op) (n := y.n) c3.2)
  have e0 : evE1 vars op 0 (evF vars a) = applyM op (evE1 vars x.op x.n (evF vars x.args)) (evE1 vars y.op y.n (evF vars y.args)) := by
    rw [evF_map, hxy]; unfold evE1; rw [if_neg h0, if_neg h1]; rfl
  rw [e0] at k
  have m1' := loadN_extE m1 x0 hbn
  simp (disch := omega) [load_bk push_new, h0, h1, m1']
  refine ih x (by rw [hxy]; simp) (d := d - 1) (ex.ext x0) (hv.ext x0) h4 hw c3.1 fun H1 x1 => ?_
  have q1 : H1.bk H.n = some ⟨[.I op, .I 0, .sl b' o' 2 cap], true⟩ := (x1.2 H.n (by simp)).trans push_new
  have m2' := loadN_extE (loadN_extE m2 x0 hbn) x1 (by simp; omega)
  simp (disch := omega) [x1, load_bk q1, m2']
  refine ih y (by rw [hxy]; simp) (d := d - 1) ((ey.ext x0).ext x1) ((hv.ext x0).ext x1) h4 hw c3.2 fun H2 x2 => ?_
  simp [x2, K_sApply c0 wx wy]
  exact k _ ((x0.trans x1).trans x2)
end Go.Proofs.YtcibjklpaljadaaGreat.AM
namespace Go.Proofs.YtcibjklpaljadaaGreat.AM
set_option linter.unusedSimpArgs false
set_option linter.unusedVariables false
open Go

def GrS (base : Nat) (G : AH) (v : AV) (n sz : Nat) (cs : List AV) (B : Nat) : Prop :=
  n ≤ 100000000 ∧ cs.length = n * sz ∧ ((v = .nils ∧ n = 0) ∨ (base ≤ B ∧ B < G.n ∧ ((v = .sl B 0 n (.ex n) ∧ G.bk B = some ⟨cs, true⟩) ∨
    ∃ c ex, v = .sl B 0 n (.lb c sz) ∧ n ≤ c ∧ ex.length = (c - n) * sz ∧ G.bk B = some ⟨cs ++ ex, true⟩)))
theorem GrS.flat {base G v n sz cs B} (h : GrS base G v n sz cs B) : v.flat = true := by
  obtain ⟨_, _, ⟨rfl, _⟩ | ⟨_, _, ⟨rfl, _⟩ | ⟨c, ex, rfl, _⟩⟩⟩ := h <;> rfl
theorem GrS.alen {base G v n sz cs B} (h : GrS base G v n sz cs B) : alen v = some n := by
  obtain ⟨_, _, ⟨rfl, rfl⟩ | ⟨_, _, ⟨rfl, _⟩ | ⟨c, ex, rfl, _⟩⟩⟩ := h <;> rfl
theorem GrS.nils {base G sz B} : GrS base G .nils 0 sz [] B := ⟨by omega, by simp, .inl ⟨rfl, rfl⟩⟩
theorem GrS.new {base : Nat} {G : AH} {n sz cs} (hb : base ≤ G.n) (hn : n ≤ 100000000) (hc : cs.length = n * sz) : GrS base (G.push cs) (.sl G.n 0 n (.ex n)) n sz cs G.n :=
  ⟨hn, hc, .inr ⟨hb, Nat.lt_succ_self _, .inl ⟨rfl, push_new⟩⟩⟩
theorem seg_app {cs ex : List AV} {n : Nat} (h : cs.length = n) : seg (cs ++ ex) 0 n = some cs := by
  unfold seg; rw [if_pos (by simp; omega)]; simp [← h]
theorem seg_self {cs : List AV} {n : Nat} (h : cs.length = n) : seg cs 0 n = some cs := by simpa using seg_app (ex := []) h
theorem GrS.slc {base G v n sz cs B} (h : GrS base G v n sz cs B) : SlC (fun b => base ≤ b) G v n sz cs := by
  obtain ⟨h1, h2, h3⟩ := h
  refine ⟨by omega, h2, ?_⟩
  rcases h3 with ⟨rfl, h4⟩ | ⟨h4, h5, ⟨rfl, h6⟩ | ⟨c, ex, rfl, h7, h8, h9⟩⟩
  · exact .inl ⟨h4, .inl rfl⟩
  · exact .inr ⟨B, 0, _, rfl, ⟨h4, Nat.le_refl _⟩, h5, by rw [loadN_bk h6]; exact seg_self h2⟩
  · exact .inr ⟨B, 0, _, rfl, ⟨h4, h7, rfl⟩, h5, by rw [loadN_bk h9]; exact seg_app h2⟩
theorem GrS.elems {base G v n sz cs B} (h : GrS base G v n sz cs B) : AM.elems G sz v = some cs := h.slc.elems
theorem GrS.only {base G G' v n sz cs B bs} (h : GrS base G v n sz cs B) (k : Only bs G G') (hb : ∀ b ∈ bs, b < base ∨ b ≠ B) : GrS base G' v n sz cs B := by
  obtain ⟨h1, h2, h3⟩ := h
  refine ⟨h1, h2, ?_⟩
  rcases h3 with h4 | ⟨h4, h5, h6⟩
  · exact .inl h4
  · have e : G'.bk B = G.bk B := k.2 B h5 (fun hm => by
      rcases hb B hm with q | q
      · omega
      · exact q rfl)
    rw [← e] at h6
    exact .inr ⟨h4, Nat.lt_of_lt_of_le h5 k.1, h6⟩
theorem GrS.ext {base G G' v n sz cs B} (h : GrS base G v n sz cs B) (k : Ext G G') : GrS base G' v n sz cs B := h.only (bs := []) ⟨k.1, fun b hb _ => k.2 b hb⟩ (by simp)
def grB : AV → Nat → List Nat
  | .nils, _ => []
  | _, B => [B]
theorem GrS.mem {base G v n sz cs B} (h : GrS base G v n sz cs B) {b : Nat} (hb : b ∈ grB v B) : b = B ∧ base ≤ B ∧ B < G.n := by
  obtain ⟨_, _, ⟨rfl, _⟩ | ⟨h1, h2, ⟨rfl, _⟩ | ⟨c, ex, rfl, _⟩⟩⟩ := h <;> simp [grB] at hb
  · exact ⟨hb, h1, h2⟩
  · exact ⟨hb, h1, h2⟩
theorem GrS.app {base G v n sz cs B} (h : GrS base G v n sz cs B) (hb : base ≤ G.n) {k : Nat} {new : List AV} (hk : new.length = k * sz) (hn : n + k ≤ 100000000) :
    ∃ v' G' B', aapp G sz v k new = some (v', G') ∧ GrS base G' v' (n + k) sz (cs ++ new) B' ∧ ((B' = B ∧ B ∈ grB v B) ∨ B' = G.n) ∧ Only (grB v B) G G' := by
  by_cases h0 : k = 0
  · subst h0
    have : new = [] := List.eq_nil_of_length_eq_zero (by omega)
    subst this
    have ha : aapp G sz v 0 [] = some (v, G) := by
      obtain ⟨_, _, ⟨rfl, _⟩ | ⟨_, _, ⟨rfl, _⟩ | ⟨c, ex, rfl, _⟩⟩⟩ := h <;> simp [aapp]
    have h' := h
    obtain ⟨q1, q2, ⟨rfl, rfl⟩ | ⟨q3, q4, q5⟩⟩ := h'
    · exact ⟨.nils, G, G.n, ha, ⟨by omega, by simpa using q2, .inl ⟨rfl, rfl⟩⟩, .inr rfl, Only.refl⟩
    · exact ⟨v, G, B, ha, by simpa using h, .inl ⟨rfl, by rcases q5 with q5 | ⟨c, ex, q5⟩ <;> (rw [q5.1]; simp [grB])⟩, Only.refl⟩
  obtain ⟨h1, h2, h3⟩ := h
  have e0 : (cs ++ new).length = (n + k) * sz := by simp [h2, hk, Nat.add_mul]
  have fresh : ∀ (G' : AH) v', G' = (G.put B none).push (cs ++ new) ∨ G' = G.push (cs ++ new) → v' = .sl G.n 0 (n + k) (.lb (n + k) sz) → GrS base G' v' (n + k) sz (cs ++ new) G.n ∧ Only [B] G G' ∧ (G' = G.push (cs ++ new) → Ext G G') := by
    rintro G' v' hG rfl
    refine ⟨⟨by omega, e0, .inr ⟨hb, ?_, .inr ⟨n + k, [], rfl, by omega, by simp, ?_⟩⟩⟩, ?_⟩
    · rcases hG with rfl | rfl <;> exact Nat.lt_succ_self _
    · rcases hG with rfl | rfl
      · rw [List.append_nil]; exact push_new (H := G.put B none)
      · rw [List.append_nil]; exact push_new
    · refine ⟨?_, fun h => h ▸ Ext.push _ _⟩
      rcases hG with rfl | rfl
      · exact (Only.refl.put (by simp)).push
      · exact Only.refl.push
  rcases h3 with ⟨rfl, rfl⟩ | ⟨h4, h5, ⟨rfl, h6⟩ | ⟨c, ex, rfl, h7, h8, h9⟩⟩
  · have : cs = [] := List.eq_nil_of_length_eq_zero (by omega)
    subst this
    obtain ⟨f1, f2, f3⟩ := fresh (G.push new) _ (.inr (by simp)) rfl
    refine ⟨_, _, G.n, ?_, f1, .inr rfl, ⟨f2.1, fun b hb _ => (f3 (by simp)).2 b hb⟩⟩
    unfold aapp
    simp only [if_neg h0, Nat.zero_add]
    rw [if_pos (show k ≤ big by unfold big; omega)]
  · obtain ⟨f1, f2, _⟩ := fresh _ _ (.inr rfl) rfl
    refine ⟨_, _, G.n, ?_, f1, .inr rfl, f2⟩
    unfold aapp
    simp only [if_neg h0, Nat.zero_add]
    rw [if_neg (show ¬ big < n + k by unfold big; omega), if_neg (show ¬ n + k ≤ n by omega)]
    have e1 : G.loadN B 0 (n * sz) = some cs := by rw [loadN_bk h6]; exact seg_self h2
    rw [e1]
  · by_cases hc : n + k ≤ c
    · have e2 : splice (cs ++ ex) (n * sz) new = (cs ++ new) ++ ex.drop (k * sz) := by
        unfold splice
        rw [← h2, List.take_left, List.drop_append]
        rw [List.drop_of_length_le (by omega), List.nil_append]
        congr 2; omega
      have e3 := store_bk (o := n * sz) (vs := new) h9 (by
        simp only [List.length_append, h2, h8, hk]
        have := Nat.mul_le_mul_right sz (show k ≤ c - n by omega)
        omega)
      rw [e2] at e3
      refine ⟨.sl B 0 (n + k) (.lb c sz), _, B, ?_, ⟨by omega, e0, .inr ⟨h4, ?_, .inr ⟨c, ex.drop (k * sz), rfl, hc, ?_, put_same⟩⟩⟩, .inl ⟨rfl, by simp [grB]⟩, Only.refl.put (by simp [grB])⟩
      · unfold aapp
        simp only [if_neg h0, Nat.zero_add]
        rw [if_neg (show ¬ big < n + k by unfold big; omega), if_neg (show ¬ (sz ≠ sz) by simp), if_pos hc, e3]; rfl
      · exact h5
      · rw [List.length_drop, h8, ← Nat.sub_mul]; congr 1; omega
    · obtain ⟨f1, f2, _⟩ := fresh _ _ (.inl rfl) rfl
      refine ⟨_, _, G.n, ?_, f1, .inr rfl, f2⟩
      unfold aapp
      simp only [if_neg h0, Nat.zero_add]
      have e1 : G.loadN B 0 (n * sz) = some cs := by rw [loadN_bk h9]; exact seg_app h2
      rw [if_neg (show ¬ big < n + k by unfold big; omega), if_neg (show ¬ (sz ≠ sz) by simp), if_neg hc, h9, e1]; simp

def DE (base : Nat) (H : AH) (v : AV) (a : Exs) : Prop := ∃ B cs, v = .sl B 0 a.list.length (.ex a.list.length) ∧ base ≤ B ∧ B < H.n ∧ H.bk B = some ⟨cs, true⟩ ∧ a.list.length ≤ 1000 ∧ EF (fun b => base ≤ b) H a cs
theorem DE.ev {base H v a} (h : DE base H v a) : EV (fun b => base ≤ b) H v a := by
  obtain ⟨B, cs, rfl, h1, h2, h3, h4, h5⟩ := h
  exact ⟨cs, ⟨by omega, h5.len, .inr ⟨B, 0, _, rfl, ⟨h1, Nat.le_refl _⟩, h2, by rw [loadN_bk h3]; exact seg_self h5.len⟩⟩, h5⟩
theorem DE.mono {base base' H H' v a} (h : DE base H v a) (hn : H.n ≤ H'.n) (hk : ∀ b, base ≤ b → b < H.n → H'.bk b = H.bk b) (hb : base' ≤ base) : DE base' H' v a := by
  obtain ⟨B, cs, rfl, h1, h2, h3, h4, h5⟩ := h
  exact ⟨B, cs, rfl, by omega, by omega, (hk B h1 h2).trans h3, h4, h5.mono hn hk (fun b hb' _ => by omega)⟩
theorem DE.ext {base H H' v a} (h : DE base H v a) (k : Ext H H') : DE base H' v a := h.mono k.1 (fun b _ hb => k.2 b hb) (Nat.le_refl _)
theorem EV.up {base base' H v a} (h : EV (fun b => base ≤ b) H v a) (hb : base' ≤ base) : EV (fun b => base' ≤ b) H v a := h.mono (Nat.le_refl _) (fun _ _ _ => rfl) (fun b h _ => by omega)
section
variable {H : AH} {K : AV → AH → Prop} {w : Fk K} {op n : Int}
theorem K_sl4Leaf (k : ∀ v H', DE H.n H' v .nil → Ext H H' → K (.agg [.I op, .I n, v]) H') : CallF Cd f_sl4Leaf [.I op, .I n] H K w := by
  rw [CallF_eq e_sl4Leaf rfl]
  simp [AH.store, loadN_bk put_same]
  refine k _ _ ⟨H.n + 1, [], rfl, by omega, by simp, by simp, by simp, rfl⟩ (((Ext.push _ _).trans (Ext.push _ _)).put (Nat.le_refl _))
theorem K_sl4Both {base : Nat} {x y : Ex} {vx vy : AV} (hx : EV (fun b => base ≤ b) H vx x.args) (hy : EV (fun b => base ≤ b) H vy y.args) (hb : base ≤ H.n)
    (k : ∀ v H', DE base H' v (Exs.of [x, y]) → Ext H H' → K (.agg [.I op, .I 0, v]) H') : CallF Cd f_sl4Both [.I op, .agg [.I x.op, .I x.n, vx], .agg [.I y.op, .I y.n, vy]] H K w := by
  rw [CallF_eq e_sl4Both rfl]
  simp [AH.store, loadN_bk put_same, loadN_push]
  have x1 : Ext H (((((H.push [.I x.op, .I x.n, vx]).push [.I y.op, .I y.n, vy]).push [.I 0, .I 0, .nils]).push [.I x.op, .I x.n, vx, .I y.op, .I y.n, vy]).put (H.n + 1 + 1) (some ⟨[.I op, .I 0, .sl (H.n + 1 + 1 + 1) 0 2 (.ex 2)], true⟩)) :=
    ((((Ext.push _ _).trans (Ext.push _ _)).trans (Ext.push _ _)).trans (Ext.push _ _)).put (by omega)
  refine k _ _ ⟨H.n + 1 + 1 + 1, [.I x.op, .I x.n, vx, .I y.op, .I y.n, vy], rfl, by omega, by simp, ?_, by simp, ?_⟩ x1
  · rw [put_bk, if_neg (by omega)]; exact push_new
  · obtain ⟨cx, h1, h2⟩ := hx.ext x1
    obtain ⟨cy, h3, h4⟩ := hy.ext x1
    exact ⟨vx, cx, _, rfl, h1, h2, vy, cy, [], rfl, h3, h4, rfl⟩
end
theorem K_sl4Copy (a : Exs) : ∀ {ok : Nat → Prop} {H : AH} {K : AV → AH → Prop} {w : Fk K} {op n : Int} {v : AV}, EV ok H v a → cpE1 n a.list.length (cpF a) = true →
    (∀ v' H', DE H.n H' v' a → Ext H H' → K (.agg [.I op, .I n, v']) H') → CallF Cd f_sl4Copy [.agg [.I op, .I n, v]] H K w := by
  induction a using Exs.ind with
  | h a ih =>
  intro ok H K w op n v h hc k
  have hl := h.alen
  have hbig := h.big
  have x1 : Ext H ((H.push [.I op, .I n, v]).push [.I 0, .I 0, .nils]) := (Ext.push _ _).trans (Ext.push _ _)
  rw [CallF_eq e_sl4Copy rfl]
  by_cases h0 : a.list.length = 0
  · have ha : a = .nil := by
      have := List.eq_nil_of_length_eq_zero h0
      rw [← Exs.of_list a, this]; rfl
    subst ha
    simp only [Exs.list, List.length_nil] at hl
    simp (disch := omega) [load_push, hl]
    refine K_sl4Leaf fun v' H1 d1 x2 => ?_
    have q2 : H1.bk (H.n + 1) = some ⟨[.I 0, .I 0, .nils], true⟩ := (x2.2 (H.n + 1) (by simp)).trans push_new
    have st := store_bk (o := 0) (vs := [.I op, .I n, v']) q2 (by simp)
    simp [x2, st, loadN_bk put_same]
    refine k _ _ (d1.mono (Nat.le_refl _) (fun b hb _ => by rw [put_bk, if_neg (by simp at hb; omega)]) (by simp; omega)) ((x1.trans x2).put (by omega))
  · have hm : ¬ (a.list.length : Int) = 0 := by omega
    unfold cpE1 at hc
    simp [h0] at hc
    obtain ⟨⟨c1, rfl⟩, c2⟩ := hc
    obtain ⟨x, y, hxy⟩ := two_of c1
    rw [cpF_mem, hxy] at c2
    simp at c2
    obtain ⟨b, o, cap, vx, vy, rfl, ob, hbn, l1, l2, ex, ey⟩ := h.two hxy
    have l1' := loadN_extE l1 x1 hbn
    simp (disch := omega) [load_push, l1']
    refine ih x (by rw [hxy]; simp) (ex.ext x1) c2.1 fun v1 H1 d1 x2 => ?_
    have q1 : H1.bk H.n = some ⟨[.I op, .I 0, .sl b o 2 cap], true⟩ := (x2.2 H.n (by simp; omega)).trans (push_old (by simp) push_new)
    have l2' := loadN_extE (loadN_extE l2 x1 hbn) x2 (by simp; omega)
    simp (disch := omega) [x2, load_bk q1, l2']
    refine ih y (by rw [hxy]; simp) ((ey.ext x1).ext x2) c2.2 fun v2 H2 d2 x3 => ?_
    simp [x3]
    have n1 := x2.1
    have n2 := x3.1
    simp only [push_n] at n1
    refine K_sl4Both (base := H.n + 2) (x := x) (y := y) (((d1.ext x3).ev).up (by simp)) (d2.ev.up (by omega)) (by omega) fun v3 H3 d3 x4 => ?_
    have n3 := x4.1
    have q2 : H3.bk (H.n + 1) = some ⟨[.I 0, .I 0, .nils], true⟩ := (x4.2 (H.n + 1) (by omega)).trans ((x3.2 (H.n + 1) (by omega)).trans ((x2.2 (H.n + 1) (by simp)).trans push_new))
    have st := store_bk (o := 0) (vs := [.I op, .I 0, v3]) q2 (by simp)
    have ea : Exs.of [x, y] = a := by rw [← hxy, Exs.of_list]
    rw [ea] at d3
    simp [x4, st, loadN_bk put_same]
    refine k _ _ (d3.mono (Nat.le_refl _) (fun b hb _ => by rw [put_bk, if_neg (by omega)]) (by omega)) ((((x1.trans x2).trans x3).trans x4).put (by omega))
end Go.Proofs.YtcibjklpaljadaaGreat.AM
namespace Go.Proofs.YtcibjklpaljadaaGreat.AM
set_option linter.unusedSimpArgs false
set_option linter.unusedVariables false
open Go

theorem take_snoc {α : Type} {l : List α} {i : Nat} {x : α} (h : l[i]? = some x) : l.take (i + 1) = l.take i ++ [x] := by
  obtain ⟨hi, hx⟩ := List.getElem?_eq_some_iff.1 h
  rw [List.take_succ_eq_append_getElem hi, hx]
def smE : Exs → Bool
  | .nil => true
  | .cons _ _ a r => decide (a.list.length ≤ 1000) && smE a && smE r
theorem smE_mem : ∀ {f : Exs}, smE f = true → ∀ e ∈ f.list, e.args.list.length ≤ 1000 ∧ smE e.args = true
  | .nil, _, e, he => by simp at he
  | .cons op n a r, h, e, he => by
    simp only [smE, Bool.and_eq_true, decide_eq_true_eq] at h
    rcases List.mem_cons.1 he with rfl | he
    · exact h.1
    · exact smE_mem h.2 e he
theorem smE_of_cp : ∀ {f : Exs}, cpF f = true → smE f = true
  | .nil, _ => rfl
  | .cons op n a r, h => by
    simp only [cpF, Bool.and_eq_true] at h
    simp only [smE, Bool.and_eq_true, decide_eq_true_eq]
    have h1 := h.1
    unfold cpE1 at h1
    simp at h1
    rcases h1 with h1 | h1
    · have : a = .nil := by
        rw [← Exs.of_list a, h1]; rfl
      subst this
      exact ⟨⟨by simp, rfl⟩, smE_of_cp h.2⟩
    · exact ⟨⟨by omega, smE_of_cp h1.2⟩, smE_of_cp h.2⟩
end Go.Proofs.YtcibjklpaljadaaGreat.AM
namespace Go.Proofs.YtcibjklpaljadaaGreat.AM
set_option linter.unusedSimpArgs false
set_option linter.unusedVariables false
open Go

def stV (boxes k v b : Int) (eok epl : Bool) (ny nz : Nat) : Bool :=
  if k = 1 then decide (0 ≤ v ∧ v < 4 ∧ b = 0 ∧ ny = 0 ∧ nz = 0) && eok
  else if k = 2 then decide (v = 0 ∧ b = 0) && eok
  else if k = 3 then decide (v = 0 ∧ b = 0 ∧ nz = 0) && eok
  else if k = 4 then decide (v = 0 ∧ 0 ≤ b ∧ b < boxes ∧ ny = 0 ∧ nz = 0) && eok
  else if k = 5 then decide (0 ≤ v ∧ v < 4 ∧ 0 ≤ b ∧ b < boxes ∧ ny = 0 ∧ nz = 0) && epl
  else if k = 6 then decide (v = 0 ∧ b = 0 ∧ ny = 0 ∧ nz = 0) && epl
  else if k = 7 then decide (v = 0 ∧ b = 0 ∧ ny = 0 ∧ nz = 0) && eok
  else false
def plE (e : Ex) : Bool := decide (e.op = 0 ∧ e.n = 0 ∧ e.args.list.length = 0)
def okS1 (boxes nest k v b : Int) (e : Ex) (ny nz : Nat) (sy sz : Bool) : Bool :=
  stV boxes k v b (okE 5 e) (plE e) ny nz && (decide (k ≠ 2 ∧ k ≠ 3) || (decide (1 ≤ nest) && sy && sz))
def okS (boxes : Int) : Int → Sts → Bool
  | _, .nil => true
  | nest, .cons k v b e y z r => okS1 boxes nest k v b e y.list.length z.list.length (okS boxes (nest - 1) y) (okS boxes (nest - 1) z) && okS boxes nest r
def okT (boxes nest : Int) (s : St1) : Bool := okS1 boxes nest s.k s.v s.b s.e s.body.list.length s.els.list.length (okS boxes (nest - 1) s.body) (okS boxes (nest - 1) s.els)
theorem okS_mem {boxes nest : Int} : ∀ {f : Sts}, okS boxes nest f = f.list.all (okT boxes nest)
  | .nil => rfl
  | .cons k v b e y z r => by simp only [okS, Sts.list, List.all_cons, okS_mem (f := r)]; rfl
def ctS : Sts → Nat
  | .nil => 0
  | .cons k v b e y z r => 1 + ctS y + ctS z + ctS r
def ctT (s : St1) : Nat := 1 + ctS s.body + ctS s.els
theorem ctS_sum : ∀ {f : Sts}, ctS f = (f.list.map ctT).sum
  | .nil => rfl
  | .cons k v b e y z r => by simp only [ctS, Sts.list, List.map_cons, List.sum_cons, ctS_sum (f := r)]; rfl
theorem ctS_of {l : List St1} : ctS (Sts.of l) = (l.map ctT).sum := by rw [ctS_sum, Sts.list_of]
theorem len_ctS : ∀ {f : Sts}, f.list.length ≤ ctS f
  | .nil => by simp
  | .cons k v b e y z r => by have := len_ctS (f := r); simp [ctS]; omega
theorem sum_mem {l : List St1} {s : St1} (h : s ∈ l) : ctT s ≤ (l.map ctT).sum := by
  induction l with
  | nil => simp at h
  | cons a l ih =>
    rcases List.mem_cons.1 h with rfl | h
    · simp
    · have := ih h; simp; omega
theorem ctS_mem {f : Sts} {s : St1} (h : s ∈ f.list) : 1 + ctS s.body + ctS s.els ≤ ctS f := by
  have := sum_mem h; rw [← ctS_sum] at this; exact this
theorem sum_drop {l : List St1} {i : Nat} {s : St1} (h : l[i]? = some s) : ((l.drop i).map ctT).sum = ctT s + ((l.drop (i + 1)).map ctT).sum := by
  obtain ⟨hi, rfl⟩ := List.getElem?_eq_some_iff.1 h
  rw [List.drop_eq_getElem_cons hi, List.map_cons, List.sum_cons]
theorem sum_take {l : List St1} {i : Nat} {s : St1} (h : l[i]? = some s) : ((l.take (i + 1)).map ctT).sum = ((l.take i).map ctT).sum + ctT s := by
  rw [take_snoc h]; simp
theorem all_drop {l : List St1} {p : St1 → Bool} {i : Nat} {s : St1} (h : l[i]? = some s) : (l.drop i).all p = (p s && (l.drop (i + 1)).all p) := by
  obtain ⟨hi, rfl⟩ := List.getElem?_eq_some_iff.1 h
  rw [List.drop_eq_getElem_cons hi, List.all_cons]
section
variable {H : AH} {K : AV → AH → Prop} {w : Fk K} {k v b op n : Int} {va vy vz : AV} {u : Bool}
theorem K_sl11Plain {m : Nat} (ha : alen va = some m) : CallF Cd f_sl11Plain [.agg [.I op, .I n, va]] H K w = K (.b (decide (op = 0 ∧ n = 0 ∧ m = 0))) (H.push [.I op, .I n, va]) := by
  rw [CallF_eq e_sl11Plain rfl]
  by_cases h1 : op = 0 <;> by_cases h2 : n = 0 <;> by_cases h3 : m = 0 <;> simp (disch := omega) [load_push, ha, h1, h2, h3]
theorem K_sl11Var : CallF Cd f_sl11Var [.agg [.I k, .I v, .I b, .I op, .I n, va, vy, vz], .b u] H K w = K (.b (decide (if u = true then 0 ≤ v ∧ v ≤ 3 else v = 0))) (H.push [.I k, .I v, .I b, .I op, .I n, va, vy, vz]) := by
  rw [CallF_eq e_sl11Var rfl]
  cases u <;> simp [load_push, K_sl6In]
theorem K_sl11Box : CallF Cd f_sl11Box [.agg [.I k, .I v, .I b, .I op, .I n, va, vy, vz], .b u] H K w = K (.b (decide (if u = true then 0 ≤ b ∧ b ≤ 2 else b = 0))) (H.push [.I k, .I v, .I b, .I op, .I n, va, vy, vz]) := by
  rw [CallF_eq e_sl11Box rfl]
  cases u <;> simp [load_push, K_sl6In]
end
theorem K_sl11Simple {ok : Nat → Prop} {H : AH} {K : AV → AH → Prop} {w : Fk K} {c : List AV} {s : St1} (h : S1 ok H c s) (h2 : s.k ≠ 2) (h3 : s.k ≠ 3)
    (k : ∀ H', Ext H H' → K (.b (stV 3 s.k s.v s.b (okE 5 s.e) (plE s.e) s.body.list.length s.els.list.length)) H') : CallF Cd f_sl11Simple [.agg c] H K w := by
  obtain ⟨va, vy, vz, rfl, ea, ey, ez⟩ := h
  have la := ea.alen
  have ly := ey.alen
  have lz := ez.alen
  have by' := ey.big
  have bz := ez.big
  have ba := ea.big
  generalize hny : s.body.list.length = ny at *
  generalize hnz : s.els.list.length = nz at *
  generalize hna : s.e.args.list.length = na at *
  obtain ⟨sk, sv, sb, e, y, z⟩ := s
  simp only at *
  have x1 := Ext.push H [.I sk, .I sv, .I sb, .I e.op, .I e.n, va, vy, vz]
  have x2 := x1.trans (Ext.push (H.push [.I sk, .I sv, .I sb, .I e.op, .I e.n, va, vy, vz]) [.I sk, .I sv, .I sb, .I e.op, .I e.n, va, vy, vz])
  have x3 := x2.trans (Ext.push ((H.push [.I sk, .I sv, .I sb, .I e.op, .I e.n, va, vy, vz]).push [.I sk, .I sv, .I sb, .I e.op, .I e.n, va, vy, vz]) [.I sk, .I sv, .I sb, .I e.op, .I e.n, va, vy, vz])
  rw [CallF_eq e_sl11Simple rfl]
  by_cases c1 : ny = 0
  rotate_left
  · have c1' : 0 < ny := by omega
    simp (disch := omega) [load_push, ly, lz, c1']
    have : stV 3 sk sv sb (okE 5 e) (plE e) ny nz = false := by unfold stV; simp [h2, h3, c1]
    rw [this] at k
    exact k _ x1
  subst c1
  by_cases c2 : nz = 0
  rotate_left
  · have c2' : 0 < nz := by omega
    simp (disch := omega) [load_push, ly, lz, c2']
    have : stV 3 sk sv sb (okE 5 e) (plE e) 0 nz = false := by unfold stV; simp [h2, h3, c2]
    rw [this] at k
    exact k _ x1
  subst c2
  by_cases k1 : sk = 1
  · subst k1
    by_cases d1 : 0 ≤ sv ∧ sv ≤ 3
    rotate_left
    · simp (disch := omega) [load_push, loadN_push, ly, lz, K_sl11Var, d1]
      have : stV 3 1 sv sb (okE 5 e) (plE e) 0 0 = false := by unfold stV; simp; try omega
      rw [this] at k
      exact k _ x2
    by_cases d2 : sb = 0
    rotate_left
    · simp (disch := omega) [load_push, loadN_push, ly, lz, K_sl11Var, K_sl11Box, d1, d2]
      have : stV 3 1 sv sb (okE 5 e) (plE e) 0 0 = false := by unfold stV; simp; try omega
      rw [this] at k
      exact k _ x3
    have this : stV 3 1 sv sb (okE 5 e) (plE e) 0 0 = okE 5 e := by
      unfold stV; simp; try omega
    rw [this] at k
    subst d2
    simp (disch := omega) [load_push, loadN_push, ly, lz, K_sl11Var, K_sl11Box, d1]
    refine K_sExprValid (e := e) (ea.ext x3) fun H1 x4 => ?_
    simp [x4]
    exact k _ (x3.trans x4)
  by_cases k4 : sk = 4
  · subst k4
    by_cases d1 : sv = 0
    rotate_left
    · simp (disch := omega) [load_push, loadN_push, ly, lz, K_sl11Var, d1]
      have : stV 3 4 sv sb (okE 5 e) (plE e) 0 0 = false := by unfold stV; simp; try omega
      rw [this] at k
      exact k _ x2
    subst d1
    by_cases d2 : 0 ≤ sb ∧ sb ≤ 2
    rotate_left
    · simp (disch := omega) [load_push, loadN_push, ly, lz, K_sl11Var, K_sl11Box, d2]
      have : stV 3 4 0 sb (okE 5 e) (plE e) 0 0 = false := by unfold stV; simp; try omega
      rw [this] at k
      exact k _ x3
    have this : stV 3 4 0 sb (okE 5 e) (plE e) 0 0 = okE 5 e := by
      unfold stV; simp; try omega
    rw [this] at k
    simp (disch := omega) [load_push, loadN_push, ly, lz, K_sl11Var, K_sl11Box, d2]
    refine K_sExprValid (e := e) (ea.ext x3) fun H1 x4 => ?_
    simp [x4]
    exact k _ (x3.trans x4)
  by_cases k5 : sk = 5
  · subst k5
    by_cases d1 : 0 ≤ sv ∧ sv ≤ 3
    rotate_left
    · simp (disch := omega) [load_push, loadN_push, ly, lz, K_sl11Var, d1]
      have : stV 3 5 sv sb (okE 5 e) (plE e) 0 0 = false := by unfold stV; simp; try omega
      rw [this] at k
      exact k _ x2
    by_cases d2 : 0 ≤ sb ∧ sb ≤ 2
    rotate_left
    · simp (disch := omega) [load_push, loadN_push, ly, lz, K_sl11Var, K_sl11Box, d1, d2]
      have : stV 3 5 sv sb (okE 5 e) (plE e) 0 0 = false := by unfold stV; simp; try omega
      rw [this] at k
      exact k _ x3
    have this : stV 3 5 sv sb (okE 5 e) (plE e) 0 0 = plE e := by
      unfold stV; simp; try omega
    rw [this] at k
    simp (disch := omega) [load_push, loadN_push, ly, lz, K_sl11Var, K_sl11Box, K_sl11Plain la, d1, d2]
    unfold plE at k
    rw [hna] at k
    simpa using k _ (x3.trans (Ext.push _ _))
  by_cases k6 : sk = 6
  · subst k6
    by_cases d1 : sv = 0
    rotate_left
    · simp (disch := omega) [load_push, loadN_push, ly, lz, K_sl11Var, d1]
      have : stV 3 6 sv sb (okE 5 e) (plE e) 0 0 = false := by unfold stV; simp; try omega
      rw [this] at k
      exact k _ x2
    subst d1
    by_cases d2 : sb = 0
    rotate_left
    · simp (disch := omega) [load_push, loadN_push, ly, lz, K_sl11Var, K_sl11Box, d2]
      have : stV 3 6 0 sb (okE 5 e) (plE e) 0 0 = false := by unfold stV; simp; try omega
      rw [this] at k
      exact k _ x3
    have this : stV 3 6 0 sb (okE 5 e) (plE e) 0 0 = plE e := by
      unfold stV; simp; try omega
    rw [this] at k
    subst d2
    simp (disch := omega) [load_push, loadN_push, ly, lz, K_sl11Var, K_sl11Box, K_sl11Plain la]
    unfold plE at k
    rw [hna] at k
    simpa using k _ (x3.trans (Ext.push _ _))
  by_cases k7 : sk = 7
  · subst k7
    by_cases d1 : sv = 0
    rotate_left
    · simp (disch := omega) [load_push, loadN_push, ly, lz, K_sl11Var, d1]
      have : stV 3 7 sv sb (okE 5 e) (plE e) 0 0 = false := by unfold stV; simp; try omega
      rw [this] at k
      exact k _ x2
    subst d1
    by_cases d2 : sb = 0
    rotate_left
    · simp (disch := omega) [load_push, loadN_push, ly, lz, K_sl11Var, K_sl11Box, d2]
      have : stV 3 7 0 sb (okE 5 e) (plE e) 0 0 = false := by unfold stV; simp; try omega
      rw [this] at k
      exact k _ x3
    have this : stV 3 7 0 sb (okE 5 e) (plE e) 0 0 = okE 5 e := by
      unfold stV; simp; try omega
    rw [this] at k
    subst d2
    simp (disch := omega) [load_push, loadN_push, ly, lz, K_sl11Var, K_sl11Box]
    refine K_sExprValid (e := e) (ea.ext x3) fun H1 x4 => ?_
    simp [x4]
    exact k _ (x3.trans x4)
  simp (disch := omega) [load_push, loadN_push, ly, lz, k1, k4, k5, k6, k7]
  have : stV 3 sk sv sb (okE 5 e) (plE e) 0 0 = false := by unfold stV; simp [h2, h3, k1, k4, k5, k6, k7]
  rw [this] at k
  exact k _ x1
theorem K_sl11Ok {ok : Nat → Prop} {H : AH} {K : AV → AH → Prop} {w : Fk K} {c : List AV} {s : St1} {nest : Int} (h : S1 ok H c s) (hn : -100 ≤ nest ∧ nest ≤ 100)
    (by_ : 1 ≤ nest → ∀ {H' : AH} {K : AV → AH → Prop} {w : Fk K} {v : AV}, SV ok H' v s.body → (∀ H'', Ext H' H'' → K (.b (okS 3 (nest - 1) s.body)) H'') → CallF Cd f_sl11Blocks [v, .I (nest - 1)] H' K w)
    (bz_ : 1 ≤ nest → ∀ {H' : AH} {K : AV → AH → Prop} {w : Fk K} {v : AV}, SV ok H' v s.els → (∀ H'', Ext H' H'' → K (.b (okS 3 (nest - 1) s.els)) H'') → CallF Cd f_sl11Blocks [v, .I (nest - 1)] H' K w)
    (k : ∀ H', Ext H H' → K (.b (okT 3 nest s)) H') : CallF Cd f_sl11Ok [.agg c, .I nest] H K w := by
  obtain ⟨va, vy, vz, rfl, ea, ey, ez⟩ := h
  have la := ea.alen
  have ly := ey.alen
  have lz := ez.alen
  have by' := ey.big
  have bz := ez.big
  have ba := ea.big
  have hs : S1 ok H [.I s.k, .I s.v, .I s.b, .I s.e.op, .I s.e.n, va, vy, vz] s := ⟨va, vy, vz, rfl, ea, ey, ez⟩
  have x1 := Ext.push H [.I s.k, .I s.v, .I s.b, .I s.e.op, .I s.e.n, va, vy, vz]
  have x2 := x1.trans (Ext.push _ [.I s.k, .I s.v, .I s.b, .I s.e.op, .I s.e.n, va, vy, vz])
  have x3 := x2.trans (Ext.push _ [.I s.k, .I s.v, .I s.b, .I s.e.op, .I s.e.n, va, vy, vz])
  rw [CallF_eq e_sl11Ok rfl]
  by_cases h23 : s.k ≠ 2 ∧ s.k ≠ 3
  · simp (disch := omega) [load_push, loadN_push, h23.1, h23.2]
    refine K_sl11Simple (hs.ext x1) h23.1 h23.2 fun H1 y1 => ?_
    simp [y1]
    have := k _ (x1.trans y1)
    unfold okT okS1 at this
    simpa [h23.1, h23.2] using this
  unfold okT okS1 at k
  generalize hny : s.body.list.length = ny at *
  generalize hnz : s.els.list.length = nz at *
  generalize hqy : okS 3 (nest - 1) s.body = qy at *
  generalize hqz : okS 3 (nest - 1) s.els = qz at *
  obtain ⟨sk, sv, sb, e, y, z⟩ := s
  simp only at *
  by_cases k2 : sk = 2
  · subst k2
    by_cases c1 : nest < 1
    · simp (disch := omega) [load_push, loadN_push, c1]
      have : ¬ 1 ≤ nest := by omega
      simp [this] at k
      exact k _ x1
    have c1' : 1 ≤ nest := by omega
    by_cases d1 : sv = 0
    rotate_left
    · simp (disch := omega) [load_push, loadN_push, c1, K_sl11Var, d1]
      have : stV 3 2 sv sb (okE 5 e) (plE e) ny nz = false := by unfold stV; simp [d1]
      rw [this] at k
      exact k _ x2
    subst d1
    by_cases d2 : sb = 0
    rotate_left
    · simp (disch := omega) [load_push, loadN_push, c1, K_sl11Var, K_sl11Box, d2]
      have : stV 3 2 0 sb (okE 5 e) (plE e) ny nz = false := by unfold stV; simp [d2]
      rw [this] at k
      exact k _ x3
    subst d2
    have : stV 3 2 0 0 (okE 5 e) (plE e) ny nz = okE 5 e := by unfold stV; simp
    rw [this] at k
    simp (disch := omega) [load_push, loadN_push, c1, K_sl11Var, K_sl11Box]
    refine K_sExprValid (e := e) (ea.ext x3) fun H1 y1 => ?_
    have q1 : H1.bk H.n = some ⟨[.I 2, .I 0, .I 0, .I e.op, .I e.n, va, vy, vz], true⟩ := (y1.2 H.n (by simp; omega)).trans (push_old (by simp; omega) (push_old (by simp) push_new))
    simp [c1'] at k
    cases hoe : okE 5 e with
    | false =>
      simp [hoe] at k
      simp [y1]
      exact k _ (x3.trans y1)
    | true =>
      simp [hoe] at k
      simp (disch := omega) [y1, load_bk q1]
      refine by_ c1' (ey.ext (x3.trans y1)) fun H2 y2 => ?_
      have q2 : H2.bk H.n = some ⟨[.I 2, .I 0, .I 0, .I e.op, .I e.n, va, vy, vz], true⟩ := (y2.2 H.n (by have := y1.1; simp at this; omega)).trans q1
      cases qy with
      | false =>
        simp at k
        simp [y2]
        exact k _ ((x3.trans y1).trans y2)
      | true =>
        simp at k
        simp (disch := omega) [y2, load_bk q2]
        refine bz_ c1' (ez.ext ((x3.trans y1).trans y2)) fun H3 y3 => ?_
        simp [y3]
        exact k _ (((x3.trans y1).trans y2).trans y3)
  have k3 : sk = 3 := by omega
  subst k3
  by_cases c1 : nest < 1
  · simp (disch := omega) [load_push, loadN_push, c1]
    have : ¬ 1 ≤ nest := by omega
    simp [this] at k
    exact k _ x1
  have c1' : 1 ≤ nest := by omega
  by_cases c2 : nz = 0
  rotate_left
  · have c2' : 0 < nz := by omega
    simp (disch := omega) [load_push, loadN_push, c1, lz, c2']
    have : stV 3 3 sv sb (okE 5 e) (plE e) ny nz = false := by unfold stV; simp [c2]
    rw [this] at k
    exact k _ x1
  subst c2
  by_cases d1 : sv = 0
  rotate_left
  · simp (disch := omega) [load_push, loadN_push, c1, lz, K_sl11Var, d1]
    have : stV 3 3 sv sb (okE 5 e) (plE e) ny 0 = false := by unfold stV; simp [d1]
    rw [this] at k
    exact k _ x2
  subst d1
  by_cases d2 : sb = 0
  rotate_left
  · simp (disch := omega) [load_push, loadN_push, c1, lz, K_sl11Var, K_sl11Box, d2]
    have : stV 3 3 0 sb (okE 5 e) (plE e) ny 0 = false := by unfold stV; simp [d2]
    rw [this] at k
    exact k _ x3
  subst d2
  have : stV 3 3 0 0 (okE 5 e) (plE e) ny 0 = okE 5 e := by unfold stV; simp
  rw [this] at k
  simp (disch := omega) [load_push, loadN_push, c1, lz, K_sl11Var, K_sl11Box]
  refine K_sExprValid (e := e) (ea.ext x3) fun H1 y1 => ?_
  have q1 : H1.bk H.n = some ⟨[.I 3, .I 0, .I 0, .I e.op, .I e.n, va, vy, vz], true⟩ := (y1.2 H.n (by simp; omega)).trans (push_old (by simp; omega) (push_old (by simp) push_new))
  simp [c1'] at k
  cases hoe : okE 5 e with
  | false =>
    simp [hoe] at k
    simp [y1]
    exact k _ (x3.trans y1)
  | true =>
    simp [hoe] at k
    simp (disch := omega) [y1, load_bk q1]
    refine by_ c1' (ey.ext (x3.trans y1)) fun H2 y2 => ?_
    have q2 : H2.bk H.n = some ⟨[.I 3, .I 0, .I 0, .I e.op, .I e.n, va, vy, vz], true⟩ := (y2.2 H.n (by have := y1.1; simp at this; omega)).trans q1
    cases qy with
    | false =>
      simp at k
      simp [y2]
      exact k _ ((x3.trans y1).trans y2)
    | true =>
      simp at k
      simp (disch := omega) [y2, load_bk q2]
      refine bz_ c1' (ez.ext ((x3.trans y1).trans y2)) fun H3 y3 => ?_
      simp [y3]
      exact k _ (((x3.trans y1).trans y2).trans y3)
theorem K_sl11Blocks_l {f : Sts} {nest : Int} (hn : 0 ≤ nest ∧ nest ≤ 50)
    (ih : ∀ s ∈ f.list, (1 ≤ nest → ∀ {ok : Nat → Prop} {H' : AH} {K : AV → AH → Prop} {w : Fk K} {v : AV}, SV ok H' v s.body → (∀ H'', Ext H' H'' → K (.b (okS 3 (nest - 1) s.body)) H'') → CallF Cd f_sl11Blocks [v, .I (nest - 1)] H' K w) ∧
      (1 ≤ nest → ∀ {ok : Nat → Prop} {H' : AH} {K : AV → AH → Prop} {w : Fk K} {v : AV}, SV ok H' v s.els → (∀ H'', Ext H' H'' → K (.b (okS 3 (nest - 1) s.els)) H'') → CallF Cd f_sl11Blocks [v, .I (nest - 1)] H' K w))
    {ok : Nat → Prop} {K : AV → AH → Prop} {v : AV} {Q : Out → Env → AH → Prop} (h1 : ∀ e H, Q (.brk 0) e H = K (.b true) H) (h2 : ∀ e H, Q .ret e H = bindO (get e 4) fun v => K v H)
    (m i : Nat) (hm : i + m = f.list.length) {H : AH} (h : SV ok H v f) (k : ∀ H', Ext H H' → K (.b ((f.list.drop i).all (okT 3 nest))) H') :
    W Cd (.loop c_sl11Blocks_l0) [(0, v), (1, .I nest), (5, .I i)] H Q := by
  induction m generalizing i H with
  | zero =>
    rw [W_loop_as c_sl11Blocks_l0.eq_1]
    have : ¬ (i : Int) < f.list.length := by omega
    have := h.big
    simp [*, h.alen]
    have := k H (Ext.refl _)
    rw [List.drop_eq_nil_of_le (by omega)] at this
    exact this
  | succ m ihm =>
    rw [W_loop_as c_sl11Blocks_l0.eq_1]
    have hi : i < f.list.length := by omega
    obtain ⟨s, hs⟩ : ∃ s, f.list[i]? = some s := ⟨_, List.getElem?_eq_getElem hi⟩
    have hmem := List.mem_of_getElem? hs
    have hbig := h.big
    obtain ⟨b, o, cap, c, rfl, ob, hbn, l1, s1⟩ := h.at hs
    rw [all_drop hs] at k
    generalize hL : f.list.length = L at *
    have hlt : (i : Int) < L := by omega
    simp (disch := omega) [hlt, l1]
    refine K_sl11Ok s1 (by omega) (fun hn1 => (ih s hmem).1 hn1) (fun hn1 => (ih s hmem).2 hn1) fun H1 x1 => ?_
    cases hok : okT 3 nest s with
    | false =>
      simp [x1, h2]
      rw [hok] at k
      exact k _ x1
    | true =>
      rw [hok, Bool.true_and] at k
      simp (disch := omega) [x1]
      have := ihm (i + 1) (by omega) (h.ext x1) (fun H' x => k H' (x1.trans x))
      simpa using this
theorem K_sl11Blocks (f : Sts) : ∀ {nest : Int} {ok : Nat → Prop} {H : AH} {K : AV → AH → Prop} {w : Fk K} {v : AV}, 0 ≤ nest ∧ nest ≤ 50 → SV ok H v f →
    (∀ H', Ext H H' → K (.b (okS 3 nest f)) H') → CallF Cd f_sl11Blocks [v, .I nest] H K w := by
  induction f using Sts.ind with
  | h f ih =>
  intro nest ok H K w v hn h k
  rw [CallF_eq e_sl11Blocks rfl]
  simp
  rw [okS_mem] at k
  have := K_sl11Blocks_l (K := K) (f := f) (nest := nest) hn (fun s hs => ⟨fun h1 _ _ _ _ _ => (ih s hs).1 (by omega), fun h1 _ _ _ _ _ => (ih s hs).2 (by omega)⟩) (Q := ?_) ?_ ?_ f.list.length 0 (by omega) h k
  · simpa using this
  · intros; simp
  · intros; simp
theorem K_sl11Count_l {f : Sts} (ih : ∀ s ∈ f.list, (∀ {ok : Nat → Prop} {H' : AH} {K : AV → AH → Prop} {w : Fk K} {v : AV}, SV ok H' v s.body → ctS s.body ≤ 100000000 → K (.I (ctS s.body)) H' → CallF Cd f_sl11Count [v] H' K w) ∧
      (∀ {ok : Nat → Prop} {H' : AH} {K : AV → AH → Prop} {w : Fk K} {v : AV}, SV ok H' v s.els → ctS s.els ≤ 100000000 → K (.I (ctS s.els)) H' → CallF Cd f_sl11Count [v] H' K w))
    {ok : Nat → Prop} {v : AV} {Q : Out → Env → AH → Prop} {H : AH} (h : SV ok H v f) (hc : ctS f ≤ 100000000) (hQ : Q (.brk 0) [(0, v), (3, .I (ctS f)), (4, .I f.list.length), (8, .b false)] H)
    (m i : Nat) (hm : i + m = f.list.length) :
    W Cd (.loop c_sl11Count_l0) [(0, v), (3, .I ((f.list.take i).map ctT).sum), (4, .I i)] H Q := by
  induction m generalizing i with
  | zero =>
    rw [W_loop_as c_sl11Count_l0.eq_1]
    have hi : i = f.list.length := by omega
    subst hi
    have := h.big
    simp [h.alen]
    rw [← ctS_sum]
    exact hQ
  | succ m ihm =>
    rw [W_loop_as c_sl11Count_l0.eq_1]
    have hi : i < f.list.length := by omega
    obtain ⟨s, hs⟩ : ∃ s, f.list[i]? = some s := ⟨_, List.getElem?_eq_getElem hi⟩
    have hmem := List.mem_of_getElem? hs
    have hbig := h.big
    obtain ⟨b, o, cap, c, rfl, ob, hbn, l1, s1⟩ := h.at hs
    obtain ⟨va, vy, vz, rfl, ea, ey, ez⟩ := s1
    have hcm := ctS_mem hmem
    have ht := sum_take hs
    have hle : ((f.list.take (i + 1)).map ctT).sum ≤ ctS f := by
      rw [ctS_sum]
      conv => rhs; rw [← List.take_append_drop (i + 1) f.list, List.map_append, List.sum_append]
      omega
    have ht2 : ctT s = 1 + ctS s.body + ctS s.els := rfl
    have g6 := loadN_get l1 (i := 6) (by omega)
    have g7 := loadN_get l1 (i := 7) (by omega)
    have := ihm (i + 1) (by omega)
    rw [ht] at this hle
    generalize ((f.list.take i).map ctT).sum = S at *
    generalize hL : f.list.length = L at *
    have hlt : (i : Int) < L := by omega
    simp at g6 g7
    simp (disch := omega) [hlt, g6]
    refine (ih s hmem).1 ey (by omega) ?_
    simp (disch := omega) [g7]
    refine (ih s hmem).2 ez (by omega) ?_
    simp (disch := omega)
    have e1 : ((S + ctT s : Nat) : Int) = (S : Int) + 1 + ctS s.body + ctS s.els := by omega
    rw [e1] at this
    simpa using this
theorem K_sl11Count (f : Sts) : ∀ {ok : Nat → Prop} {H : AH} {K : AV → AH → Prop} {w : Fk K} {v : AV}, SV ok H v f → ctS f ≤ 100000000 → K (.I (ctS f)) H → CallF Cd f_sl11Count [v] H K w := by
  induction f using Sts.ind with
  | h f ih =>
  intro ok H K w v h hc k
  rw [CallF_eq e_sl11Count rfl]
  simp
  have := K_sl11Count_l (f := f) (fun s hs => ⟨fun {ok H' K w v} => (ih s hs).1, fun {ok H' K w v} => (ih s hs).2⟩) (Q := ?_) h hc ?_ f.list.length 0 (by omega)
  · simpa using this
  · simpa using k
section
variable {ok : Nat → Prop} {H : AH} {K : AV → AH → Prop} {w : Fk K} {v : AV} {f : Sts}
def vaS (boxes : Int) (f : Sts) : Bool := okS boxes 3 f && decide (ctS f ≤ 16)
theorem K_sStmtsValid (h : SV ok H v f) (hc : ctS f ≤ 100000000) (k : ∀ H', Ext H H' → K (.b (vaS 3 f)) H') : CallF Cd f_sStmtsValid [v] H K w := by
  rw [CallF_eq e_sStmtsValid rfl]
  simp
  unfold vaS at k
  refine K_sl11Blocks f (by omega) h fun H1 x1 => ?_
  cases ho : okS 3 3 f with
  | false =>
    simp
    simpa [ho] using k _ x1
  | true =>
    simp
    refine K_sl11Count f (h.ext x1) hc ?_
    have e : decide ((ctS f : Int) ≤ 16) = decide (ctS f ≤ 16) := by
      by_cases q : ctS f ≤ 16
      · have : (ctS f : Int) ≤ 16 := by omega
        simp [q, this]
      · have : ¬ (ctS f : Int) ≤ 16 := by omega
        simp [q, this]
    simp [e]
    simpa [ho] using k _ x1
end
end Go.Proofs.YtcibjklpaljadaaGreat.AM
namespace Go.Proofs.YtcibjklpaljadaaGreat.AM
set_option linter.unusedSimpArgs false
set_option linter.unusedVariables false
set_option maxRecDepth 100000
set_option maxHeartbeats 2000000
open Go
section
variable {H : AH} {K : AV → AH → Prop} {w : Fk K} {n lim : Int} {u : Bool}
theorem K_in1 : CallF Cd f_istmtValid_1 [.I n, .I lim, .b true] H K w = K (.b (decide (n = 0 ∨ 0 < n ∧ n < lim))) H := by
  rw [CallF_eq e_istmtValid_1 rfl]
  by_cases h0 : n = 0
  · simp [h0]
  by_cases h1 : 0 < n <;> simp [h0, h1]
theorem K_in0 : CallF Cd f_istmtValid_1 [.I n, .I lim, .b false] H K w = K (.b (decide (n = 0))) H := by
  rw [CallF_eq e_istmtValid_1 rfl]
  by_cases h0 : n = 0 <;> simp [h0]
end
theorem K_istmtValid {ok : Nat → Prop} {H : AH} {K : AV → AH → Prop} {w : Fk K} {c : List AV} {s : St1} {b o : Nat} {boxes : Int} (hl : H.loadN b (o) 8 = some c) (hb : b < H.n) (h : S1 ok H c s)
    (k : ∀ H', Ext H H' → K (.b (stV boxes s.k s.v s.b (okE 5 s.e) (plE s.e) s.body.list.length s.els.list.length)) H') : CallF Cd f_istmtValid [.ptr b o, .I boxes] H K w := by
  obtain ⟨va, vy, vz, rfl, ea, ey, ez⟩ := h
  have la := ea.alen
  have ly := ey.alen
  have lz := ez.alen
  have by' := ey.big
  have bz := ez.big
  have ba := ea.big
  generalize hny : s.body.list.length = ny at *
  generalize hnz : s.els.list.length = nz at *
  generalize hna : s.e.args.list.length = na at *
  obtain ⟨sk, sv, sb, e, y, z⟩ := s
  simp only at *
  rw [CallF_eq e_istmtValid rfl]
  have nb : ¬ b = H.n := by omega
  have g : ∀ (nd : List AV) i, i < 8 → (H.push nd).load b (o + i) = [.I sk, .I sv, .I sb, .I e.op, .I e.n, va, vy, vz][i]? := fun nd i hi => loadN_get (loadN_extE hl (Ext.push H nd) hb) hi
  have g0 := fun nd => g nd 0 (by omega)
  have g1 := fun nd => g nd 1 (by omega)
  have g2 := fun nd => g nd 2 (by omega)
  have g3 := fun nd => g nd 3 (by omega)
  have g4 := fun nd => g nd 4 (by omega)
  have g5 := fun nd => g nd 5 (by omega)
  have g6 := fun nd => g nd 6 (by omega)
  have g7 := fun nd => g nd 7 (by omega)
  simp at g0 g1 g2 g3 g4 g5 g6 g7
  have ge : ∀ nd, (H.push nd).loadN b (o + 3) 3 = some [.I e.op, .I e.n, va] := fun nd => by
    have := loadN_extE hl (Ext.push H nd) hb
    unfold AH.loadN at this ⊢
    obtain ⟨kk, hk, hs⟩ := Option.bind_eq_some_iff.1 this
    rw [hk]
    exact (seg_seg hs (o1 := 3) (n1 := 3) (by omega)).trans rfl
  by_cases k1 : sk = 1
  · subst k1
    have x1 := Ext.push H [.b true, .b false, .b true, .b false, .b false]
    by_cases d1 : sv = 0 ∨ 0 < sv ∧ sv < 4
    rotate_left
    · simp (disch := omega) [g0, g1, g2, AH.store, push_put, load_bk push_new, K_in1, K_in0, d1]
      have : stV boxes 1 sv sb (okE 5 e) (plE e) ny nz = false := by unfold stV; simp; try omega
      rw [this] at k
      exact k _ x1
    by_cases d2 : sb = 0
    rotate_left
    · simp (disch := omega) [g0, g1, g2, AH.store, push_put, load_bk push_new, K_in1, K_in0, d1, d2]
      have : stV boxes 1 sv sb (okE 5 e) (plE e) ny nz = false := by unfold stV; simp; try omega
      rw [this] at k
      exact k _ x1
    subst d2
    simp (disch := omega) [g0, g1, g2, AH.store, push_put, load_bk push_new, K_in1, K_in0, d1, ge]
    refine K_iExprValid (e := e) (ea.ext x1) fun H1 y1 => ?_
    have q1 : H1.bk H.n = some ⟨[.b true, .b false, .b true, .b false, .b false], true⟩ := (y1.2 H.n (by simp)).trans push_new
    have j6 : H1.load b (o + 6) = some vy := loadN_get (loadN_extE (loadN_extE hl x1 hb) y1 (by simp; omega)) (i := 6) (by omega)
    have j7 : H1.load b (o + 7) = some vz := loadN_get (loadN_extE (loadN_extE hl x1 hb) y1 (by simp; omega)) (i := 7) (by omega)
    have xx := x1.trans y1
    cases hx : okE 5 e with
    | false =>
      simp [y1]
      have : stV boxes 1 sv 0 (okE 5 e) (plE e) ny nz = false := by unfold stV; simp [hx]
      rw [this] at k
      exact k _ xx
    | true =>
      by_cases r1 : ny = 0
      rotate_left
      · simp (disch := omega) [y1, load_bk q1, j6, j7, ly, lz, r1]
        have : stV boxes 1 sv 0 (okE 5 e) (plE e) ny nz = false := by unfold stV; simp [r1]
        rw [this] at k
        exact k _ xx
      by_cases r2 : nz = 0
      rotate_left
      · simp (disch := omega) [y1, load_bk q1, j6, j7, ly, lz, r1, r2]
        have : stV boxes 1 sv 0 (okE 5 e) (plE e) ny nz = false := by unfold stV; simp [r2]
        rw [this] at k
        exact k _ xx
      simp (disch := omega) [y1, load_bk q1, j6, j7, ly, lz, r1, r2]
      have : stV boxes 1 sv 0 (okE 5 e) (plE e) ny nz = true := by unfold stV; simp [hx, r1, r2]; try omega
      rw [this] at k
      exact k _ xx
  by_cases k2 : sk = 2
  · subst k2
    have x1 := Ext.push H [.b false, .b false, .b true, .b true, .b true]
    by_cases d1 : sv = 0
    rotate_left
    · simp (disch := omega) [g0, g1, g2, AH.store, push_put, load_bk push_new, K_in1, K_in0, d1]
      have : stV boxes 2 sv sb (okE 5 e) (plE e) ny nz = false := by unfold stV; simp; try omega
      rw [this] at k
      exact k _ x1
    subst d1
    by_cases d2 : sb = 0
    rotate_left
    · simp (disch := omega) [g0, g1, g2, AH.store, push_put, load_bk push_new, K_in1, K_in0, d2]
      have : stV boxes 2 0 sb (okE 5 e) (plE e) ny nz = false := by unfold stV; simp; try omega
      rw [this] at k
      exact k _ x1
    subst d2
    simp (disch := omega) [g0, g1, g2, AH.store, push_put, load_bk push_new, K_in1, K_in0, ge]
    refine K_iExprValid (e := e) (ea.ext x1) fun H1 y1 => ?_
    have q1 : H1.bk H.n = some ⟨[.b false, .b false, .b true, .b true, .b true], true⟩ := (y1.2 H.n (by simp)).trans push_new
    have j6 : H1.load b (o + 6) = some vy := loadN_get (loadN_extE (loadN_extE hl x1 hb) y1 (by simp; omega)) (i := 6) (by omega)
    have j7 : H1.load b (o + 7) = some vz := loadN_get (loadN_extE (loadN_extE hl x1 hb) y1 (by simp; omega)) (i := 7) (by omega)
    have xx := x1.trans y1
    cases hx : okE 5 e with
    | false =>
      simp [y1]
      have : stV boxes 2 0 0 (okE 5 e) (plE e) ny nz = false := by unfold stV; simp [hx]
      rw [this] at k
      exact k _ xx
    | true =>
      simp (disch := omega) [y1, load_bk q1, j6, j7, ly, lz]
      have : stV boxes 2 0 0 (okE 5 e) (plE e) ny nz = true := by unfold stV; simp [hx]; try omega
      rw [this] at k
      exact k _ xx
  by_cases k3 : sk = 3
  · subst k3
    have x1 := Ext.push H [.b false, .b false, .b true, .b true, .b false]
    by_cases d1 : sv = 0
    rotate_left
    · simp (disch := omega) [g0, g1, g2, AH.store, push_put, load_bk push_new, K_in1, K_in0, d1]
      have : stV boxes 3 sv sb (okE 5 e) (plE e) ny nz = false := by unfold stV; simp; try omega
      rw [this] at k
      exact k _ x1
    subst d1
    by_cases d2 : sb = 0
    rotate_left
    · simp (disch := omega) [g0, g1, g2, AH.store, push_put, load_bk push_new, K_in1, K_in0, d2]
      have : stV boxes 3 0 sb (okE 5 e) (plE e) ny nz = false := by unfold stV; simp; try omega
      rw [this] at k
      exact k _ x1
    subst d2
    simp (disch := omega) [g0, g1, g2, AH.store, push_put, load_bk push_new, K_in1, K_in0, ge]
    refine K_iExprValid (e := e) (ea.ext x1) fun H1 y1 => ?_
    have q1 : H1.bk H.n = some ⟨[.b false, .b false, .b true, .b true, .b false], true⟩ := (y1.2 H.n (by simp)).trans push_new
    have j6 : H1.load b (o + 6) = some vy := loadN_get (loadN_extE (loadN_extE hl x1 hb) y1 (by simp; omega)) (i := 6) (by omega)
    have j7 : H1.load b (o + 7) = some vz := loadN_get (loadN_extE (loadN_extE hl x1 hb) y1 (by simp; omega)) (i := 7) (by omega)
    have xx := x1.trans y1
    cases hx : okE 5 e with
    | false =>
      simp [y1]
      have : stV boxes 3 0 0 (okE 5 e) (plE e) ny nz = false := by unfold stV; simp [hx]
      rw [this] at k
      exact k _ xx
    | true =>
      by_cases r2 : nz = 0
      rotate_left
      · simp (disch := omega) [y1, load_bk q1, j6, j7, ly, lz, r2]
        have : stV boxes 3 0 0 (okE 5 e) (plE e) ny nz = false := by unfold stV; simp [r2]
        rw [this] at k
        exact k _ xx
      simp (disch := omega) [y1, load_bk q1, j6, j7, ly, lz, r2]
      have : stV boxes 3 0 0 (okE 5 e) (plE e) ny nz = true := by unfold stV; simp [hx, r2]; try omega
      rw [this] at k
      exact k _ xx
  by_cases k4 : sk = 4
  · subst k4
    have x1 := Ext.push H [.b false, .b true, .b true, .b false, .b false]
    by_cases d1 : sv = 0
    rotate_left
    · simp (disch := omega) [g0, g1, g2, AH.store, push_put, load_bk push_new, K_in1, K_in0, d1]
      have : stV boxes 4 sv sb (okE 5 e) (plE e) ny nz = false := by unfold stV; simp; try omega
      rw [this] at k
      exact k _ x1
    subst d1
    by_cases d2 : sb = 0 ∨ 0 < sb ∧ sb < boxes
    rotate_left
    · simp (disch := omega) [g0, g1, g2, AH.store, push_put, load_bk push_new, K_in1, K_in0, d2]
      have : stV boxes 4 0 sb (okE 5 e) (plE e) ny nz = false := by unfold stV; simp; try omega
      rw [this] at k
      exact k _ x1
    by_cases d3 : sb < boxes
    rotate_left
    · have d3' : boxes ≤ sb := by omega
      simp (disch := omega) [g0, g1, g2, AH.store, push_put, load_bk push_new, K_in1, K_in0, d2, d3']
      have : stV boxes 4 0 sb (okE 5 e) (plE e) ny nz = false := by unfold stV; simp; try omega
      rw [this] at k
      exact k _ x1
    have d3' : ¬ boxes ≤ sb := by omega
    simp (disch := omega) [g0, g1, g2, AH.store, push_put, load_bk push_new, K_in1, K_in0, d2, d3', ge]
    refine K_iExprValid (e := e) (ea.ext x1) fun H1 y1 => ?_
    have q1 : H1.bk H.n = some ⟨[.b false, .b true, .b true, .b false, .b false], true⟩ := (y1.2 H.n (by simp)).trans push_new
    have j6 : H1.load b (o + 6) = some vy := loadN_get (loadN_extE (loadN_extE hl x1 hb) y1 (by simp; omega)) (i := 6) (by omega)
    have j7 : H1.load b (o + 7) = some vz := loadN_get (loadN_extE (loadN_extE hl x1 hb) y1 (by simp; omega)) (i := 7) (by omega)
    have xx := x1.trans y1
    cases hx : okE 5 e with
    | false =>
      simp [y1]
      have : stV boxes 4 0 sb (okE 5 e) (plE e) ny nz = false := by unfold stV; simp [hx]
      rw [this] at k
      exact k _ xx
    | true =>
      by_cases r1 : ny = 0
      rotate_left
      · simp (disch := omega) [y1, load_bk q1, j6, j7, ly, lz, r1]
        have : stV boxes 4 0 sb (okE 5 e) (plE e) ny nz = false := by unfold stV; simp [r1]
        rw [this] at k
        exact k _ xx
      by_cases r2 : nz = 0
      rotate_left
      · simp (disch := omega) [y1, load_bk q1, j6, j7, ly, lz, r1, r2]
        have : stV boxes 4 0 sb (okE 5 e) (plE e) ny nz = false := by unfold stV; simp [r2]
        rw [this] at k
        exact k _ xx
      simp (disch := omega) [y1, load_bk q1, j6, j7, ly, lz, r1, r2]
      have : stV boxes 4 0 sb (okE 5 e) (plE e) ny nz = true := by unfold stV; simp [hx, r1, r2]; try omega
      rw [this] at k
      exact k _ xx
  by_cases k5 : sk = 5
  · subst k5
    have x1 := Ext.push H [.b true, .b true, .b false, .b false, .b false]
    by_cases d1 : sv = 0 ∨ 0 < sv ∧ sv < 4
    rotate_left
    · simp (disch := omega) [g0, g1, g2, AH.store, push_put, load_bk push_new, K_in1, K_in0, d1]
      have : stV boxes 5 sv sb (okE 5 e) (plE e) ny nz = false := by unfold stV; simp; try omega
      rw [this] at k
      exact k _ x1
    by_cases d2 : sb = 0 ∨ 0 < sb ∧ sb < boxes
    rotate_left
    · simp (disch := omega) [g0, g1, g2, AH.store, push_put, load_bk push_new, K_in1, K_in0, d1, d2]
      have : stV boxes 5 sv sb (okE 5 e) (plE e) ny nz = false := by unfold stV; simp; try omega
      rw [this] at k
      exact k _ x1
    by_cases d3 : sb < boxes
    rotate_left
    · have d3' : boxes ≤ sb := by omega
      simp (disch := omega) [g0, g1, g2, AH.store, push_put, load_bk push_new, K_in1, K_in0, d1, d2, d3']
      have : stV boxes 5 sv sb (okE 5 e) (plE e) ny nz = false := by unfold stV; simp; try omega
      rw [this] at k
      exact k _ x1
    have d3' : ¬ boxes ≤ sb := by omega
    by_cases p1 : e.op = 0
    rotate_left
    · simp (disch := omega) [g0, g1, g2, AH.store, push_put, load_bk push_new, K_in1, K_in0, g3, g4, g5, la, d1, d2, d3', p1]
      have : stV boxes 5 sv sb (okE 5 e) (plE e) ny nz = false := by unfold stV plE; simp [p1]
      rw [this] at k
      exact k _ x1
    by_cases p2 : e.n = 0
    rotate_left
    · simp (disch := omega) [g0, g1, g2, AH.store, push_put, load_bk push_new, K_in1, K_in0, g3, g4, g5, la, d1, d2, d3', p1, p2]
      have : stV boxes 5 sv sb (okE 5 e) (plE e) ny nz = false := by unfold stV plE; simp [p2]
      rw [this] at k
      exact k _ x1
    by_cases p3 : na = 0
    rotate_left
    · have p3' : 0 < na := by omega
      simp (disch := omega) [g0, g1, g2, AH.store, push_put, load_bk push_new, K_in1, K_in0, g3, g4, g5, la, d1, d2, d3', p1, p2, p3']
      have : stV boxes 5 sv sb (okE 5 e) (plE e) ny nz = false := by unfold stV plE; simp [hna, p3]
      rw [this] at k
      exact k _ x1
    have xx := x1
    have hx : plE e = true := by unfold plE; simp [hna, p1, p2, p3]
    by_cases r1 : ny = 0
    rotate_left
    · simp (disch := omega) [g0, g1, g2, AH.store, push_put, load_bk push_new, K_in1, K_in0, g3, g4, g5, g6, g7, la, ly, lz, d1, d2, d3', p1, p2, p3, r1]
      have : stV boxes 5 sv sb (okE 5 e) (plE e) ny nz = false := by unfold stV; simp [r1]
      rw [this] at k
      exact k _ xx
    by_cases r2 : nz = 0
    rotate_left
    · simp (disch := omega) [g0, g1, g2, AH.store, push_put, load_bk push_new, K_in1, K_in0, g3, g4, g5, g6, g7, la, ly, lz, d1, d2, d3', p1, p2, p3, r1, r2]
      have : stV boxes 5 sv sb (okE 5 e) (plE e) ny nz = false := by unfold stV; simp [r2]
      rw [this] at k
      exact k _ xx
    simp (disch := omega) [g0, g1, g2, AH.store, push_put, load_bk push_new, K_in1, K_in0, g3, g4, g5, g6, g7, la, ly, lz, d1, d2, d3', p1, p2, p3, r1, r2]
    have : stV boxes 5 sv sb (okE 5 e) (plE e) ny nz = true := by unfold stV; simp [hx, r1, r2]; try omega
    rw [this] at k
    exact k _ xx
  by_cases k6 : sk = 6
  · subst k6
    have x1 := Ext.push H [.b false, .b false, .b false, .b false, .b false]
    by_cases d1 : sv = 0
    rotate_left
    · simp (disch := omega) [g0, g1, g2, AH.store, push_put, load_bk push_new, K_in1, K_in0, d1]
      have : stV boxes 6 sv sb (okE 5 e) (plE e) ny nz = false := by unfold stV; simp; try omega
      rw [this] at k
      exact k _ x1
    subst d1
    by_cases d2 : sb = 0
    rotate_left
    · simp (disch := omega) [g0, g1, g2, AH.store, push_put, load_bk push_new, K_in1, K_in0, d2]
      have : stV boxes 6 0 sb (okE 5 e) (plE e) ny nz = false := by unfold stV; simp; try omega
      rw [this] at k
      exact k _ x1
    subst d2
    by_cases p1 : e.op = 0
    rotate_left
    · simp (disch := omega) [g0, g1, g2, AH.store, push_put, load_bk push_new, K_in1, K_in0, g3, g4, g5, la, p1]
      have : stV boxes 6 0 0 (okE 5 e) (plE e) ny nz = false := by unfold stV plE; simp [p1]
      rw [this] at k
      exact k _ x1
    by_cases p2 : e.n = 0
    rotate_left
    · simp (disch := omega) [g0, g1, g2, AH.store, push_put, load_bk push_new, K_in1, K_in0, g3, g4, g5, la, p1, p2]
      have : stV boxes 6 0 0 (okE 5 e) (plE e) ny nz = false := by unfold stV plE; simp [p2]
      rw [this] at k
      exact k _ x1
    by_cases p3 : na = 0
    rotate_left
    · have p3' : 0 < na := by omega
      simp (disch := omega) [g0, g1, g2, AH.store, push_put, load_bk push_new, K_in1, K_in0, g3, g4, g5, la, p1, p2, p3']
      have : stV boxes 6 0 0 (okE 5 e) (plE e) ny nz = false := by unfold stV plE; simp [hna, p3]
      rw [this] at k
      exact k _ x1
    have xx := x1
    have hx : plE e = true := by unfold plE; simp [hna, p1, p2, p3]
    by_cases r1 : ny = 0
    rotate_left
    · simp (disch := omega) [g0, g1, g2, AH.store, push_put, load_bk push_new, K_in1, K_in0, g3, g4, g5, g6, g7, la, ly, lz, p1, p2, p3, r1]
      have : stV boxes 6 0 0 (okE 5 e) (plE e) ny nz = false := by unfold stV; simp [r1]
      rw [this] at k
      exact k _ xx
    by_cases r2 : nz = 0
    rotate_left
    · simp (disch := omega) [g0, g1, g2, AH.store, push_put, load_bk push_new, K_in1, K_in0, g3, g4, g5, g6, g7, la, ly, lz, p1, p2, p3, r1, r2]
      have : stV boxes 6 0 0 (okE 5 e) (plE e) ny nz = false := by unfold stV; simp [r2]
      rw [this] at k
      exact k _ xx
    simp (disch := omega) [g0, g1, g2, AH.store, push_put, load_bk push_new, K_in1, K_in0, g3, g4, g5, g6, g7, la, ly, lz, p1, p2, p3, r1, r2]
    have : stV boxes 6 0 0 (okE 5 e) (plE e) ny nz = true := by unfold stV; simp [hx, r1, r2]; try omega
    rw [this] at k
    exact k _ xx
  by_cases k7 : sk = 7
  · subst k7
    have x1 := Ext.push H [.b false, .b false, .b true, .b false, .b false]
    by_cases d1 : sv = 0
    rotate_left
    · simp (disch := omega) [g0, g1, g2, AH.store, push_put, load_bk push_new, K_in1, K_in0, d1]
      have : stV boxes 7 sv sb (okE 5 e) (plE e) ny nz = false := by unfold stV; simp; try omega
      rw [this] at k
      exact k _ x1
    subst d1
    by_cases d2 : sb = 0
    rotate_left
    · simp (disch := omega) [g0, g1, g2, AH.store, push_put, load_bk push_new, K_in1, K_in0, d2]
      have : stV boxes 7 0 sb (okE 5 e) (plE e) ny nz = false := by unfold stV; simp; try omega
      rw [this] at k
      exact k _ x1
    subst d2
    simp (disch := omega) [g0, g1, g2, AH.store, push_put, load_bk push_new, K_in1, K_in0, ge]
    refine K_iExprValid (e := e) (ea.ext x1) fun H1 y1 => ?_
    have q1 : H1.bk H.n = some ⟨[.b false, .b false, .b true, .b false, .b false], true⟩ := (y1.2 H.n (by simp)).trans push_new
    have j6 : H1.load b (o + 6) = some vy := loadN_get (loadN_extE (loadN_extE hl x1 hb) y1 (by simp; omega)) (i := 6) (by omega)
    have j7 : H1.load b (o + 7) = some vz := loadN_get (loadN_extE (loadN_extE hl x1 hb) y1 (by simp; omega)) (i := 7) (by omega)
    have xx := x1.trans y1
    cases hx : okE 5 e with
    | false =>
      simp [y1]
      have : stV boxes 7 0 0 (okE 5 e) (plE e) ny nz = false := by unfold stV; simp [hx]
      rw [this] at k
      exact k _ xx
    | true =>
      by_cases r1 : ny = 0
      rotate_left
      · simp (disch := omega) [y1, load_bk q1, j6, j7, ly, lz, r1]
        have : stV boxes 7 0 0 (okE 5 e) (plE e) ny nz = false := by unfold stV; simp [r1]
        rw [this] at k
        exact k _ xx
      by_cases r2 : nz = 0
      rotate_left
      · simp (disch := omega) [y1, load_bk q1, j6, j7, ly, lz, r1, r2]
        have : stV boxes 7 0 0 (okE 5 e) (plE e) ny nz = false := by unfold stV; simp [r2]
        rw [this] at k
        exact k _ xx
      simp (disch := omega) [y1, load_bk q1, j6, j7, ly, lz, r1, r2]
      have : stV boxes 7 0 0 (okE 5 e) (plE e) ny nz = true := by unfold stV; simp [hx, r1, r2]; try omega
      rw [this] at k
      exact k _ xx
  simp (disch := omega) [g0, g1, g2, k1, k2, k3, k4, k5, k6, k7]
  have : stV boxes sk sv sb (okE 5 e) (plE e) ny nz = false := by unfold stV; simp [k1, k2, k3, k4, k5, k6, k7]
  rw [this] at k
  exact k _ (Ext.push _ _)
end Go.Proofs.YtcibjklpaljadaaGreat.AM
namespace Go.Proofs.YtcibjklpaljadaaGreat.AM
set_option linter.unusedSimpArgs false
set_option linter.unusedVariables false
open Go
theorem SV.only {bs : List Nat} {H H' : AH} {v f} {ok : Nat → Prop} (h : SV ok H v f) (k : Only bs H H') (hb : ∀ b, ok b → b ∉ bs) : SV ok H' v f := h.mono k.1 (fun b h1 h2 => k.2 b h2 (hb b h1)) (fun _ h _ => h)
theorem stV_leaf {boxes k v b : Int} {x p : Bool} {ny nz : Nat} (h : stV boxes k v b x p ny nz = true) (h2 : k ≠ 2) (h3 : k ≠ 3) : ny = 0 ∧ nz = 0 := by
  unfold stV at h
  by_cases k1 : k = 1
  · simp [k1] at h; omega
  by_cases k4 : k = 4
  · simp [k4] at h; omega
  by_cases k5 : k = 5
  · simp [k5] at h; omega
  by_cases k6 : k = 6
  · simp [k6] at h; omega
  by_cases k7 : k = 7
  · simp [k7] at h; omega
  simp [h2, h3, k1, k4, k5, k6, k7] at h
def BlV (f : Sts) : Prop := ∀ {blocks boxes : Int} {c : Nat} {cp : Nat} {H : AH} {K : AV → AH → Prop} {w : Fk K} {v : AV}, SV (fun b => b ≠ cp) H v f → ctS f ≤ 10000000 → c ≤ 16 → cp < H.n → H.bk cp = some ⟨[.I c], true⟩ → 0 ≤ blocks ∧ blocks ≤ 3 →
  (∀ r H', (r = true ↔ okS boxes (3 - blocks) f = true ∧ c + ctS f ≤ 16) → (r = true → H'.bk cp = some ⟨[.I (c + ctS f : Nat)], true⟩) → Only [cp] H H' → K (.b r) H') → CallF Cd f_iblockValid [v, .I boxes, .I blocks, .ptr cp 0] H K w
theorem K_iblockValid_l {f : Sts} (ih : ∀ s ∈ f.list, BlV s.body ∧ BlV s.els) {boxes blocks : Int} {T cp : Nat} {K : AV → AH → Prop} {v : AV} (hc : ctS f ≤ 10000000) (hbl : 0 ≤ blocks ∧ blocks ≤ 3)
    {Q : Out → Env → AH → Prop} (h1 : ∀ e H, Q (.brk 0) e H = K (.b true) H) (h2 : ∀ e H, Q .ret e H = bindO (get e 8) fun v => K v H)
    (m i : Nat) (hm : i + m = f.list.length) {H : AH} {cnt : Nat} (h : SV (fun b => b ≠ cp) H v f) (hcp : cp < H.n) (gc : H.bk cp = some ⟨[.I cnt], true⟩) (h16 : cnt ≤ 16) (hT : cnt + ((f.list.drop i).map ctT).sum = T + m)
    (k : ∀ r H', (r = true ↔ (f.list.drop i).all (okT boxes (3 - blocks)) = true ∧ T ≤ 16) → (r = true → H'.bk cp = some ⟨[.I (T : Nat)], true⟩) → Only [cp] H H' → K (.b r) H') :
    W Cd (.loop c_iblockValid_l0) [(0, v), (1, .I boxes), (2, .I blocks), (3, .ptr cp 0), (23, .I f.list.length), (24, .I i)] H Q := by
  induction m generalizing i H cnt with
  | zero =>
    rw [W_loop_as c_iblockValid_l0.eq_1]
    have hi : i = f.list.length := by omega
    subst hi
    simp [h1]
    rw [List.drop_length] at hT k
    simp at hT
    subst hT
    exact k true H (by simp [h16]) (fun _ => gc) Only.refl
  | succ m ihm =>
    rw [W_loop_as c_iblockValid_l0.eq_1]
    have hi : i < f.list.length := by omega
    obtain ⟨s, hs⟩ : ∃ s, f.list[i]? = some s := ⟨_, List.getElem?_eq_getElem hi⟩
    have hmem := List.mem_of_getElem? hs
    have hbig := h.big
    obtain ⟨b, o, cap, c, rfl, ob, hbn, l1, s1⟩ := h.at hs
    rw [all_drop hs] at k
    rw [sum_drop hs] at hT
    have hcm := ctS_mem hmem
    have ht2 : ctT s = 1 + ctS s.body + ctS s.els := rfl
    have hrem : ((f.list.drop (i + 1)).map ctT).sum ≥ m := by
      have : ∀ l : List St1, l.length ≤ (l.map ctT).sum := fun l => by
        induction l with
        | nil => simp
        | cons a l ih => simp [ctT]; omega
      have := this (f.list.drop (i + 1))
      rw [List.length_drop] at this
      omega
    generalize hL : f.list.length = L at *
    have hlt : (i : Int) < L := by omega
    have nh : ¬ b = cp := ob
    have hb2 : ¬ (3 : Int) < blocks := by omega
    simp (disch := omega) [hlt]
    refine K_istmtValid l1 hbn s1 fun H1 x1 => ?_
    have o1 : Only [cp] H H1 := ⟨x1.1, fun b hb _ => x1.2 b hb⟩
    have gc1 := (x1.2 cp hcp).trans gc
    have l2 := loadN_extE l1 x1 hbn
    obtain ⟨va, vy, vz, rfl, ea, ey, ez⟩ := s1
    have g0 := loadN_get l2 (i := 0) (by omega)
    have g6 := loadN_get l2 (i := 6) (by omega)
    simp at g0 g6
    have e0 : okT boxes (3 - blocks) s = (stV boxes s.k s.v s.b (okE 5 s.e) (plE s.e) s.body.list.length s.els.list.length && (decide (s.k ≠ 2 ∧ s.k ≠ 3) || (decide (1 ≤ 3 - blocks) && okS boxes (3 - blocks - 1) s.body && okS boxes (3 - blocks - 1) s.els))) := rfl
    rw [e0] at k
    cases hst : stV boxes s.k s.v s.b (okE 5 s.e) (plE s.e) s.body.list.length s.els.list.length with
    | false =>
      rw [hst] at k
      simp [h2]
      exact k false _ (by simp) (by simp) o1
    | true =>
      rw [hst] at k
      by_cases hk : s.k ≠ 2 ∧ s.k ≠ 3
      · simp (disch := omega) [hb2, g0, hk.1, hk.2]
        have hb0 : s.body = .nil ∧ s.els = .nil := by
          have : s.body.list.length = 0 ∧ s.els.list.length = 0 := stV_leaf hst hk.1 hk.2
          exact ⟨by rw [← Sts.of_list s.body, List.eq_nil_of_length_eq_zero this.1]; rfl, by rw [← Sts.of_list s.els, List.eq_nil_of_length_eq_zero this.2]; rfl⟩
        have z1 : ctS s.body = 0 := by rw [hb0.1]; rfl
        have z2 : ctS s.els = 0 := by rw [hb0.2]; rfl
        have := ihm (i + 1) (by omega) (H := H1) (cnt := cnt) (h.only o1 (by simp)) (by have := x1.1; omega) gc1 h16 (by omega) (fun r H' a1 a2 a3 => k r H' (by simpa [hk.1, hk.2] using a1) a2 (o1.trans a3))
        simpa using this
      have hk' : (decide (s.k ≠ 2 ∧ s.k ≠ 3)) = false := by simp only [decide_eq_false_iff_not]; exact hk
      have hnn : ¬ (s.k = 2 → s.k = 3) ∨ s.k = 3 := by omega
      rw [hk'] at k
      have hbra : (s.k ≠ 2 ∧ s.k = 3) ∨ s.k = 2 := by omega
      by_cases hb3 : 3 ≤ blocks
      · have hb3' : ¬ 1 ≤ 3 - blocks := by omega
        rcases hbra with ⟨q1, q2⟩ | q2 <;> simp (disch := omega) [hb2, g0, q2, hb3, h2] <;> exact k false _ (by simp [hb3']) (by simp) o1
      have hb3' : 1 ≤ 3 - blocks := by omega
      have eb : (3 : Int) - (blocks + 1) = 3 - blocks - 1 := by omega
      have nh1 := x1.1
      rcases hbra with ⟨q1, q2⟩ | q2
      all_goals
        simp (disch := omega) [hb2, g0, q2, hb3, g6]
        refine (ih s hmem).1 (ey.ext x1) (by omega) h16 (by omega) gc1 (by omega) fun r H2 r1 r2 r3 => ?_
        rw [eb] at r1
        have o2 := o1.trans r3
        cases r with
        | false =>
          simp [h2]
          refine k false _ ?_ (by simp) o2
          simp at r1
          refine iff_of_false (by simp) ?_
          rintro ⟨u, u3⟩
          simp at u
          have := r1 u.1.1.2
          omega
        | true =>
          simp at r1
          have gc2 := r2 rfl
          have l3 : H2.loadN b (o + i * 8) 8 = some [.I s.k, .I s.v, .I s.b, .I s.e.op, .I s.e.n, va, vy, vz] := by
            unfold AH.loadN at l2 ⊢; rw [r3.2 b (by omega) (by simpa using nh)]; exact l2
          have g7 := loadN_get l3 (i := 7) (by omega)
          simp at g7
          simp (disch := omega) [g7]
          refine (ih s hmem).2 ((ez.ext x1).only r3 (by simp)) (by omega) r1.2 (by have := r3.1; omega) gc2 (by omega) fun r' H3 t1 t2 t3 => ?_
          rw [eb] at t1
          have o3 := o2.trans t3
          cases r' with
          | false =>
            simp [h2]
            refine k false _ ?_ (by simp) o3
            simp at t1
            refine iff_of_false (by simp) ?_
            rintro ⟨u, u3⟩
            simp at u
            have := t1 u.1.2
            omega
          | true =>
            simp at t1
            have gc3 := t2 rfl
            simp (disch := omega)
            have := ihm (i + 1) (by omega) (H := H3) (cnt := cnt + ctS s.body + ctS s.els) (h.only o3 (by simp)) (by have := o3.1; omega) gc3 t1.2 (by omega) (fun r H' a1 a2 a3 => k r H' (by simpa [hb3', r1.1, t1.1] using a1) a2 (o3.trans a3))
            simpa using this
theorem K_iblockValid (f : Sts) : BlV f := by
  induction f using Sts.ind with
  | h f ih =>
  intro blocks boxes c cp H K w v h hc h16 hcp gc hbl k
  rw [CallF_eq e_iblockValid rfl]
  have hbig := h.big
  have hlc := len_ctS (f := f)
  have st := store_bk (o := 0) (vs := [.I (c + f.list.length : Nat)]) gc (by simp)
  have st' : H.store cp 0 [AV.i .i64 ((c : Int) + f.list.length)] = _ := st
  have o1 : Only [cp] H (H.put cp (some ⟨splice [.I c] 0 [.I (c + f.list.length : Nat)], true⟩)) := Only.refl.put (by simp)
  have gc1 : (H.put cp (some ⟨splice [.I c] 0 [.I (c + f.list.length : Nat)], true⟩)).bk cp = some ⟨[.I (c + f.list.length : Nat)], true⟩ := by rw [put_same]; rfl
  have h1 := h.only o1 (by simp)
  generalize H.put cp (some ⟨splice [.I c] 0 [.I (c + f.list.length : Nat)], true⟩) = H1 at *
  by_cases hq : c + f.list.length ≤ 16
  · have hq' : ¬ (16 : Int) < (c : Int) + f.list.length := by omega
    have hq2 : ((c + f.list.length : Nat) : Int) = (c : Int) + f.list.length := by omega
    simp (disch := omega) [load_bk gc, h.alen, st', load_bk gc1, hq', hq2]
    have hT : c + f.list.length + ((f.list.drop 0).map ctT).sum = (c + ctS f) + f.list.length := by
      rw [List.drop_zero, ← ctS_sum]; omega
    have hcp1 : cp < H1.n := by have := o1.1; omega
    have := K_iblockValid_l ih (boxes := boxes) (blocks := blocks) (K := K) hc hbl (Q := ?_) ?_ ?_ f.list.length 0 (by omega) h1 hcp1 gc1 hq hT (fun r H' a1 a2 a3 => k r H' (by rw [okS_mem]; simpa using a1) a2 (o1.trans a3))
    · simpa using this
    · intros; simp
    · intros; simp
  · have hq' : (16 : Int) < (c : Int) + f.list.length := by omega
    have hq2 : ((c + f.list.length : Nat) : Int) = (c : Int) + f.list.length := by omega
    simp (disch := omega) [load_bk gc, h.alen, st', load_bk gc1, hq', hq2]
    exact k false _ (iff_of_false (by simp) (by rintro ⟨_, q⟩; omega)) (by simp) o1
section
variable {ok : Nat → Prop} {H : AH} {K : AV → AH → Prop} {w : Fk K} {v : AV} {f : Sts} {boxes : Int}
theorem K_istmtsValid (h : SV ok H v f) (hc : ctS f ≤ 10000000) (k : ∀ H', Ext H H' → K (.b (vaS boxes f)) H') : CallF Cd f_istmtsValid [v, .I boxes] H K w := by
  rw [CallF_eq e_istmtsValid rfl]
  simp [AH.store, push_put]
  have h1 : SV (fun b => b ≠ H.n) (H.push [.I 0]) v f := h.mono (Nat.le_succ _) (fun b _ hb => (Ext.push _ _).2 b hb) (fun b _ hb => by omega)
  refine K_iblockValid f h1 hc (c := 0) (by omega) (by simp) push_new (by omega) fun r H' a1 a2 a3 => ?_
  simp
  have : r = vaS boxes f := by
    rw [Bool.eq_iff_iff, a1]; unfold vaS; simp
  rw [this]
  exact k _ ⟨by have := a3.1; simp at this; omega, fun b hb => (a3.2 b (by simp; omega) (by simp; omega)).trans (push_old hb rfl)⟩
end
end Go.Proofs.YtcibjklpaljadaaGreat.AM
namespace Go.Proofs.YtcibjklpaljadaaGreat.AM
set_option linter.unusedSimpArgs false
set_option linter.unusedVariables false
open Go
def LF {α : Type} (sz : Nat) (E : List AV → α → Prop) : List α → List AV → Prop
  | [], cs => cs = []
  | a :: l, cs => ∃ c cr, cs = c ++ cr ∧ c.length = sz ∧ E c a ∧ LF sz E l cr
theorem LF.len {α sz} {E : List AV → α → Prop} : ∀ {l cs}, LF sz E l cs → cs.length = l.length * sz
  | [], _, h => by cases h; simp
  | a :: l, _, ⟨c, cr, h1, h2, h3, h4⟩ => by subst h1; have := h4.len; simp [h2, this, Nat.add_mul]; omega
theorem LF.imp {α sz} {E F : List AV → α → Prop} (h : ∀ c a, E c a → F c a) : ∀ {l cs}, LF sz E l cs → LF sz F l cs
  | [], _, h => h
  | a :: l, _, ⟨c, cr, h1, h2, h3, h4⟩ => ⟨c, cr, h1, h2, h _ _ h3, LF.imp h h4⟩
theorem LF.drop {α sz} {E : List AV → α → Prop} : ∀ {l cs}, LF sz E l cs → ∀ i, LF sz E (l.drop i) (cs.drop (i * sz))
  | [], _, h, i => by cases h; simp [LF]
  | a :: l, _, h, 0 => by simpa using h
  | a :: l, _, ⟨c, cr, h1, h2, h3, h4⟩, i + 1 => by
    subst h1
    have := h4.drop i
    rw [show (i + 1) * sz = c.length + i * sz by rw [h2, Nat.add_mul]; omega, ← List.drop_drop (i := i * sz) (j := c.length), List.drop_left, List.drop_succ_cons]
    exact this
theorem LF.take {α sz} {E : List AV → α → Prop} : ∀ {l cs}, LF sz E l cs → ∀ i, LF sz E (l.take i) (cs.take (i * sz))
  | [], _, h, i => by cases h; simp [LF]
  | a :: l, _, h, 0 => by simp [LF]
  | a :: l, _, ⟨c, cr, h1, h2, h3, h4⟩, i + 1 => by
    subst h1
    have := h4.take i
    rw [show (i + 1) * sz = c.length + i * sz by rw [h2, Nat.add_mul]; omega, List.take_length_add_append]
    exact ⟨c, _, rfl, h2, h3, this⟩
theorem LF.app {α sz} {E : List AV → α → Prop} : ∀ {l cs} {l' : List α} {cs'}, LF sz E l cs → LF sz E l' cs' → LF sz E (l ++ l') (cs ++ cs')
  | [], _, l', cs', h, k => by cases h; simpa using k
  | a :: l, _, l', cs', ⟨c, cr, h1, h2, h3, h4⟩, k => ⟨c, cr ++ cs', by simp [h1], h2, h3, h4.app k⟩
theorem LF.one {α sz} {E : List AV → α → Prop} {c : List AV} {a : α} (h : E c a) (hc : c.length = sz) : LF sz E [a] c := ⟨c, [], by simp, hc, h, rfl⟩
theorem LF.get {α sz} {E : List AV → α → Prop} : ∀ {l cs}, LF sz E l cs → ∀ {i a}, l[i]? = some a → ∃ c, seg cs (i * sz) sz = some c ∧ E c a
  | [], _, _, i, a, hi => by simp at hi
  | x :: l, _, ⟨c, cr, h1, h2, h3, h4⟩, i, a, hi => by
    subst h1
    cases i with
    | zero =>
      simp at hi; subst hi
      exact ⟨c, by unfold seg; rw [if_pos (by simp; omega)]; simp [← h2], h3⟩
    | succ i =>
      obtain ⟨c', h5, h6⟩ := h4.get (i := i) (a := a) (by simpa using hi)
      refine ⟨c', ?_, h6⟩
      rw [← h5]
      unfold seg
      rw [show (i + 1) * sz = c.length + i * sz by rw [h2, Nat.add_mul]; omega, ← List.drop_drop, List.drop_left]
      simp only [List.length_append]
      by_cases hq : i * sz + sz ≤ cr.length
      · rw [if_pos (by omega), if_pos hq]
      · rw [if_neg (by omega), if_neg hq]
theorem LF.set {α sz} {E : List AV → α → Prop} : ∀ {l cs}, LF sz E l cs → ∀ {i a c}, i < l.length → E c a → c.length = sz → LF sz E (l.set i a) (splice cs (i * sz) c)
  | [], _, _, i, a, c, hi, _, _ => by simp at hi
  | x :: l, _, ⟨c0, cr, h1, h2, h3, h4⟩, i, a, c, hi, he, hc => by
    subst h1
    cases i with
    | zero => exact ⟨c, cr, by unfold splice; simp [hc, ← h2], hc, he, h4⟩
    | succ i =>
      have := h4.set (i := i) (by simpa using hi) he hc
      refine ⟨c0, _, ?_, h2, h3, this⟩
      unfold splice
      rw [show (i + 1) * sz = c0.length + i * sz by rw [h2, Nat.add_mul]; omega, List.take_length_add_append, show c0.length + i * sz + c.length = c0.length + (i * sz + c.length) by omega, ← List.drop_drop (i := i * sz + c.length), List.drop_left]
      simp
theorem SF_LF {ok H} : ∀ {f cs}, SF ok H f cs ↔ LF 8 (S1 ok H) f.list cs
  | .nil, _ => Iff.rfl
  | .cons k v b e y z r, cs => by
    constructor
    · rintro ⟨va, vy, vz, cy, cz, cr, h1, h2, h3, h4, h5, h6, h7⟩
      exact ⟨[.I k, .I v, .I b, .I e.op, .I e.n, va, vy, vz], cr, by simp [h1], rfl, ⟨va, vy, vz, rfl, h2, ⟨cy, h3, h4⟩, cz, h5, h6⟩, SF_LF.1 h7⟩
    · rintro ⟨c, cr, h1, h2, ⟨va, vy, vz, rfl, h3, ⟨cy, h4, h5⟩, cz, h6, h7⟩, h8⟩
      exact ⟨va, vy, vz, cy, cz, cr, by simp [h1], h3, h4, h5, h6, h7, SF_LF.2 h8⟩
theorem SF_of {ok H} {l : List St1} {cs} : SF ok H (Sts.of l) cs ↔ LF 8 (S1 ok H) l cs := by rw [SF_LF, Sts.list_of]
theorem SlC.part {ok H v n sz cs} (h : SlC ok H v n sz cs) {i j : Nat} (hij : i ≤ j) (hj : j ≤ n) (hz : 0 < sz) {lo hi : Option AV} (h1 : bnd 0 lo = some i) (h2 : bnd n hi = some j) :
    ∃ v', aslice sz v lo hi none = some v' ∧ SlC ok H v' (j - i) sz ((cs.drop (i * sz)).take ((j - i) * sz)) ∧ v'.flat = true := by
  have hlen : ((cs.drop (i * sz)).take ((j - i) * sz)).length = (j - i) * sz := by
    have := Nat.mul_le_mul_right sz hj
    have e : (j - i) * sz = j * sz - i * sz := Nat.sub_mul _ _ _
    have := Nat.mul_le_mul_right sz hij
    simp [h.2.1]; omega
  have hn := h.1
  rcases h.2.2 with ⟨rfl, rfl | rfl⟩ | ⟨b, o, cap, rfl, ⟨q1, q2⟩, q3, q4⟩
  · have : j = 0 := by omega
    subst this
    have : i = 0 := by omega
    subst this
    have h2' : bnd 0 hi = some 0 := h2
    exact ⟨.nils, by simp only [aslice, h1, h2'], ⟨by omega, hlen, .inl ⟨rfl, .inl rfl⟩⟩, rfl⟩
  · have : j = 0 := by omega
    subst this
    have : i = 0 := by omega
    subst this
    have h2' : bnd 0 hi = some 0 := h2
    exact ⟨.esl, by simp only [aslice, h1, h2'], ⟨by omega, hlen, .inl ⟨rfl, .inr rfl⟩⟩, rfl⟩
  · have hL : ∀ o', (o' = o + i * sz ∨ j = i ∧ o' = o) → H.loadN b o' ((j - i) * sz) = some ((cs.drop (i * sz)).take ((j - i) * sz)) := by
      intro o' ho
      unfold AH.loadN at q4 ⊢
      obtain ⟨kk, hk, hs⟩ := Option.bind_eq_some_iff.1 q4
      rw [hk]
      show seg _ _ _ = _
      have hm1 := Nat.mul_le_mul_right sz hj
      have hm2 := Nat.mul_le_mul_right sz hij
      have e : (j - i) * sz = j * sz - i * sz := Nat.sub_mul _ _ _
      rcases ho with rfl | ⟨rfl, rfl⟩
      · rw [seg_seg hs (by omega)]
        unfold seg
        rw [if_pos (by rw [h.2.1]; omega)]
      · rw [Nat.sub_self, Nat.zero_mul]
        unfold seg at hs ⊢
        split at hs
        · rw [if_pos (by omega)]; simp
        · cases hs
    have fin : ∀ v', (∃ o' cap', v' = .sl b o' (j - i) cap' ∧ capOk (j - i) sz cap' ∧ (o' = o + i * sz ∨ j = i ∧ o' = o)) → SlC ok H v' (j - i) sz ((cs.drop (i * sz)).take ((j - i) * sz)) ∧ v'.flat = true := by
      rintro v' ⟨o', cap', rfl, g1, g2⟩
      exact ⟨⟨by omega, hlen, .inr ⟨b, o', cap', rfl, ⟨q1, g1⟩, q3, hL o' g2⟩⟩, rfl⟩
    cases cap with
    | ex c =>
      have q2' : n ≤ c := q2
      refine ⟨.sl b (if c = i then o else o + i * sz) (j - i) (.ex (c - i)), by simp only [aslice, h1, h2]; rw [if_pos ⟨hij, hj⟩], fin _ ⟨_, _, rfl, ?_, ?_⟩⟩
      · show j - i ≤ c - i; omega
      · by_cases hc : c = i
        · rw [if_pos hc]; right; omega
        · rw [if_neg hc]; exact .inl rfl
    | lb c z =>
      obtain ⟨g1, rfl⟩ := q2
      by_cases hi0 : i = 0
      · subst hi0
        refine ⟨.sl b o j (.lb c z), by simp only [aslice, h1, h2]; rw [if_pos ⟨hij, hj⟩]; simp, ?_⟩
        have := fin (.sl b o j (.lb c z)) ⟨o, .lb c z, by simp, ⟨by omega, rfl⟩, .inl (by simp)⟩
        exact this
      · by_cases hil : i < n
        · exact ⟨.sl b (o + i * z) (j - i) (.lb (c - i) z), by simp only [aslice, h1, h2]; rw [if_pos ⟨hij, hj⟩]; simp [hi0, hil], fin _ ⟨_, _, rfl, ⟨by omega, rfl⟩, .inl rfl⟩⟩
        · refine ⟨.esl, by simp only [aslice, h1, h2]; rw [if_pos ⟨hij, hj⟩]; simp [hi0, hil], ⟨by omega, hlen, .inl ⟨by omega, .inr rfl⟩⟩, rfl⟩
    | ro =>
      by_cases hi0 : i = 0
      · subst hi0
        refine ⟨.sl b o j .ro, by simp only [aslice, h1, h2]; rw [if_pos ⟨hij, hj⟩]; simp, ?_⟩
        have := fin (.sl b o j .ro) ⟨o, .ro, by simp, trivial, .inl (by simp)⟩
        exact this
      · by_cases hil : i < n
        · exact ⟨.sl b (o + i * sz) (j - i) .ro, by simp only [aslice, h1, h2]; rw [if_pos ⟨hij, hj⟩]; simp [hi0, hil], fin _ ⟨_, _, rfl, trivial, .inl rfl⟩⟩
        · refine ⟨.esl, by simp only [aslice, h1, h2]; rw [if_pos ⟨hij, hj⟩]; simp [hi0, hil], ⟨by omega, hlen, .inl ⟨by omega, .inr rfl⟩⟩, rfl⟩
theorem SV.part {ok H v f} (h : SV ok H v f) {i j : Nat} (hij : i ≤ j) (hj : j ≤ f.list.length) {lo hi : Option AV} (h1 : bnd 0 lo = some i) (h2 : bnd f.list.length hi = some j) :
    ∃ v', aslice 8 v lo hi none = some v' ∧ SV ok H v' (Sts.of ((f.list.drop i).take (j - i))) ∧ v'.flat = true := by
  obtain ⟨ca, a1, a2⟩ := h
  obtain ⟨v', b1, b2, b3⟩ := a1.part hij hj (by omega) h1 h2
  have hl : ((f.list.drop i).take (j - i)).length = j - i := by simp; omega
  refine ⟨v', b1, ⟨_, ?_, SF_of.2 ((SF_LF.1 a2).drop i |>.take (j - i))⟩, b3⟩
  rw [Sts.list_of, hl]; exact b2

def IV (ok : Nat → Prop) (H : AH) (v : AV) (l : List Int) : Prop := SlC ok H v l.length 1 (Ints l)
theorem IV.src {ok H v l} (h : IV ok H v l) : Src H v l := by
  refine ⟨h.1, ?_⟩
  rcases h.2.2 with ⟨h1, h2 | h2⟩ | ⟨b, o, c, rfl, h1, h2, h3⟩
  · exact .inl ⟨h2, List.eq_nil_of_length_eq_zero h1⟩
  · exact .inr (.inl ⟨h2, List.eq_nil_of_length_eq_zero h1⟩)
  · exact .inr (.inr ⟨b, o, c, rfl, h2, by simpa using h3⟩)
theorem IV.sees {ok H v l} (h : IV ok H v l) : SeesZ H v l := h.src.sees
theorem IV.mono {ok ok' : Nat → Prop} {H H' v l} (h : IV ok H v l) (hn : H.n ≤ H'.n) (hk : ∀ b, ok b → b < H.n → H'.bk b = H.bk b) (ho : ∀ b, ok b → b < H.n → ok' b) : IV ok' H' v l := SlC.mono h hn hk ho
theorem IV.ext {ok H H' v l} (h : IV ok H v l) (k : Ext H H') : IV ok H' v l := h.mono k.1 (fun b _ hb => k.2 b hb) (fun _ h _ => h)
theorem SlC.ext {ok H H' v n sz cs} (h : SlC ok H v n sz cs) (k : Ext H H') : SlC ok H' v n sz cs := h.mono k.1 (fun b _ hb => k.2 b hb) (fun _ h _ => h)
structure Tk where
  vars : List Int
  rest : Sts
deriving DecidableEq, Inhabited
def TC (ok : Nat → Prop) (H : AH) (c : List AV) (t : Tk) : Prop := ∃ vv vr, c = [vv, vr] ∧ IV ok H vv t.vars ∧ SV ok H vr t.rest
theorem TC.mono {ok ok' : Nat → Prop} {H H' c t} (h : TC ok H c t) (hn : H.n ≤ H'.n) (hk : ∀ b, ok b → b < H.n → H'.bk b = H.bk b) (ho : ∀ b, ok b → b < H.n → ok' b) : TC ok' H' c t := let ⟨a, b, h0, h1, h2⟩ := h; ⟨a, b, h0, h1.mono hn hk ho, h2.mono hn hk ho⟩
theorem TC.ext {ok H H' c t} (h : TC ok H c t) (k : Ext H H') : TC ok H' c t := h.mono k.1 (fun b _ hb => k.2 b hb) (fun _ h _ => h)
structure Bx where
  room : Int
  items : List Int
deriving DecidableEq, Inhabited
def BC (ok : Nat → Prop) (H : AH) (c : List AV) (b : Bx) : Prop := ∃ vi, c = [.I b.room, vi] ∧ IV ok H vi b.items
theorem BC.mono {ok ok' : Nat → Prop} {H H' c t} (h : BC ok H c t) (hn : H.n ≤ H'.n) (hk : ∀ b, ok b → b < H.n → H'.bk b = H.bk b) (ho : ∀ b, ok b → b < H.n → ok' b) : BC ok' H' c t := let ⟨a, h0, h1⟩ := h; ⟨a, h0, h1.mono hn hk ho⟩
theorem BC.ext {ok H H' c t} (h : BC ok H c t) (k : Ext H H') : BC ok H' c t := h.mono k.1 (fun b _ hb => k.2 b hb) (fun _ h _ => h)
def BV (ok : Nat → Prop) (H : AH) (v : AV) (l : List Bx) : Prop := ∃ ca, SlC ok H v l.length 2 ca ∧ LF 2 (BC ok H) l ca
theorem BV.mono {ok ok' : Nat → Prop} {H H' v l} (h : BV ok H v l) (hn : H.n ≤ H'.n) (hk : ∀ b, ok b → b < H.n → H'.bk b = H.bk b) (ho : ∀ b, ok b → b < H.n → ok' b) : BV ok' H' v l := let ⟨a, h0, h1⟩ := h; ⟨a, h0.mono hn hk ho, h1.imp (fun _ _ h => h.mono hn hk ho)⟩
theorem BV.ext {ok H H' c t} (h : BV ok H c t) (k : Ext H H') : BV ok H' c t := h.mono k.1 (fun b _ hb => k.2 b hb) (fun _ h _ => h)
theorem BV.alen {ok H v l} (h : BV ok H v l) : alen v = some l.length := let ⟨_, h1, _⟩ := h; h1.alen
theorem BV.flat {ok H v l} (h : BV ok H v l) : v.flat = true := let ⟨_, h1, _⟩ := h; h1.flat
theorem BV.big {ok H v l} (h : BV ok H v l) : l.length ≤ 8589934592 := let ⟨_, h1, _⟩ := h; h1.1
theorem BV.at {ok H v l} (h : BV ok H v l) {i : Nat} {x : Bx} (hi : l[i]? = some x) : ∃ b o cap vi, v = .sl b o l.length cap ∧ ok b ∧ b < H.n ∧ H.loadN b (o + i * 2) 2 = some [.I x.room, vi] ∧ IV ok H vi x.items := by
  obtain ⟨ca, h1, h2⟩ := h
  have hl := (List.getElem?_eq_some_iff.1 hi).1
  obtain ⟨b, o, cap, e1, e2, e3, e4⟩ := h1.at hl
  obtain ⟨c, e5, vi, rfl, e6⟩ := h2.get hi
  exact ⟨b, o, cap, vi, e1, e2, e3, by rw [e4 _ _ (by omega)]; exact e5, e6⟩
def vaB (b : Bx) : Bool := decide (1 ≤ b.room ∧ b.room ≤ 4 ∧ b.items.length ≤ b.room) && b.items.all isW
def vaBs (l : List Bx) : Bool := l.all vaB && decide (l.length ≤ 3)
def vaT (boxes : Int) (t : Tk) : Bool := decide (t.vars.length = 4) && t.vars.all isW && t.rest.list.all fun s => vaS boxes (Sts.of [s])
section
variable {ok : Nat → Prop} {H : AH} {K : AV → AH → Prop} {w : Fk K} {c : List AV} {x : Bx}
theorem K_iBoxValid (h : BC ok H c x) (k : K (.b (vaB x)) (H.push c)) : CallF Cd f_iBoxValid [.agg c] H K w := by
  obtain ⟨vi, rfl, h1⟩ := h
  rw [CallF_eq e_iBoxValid rfl]
  have ha := h1.alen
  have hb := h1.1
  have hw := (h1.ext (Ext.push H [.I x.room, vi])).sees
  unfold vaB at k
  generalize x.items.length = m at *
  by_cases c1 : 1 ≤ x.room <;> by_cases c2 : x.room ≤ 4 <;> by_cases c3 : (m : Int) ≤ x.room <;> simp (disch := omega) [load_push, ha, c1, c2, c3, K_iareWords hw] <;> simpa [c1, c2, c3] using k
theorem K_sBoxValid (h : BC ok H c x) (k : K (.b (vaB x)) (H.push c)) : CallF Cd f_sBoxValid [.agg c] H K w := by
  obtain ⟨vi, rfl, h1⟩ := h
  rw [CallF_eq e_sBoxValid rfl]
  have ha := h1.alen
  have hb := h1.1
  have hw := (h1.ext (Ext.push H [.I x.room, vi])).sees
  unfold vaB at k
  have hww := fun (K : AV → AH → Prop) (w : Fk K) => K_sl4Words (K := K) (w := w) (n := x.items.length) hw
  simp at hww
  generalize x.items.length = m at *
  by_cases c1 : 1 ≤ x.room <;> by_cases c2 : x.room ≤ 4 <;> by_cases c3 : (m : Int) ≤ x.room <;> simp (disch := omega) [load_push, ha, c1, c2, c3, hww, K_sl6In] <;> simpa [c1, c2, c3] using k
end
end Go.Proofs.YtcibjklpaljadaaGreat.AM
namespace Go.Proofs.YtcibjklpaljadaaGreat.AM
set_option linter.unusedSimpArgs false
set_option linter.unusedVariables false
set_option maxRecDepth 100000
set_option maxHeartbeats 2000000
open Go
def cpS : Sts → Bool
  | .nil => true
  | .cons _ _ _ e y z r => cpE e && cpS y && cpS z && cpS r
def cpT (s : St1) : Bool := cpE s.e && cpS s.body && cpS s.els
theorem cpS_mem : ∀ {f : Sts}, cpS f = f.list.all cpT
  | .nil => rfl
  | .cons k v b e y z r => by simp only [cpS, Sts.list, List.all_cons, cpS_mem (f := r)]; rfl
theorem cpE_args {e : Ex} (h : cpE e = true) : e.args.list.length ≤ 1000 ∧ smE e.args = true := by
  have := smE_of_cp (f := .cons e.op e.n e.args .nil) (by simp only [cpF, Bool.and_true]; exact h)
  simp [smE] at this
  exact this
theorem cpE_of_pl {e : Ex} (h : plE e = true) : cpE e = true := by
  unfold plE at h
  simp at h
  unfold cpE cpE1
  simp [h]
theorem cpE_of_st {boxes nest k v b : Int} {e : Ex} {ny nz : Nat} {sy sz : Bool} (h : okS1 boxes nest k v b e ny nz sy sz = true) : cpE e = true := by
  unfold okS1 at h
  simp only [Bool.and_eq_true] at h
  have h := h.1
  unfold stV at h
  have a1 : okE 5 e = true → cpE e = true := cpE_of_ok
  have a2 : plE e = true → cpE e = true := cpE_of_pl
  by_cases k1 : k = 1
  · simp [k1] at h; exact a1 h.2
  by_cases k2 : k = 2
  · simp [k2] at h; exact a1 h.2
  by_cases k3 : k = 3
  · simp [k3] at h; exact a1 h.2
  by_cases k4 : k = 4
  · simp [k4] at h; exact a1 h.2
  by_cases k5 : k = 5
  · simp [k5] at h; exact a2 h.2
  by_cases k6 : k = 6
  · simp [k6] at h; exact a2 h.2
  by_cases k7 : k = 7
  · simp [k7] at h; exact a1 h.2
  simp [k1, k2, k3, k4, k5, k6, k7] at h
theorem cp_of_okS {boxes : Int} : ∀ {f : Sts} {nest : Int}, okS boxes nest f = true → cpS f = true
  | .nil, _, _ => rfl
  | .cons k v b e y z r, nest, h => by
    simp only [okS, Bool.and_eq_true] at h
    have h1 := cpE_of_st h.1
    have h2 := cp_of_okS h.2
    have h3 := h.1
    unfold okS1 at h3
    simp only [Bool.and_eq_true, Bool.or_eq_true, decide_eq_true_eq] at h3
    simp only [cpS, Bool.and_eq_true]
    rcases h3.2 with q | q
    · have := stV_leaf h3.1 q.1 q.2
      have e1 : y = .nil := by rw [← Sts.of_list y, List.eq_nil_of_length_eq_zero this.1]; rfl
      have e2 : z = .nil := by rw [← Sts.of_list z, List.eq_nil_of_length_eq_zero this.2]; rfl
      subst e1 e2
      exact ⟨⟨⟨h1, rfl⟩, rfl⟩, h2⟩
    · exact ⟨⟨⟨h1, cp_of_okS q.1.2⟩, cp_of_okS q.2⟩, h2⟩
theorem GrS.sl {base G v n sz cs B} (h : GrS base G v n sz cs B) : SlC (fun b => base ≤ b) G v n sz cs := h.slc
theorem GrS.sv {base G v cs B} {f : Sts} (h : GrS base G v f.list.length 8 cs B) (k : SF (fun b => base ≤ b ∧ b ≠ B) G f cs) : SV (fun b => base ≤ b) G v f :=
  ⟨cs, h.slc, k.mono (Nat.le_refl _) (fun _ _ _ => rfl) (fun _ h _ => h.1)⟩
theorem LF.snoc {α : Type} {sz : Nat} {E : (Nat → Prop) → AH → List AV → α → Prop} (mono : ∀ {ok ok' : Nat → Prop} {H H' : AH} {c a}, E ok H c a → H.n ≤ H'.n → (∀ b, ok b → b < H.n → H'.bk b = H.bk b) → (∀ b, ok b → b < H.n → ok' b) → E ok' H' c a)
    {base B : Nat} {G G1 : AH} {g : AV} {l : List α} {i : Nat} {x : α} {cs c : List AV} (hs : l[i]? = some x) (hg : GrS base G g i sz cs B) (he : LF sz (E (fun b => base ≤ b ∧ b ≠ B) G) (l.take i) cs)
    (hb : base ≤ G.n) (x1 : Ext G G1) (hc : c.length = sz) (hx : E (fun b => G.n ≤ b) G1 c x) (hi : i < 100000000) :
    ∃ g' G' B', aapp G1 sz g 1 c = some (g', G') ∧ GrS base G' g' (i + 1) sz (cs ++ c) B' ∧ LF sz (E (fun b => base ≤ b ∧ b ≠ B') G') (l.take (i + 1)) (cs ++ c) ∧ (∀ b, b < base → G'.bk b = G.bk b) ∧ G1.n ≤ G'.n ∧ g'.flat = true := by
  obtain ⟨g', G', B', a1, a2, a3, a4⟩ := (hg.ext x1).app (k := 1) (new := c) (by have := x1.1; omega) (by omega) (by omega)
  have hm : ∀ b, b ∈ grB g B → b = B ∧ base ≤ B ∧ B < G.n := fun b hb => hg.mem hb
  have hB : (B' = B ∧ base ≤ B ∧ B < G.n) ∨ G1.n = B' := by
    rcases a3 with q | q
    · exact .inl ⟨q.1, (hm _ q.2).2⟩
    · exact .inr q.symm
  have n1 := x1.1
  refine ⟨g', G', B', a1, a2, ?_, fun b hb' => ?_, a4.1, a2.flat⟩
  · rw [take_snoc hs]
    refine LF.app (he.imp fun c a h => mono h (by have := a4.1; omega) (fun b hb' h1 => ?_) (fun b hb' h1 => ⟨hb'.1, by omega⟩)) (LF.one (mono hx a4.1 (fun b hb' h1 => a4.2 b h1 (fun hm' => by have := hm b hm'; omega)) (fun b hb' h1 => by omega)) hc)
    rw [a4.2 b (by omega) (fun hm' => hb'.2 (hm b hm').1), x1.2 b h1]
  · rw [a4.2 b (by omega) (fun hm' => by have := hm b hm'; omega), x1.2 b (by omega)]
def CopyS (g : FuncId) (f : Sts) : Prop := ∀ {ok : Nat → Prop} {H : AH} {K : AV → AH → Prop} {w : Fk K} {v : AV}, SV ok H v f → cpS f = true → ctS f ≤ 10000000 →
    (∀ v' H' cs B, GrS H.n H' v' f.list.length 8 cs B → SF (fun b => H.n ≤ b ∧ b ≠ B) H' f cs → Ext H H' → K v' H') → CallF Cd g [v] H K w
theorem K_sl11Copy_l {f : Sts} (ih : ∀ s ∈ f.list, CopyS f_sl11Copy s.body ∧ CopyS f_sl11Copy s.els) (hcp : cpS f = true) (hct : ctS f ≤ 10000000) {base : Nat} {v : AV}
    {Q : Out → Env → AH → Prop} (m i : Nat) (him : i + m = f.list.length) {G : AH} {g : AV} {cs : List AV} {B : Nat} (hb : base ≤ G.n) (hv : SV (fun b => b < base) G v f) (hg : GrS base G g i 8 cs B)
    (he : LF 8 (S1 (fun b => base ≤ b ∧ b ≠ B) G) (f.list.take i) cs)
    (hQ : ∀ G' g' cs' B', GrS base G' g' f.list.length 8 cs' B' → SF (fun b => base ≤ b ∧ b ≠ B') G' f cs' → (∀ b, b < base → G'.bk b = G.bk b) → G.n ≤ G'.n → Q (.brk 0) [(0, v), (3, g'), (4, .I f.list.length), (10, .b false)] G') :
    W Cd (.loop c_sl11Copy_l0) [(0, v), (3, g), (4, .I i)] G Q := by
  have hlc := len_ctS (f := f)
  induction m generalizing i G g cs B with
  | zero =>
    rw [W_loop_as c_sl11Copy_l0.eq_1]
    have hi : i = f.list.length := by omega
    subst hi
    have := hv.big
    simp [hv.alen]
    rw [List.take_length] at he
    exact hQ G g cs B hg (SF_LF.2 he) (fun _ _ => rfl) (Nat.le_refl _)
  | succ m ihm =>
    rw [W_loop_as c_sl11Copy_l0.eq_1]
    have hi : i < f.list.length := by omega
    obtain ⟨s, hs⟩ : ∃ s, f.list[i]? = some s := ⟨_, List.getElem?_eq_getElem hi⟩
    have hmem := List.mem_of_getElem? hs
    have hbig := hv.big
    obtain ⟨b, o, cap, c, rfl, ob, hbn, l1, s1⟩ := hv.at hs
    obtain ⟨va, vy, vz, rfl, ea, ey, ez⟩ := s1
    have hcm := ctS_mem hmem
    have hcps : cpT s = true := by rw [cpS_mem] at hcp; exact List.all_eq_true.1 hcp s hmem
    unfold cpT at hcps
    simp only [Bool.and_eq_true] at hcps
    generalize hL : f.list.length = L at *
    have hlt : (i : Int) < L := by omega
    have q0 : (G.push [.I s.k, .I s.v, .I s.b, .I s.e.op, .I s.e.n, va, vy, vz]).bk G.n = some ⟨[.I s.k, .I s.v, .I s.b, .I s.e.op, .I s.e.n, va, vy, vz], true⟩ := push_new
    have x0 := Ext.push G [.I s.k, .I s.v, .I s.b, .I s.e.op, .I s.e.n, va, vy, vz]
    simp (disch := omega) [hlt, l1, AH.store, push_put, loadN_bk q0]
    refine K_sl4Copy s.e.args (ea.ext x0) hcps.1.1 fun va' H1 d1 x1 => ?_
    have q1 := (x1.2 G.n (by simp)).trans q0
    have n1 := x1.1
    simp only [push_n] at n1
    have st1 : H1.store G.n 3 [.I s.e.op, .I s.e.n, va'] = some (H1.put G.n (some ⟨[.I s.k, .I s.v, .I s.b, .I s.e.op, .I s.e.n, va', vy, vz], true⟩)) := store_bk q1 (by simp)
    have p1 : (H1.put G.n (some ⟨[.I s.k, .I s.v, .I s.b, .I s.e.op, .I s.e.n, va', vy, vz], true⟩)).bk G.n = _ := put_same
    have y1 : Ext G (H1.put G.n (some ⟨[.I s.k, .I s.v, .I s.b, .I s.e.op, .I s.e.n, va', vy, vz], true⟩)) := (x0.trans x1).put (Nat.le_refl _)
    have d1' := (d1.ev.up (base' := G.n + 1) (by simp)).mono (H' := H1.put G.n (some ⟨[.I s.k, .I s.v, .I s.b, .I s.e.op, .I s.e.n, va', vy, vz], true⟩)) (ok' := fun b => G.n + 1 ≤ b) (Nat.le_refl _) (fun b hb' _ => by rw [put_bk, if_neg (by omega)]) (fun _ h _ => h)
    generalize hH2 : H1.put G.n (some ⟨[.I s.k, .I s.v, .I s.b, .I s.e.op, .I s.e.n, va', vy, vz], true⟩) = H2 at *
    have n2 : H1.n = H2.n := by rw [← hH2]; rfl
    simp (disch := omega) [st1, load_bk p1]
    refine (ih s hmem).1 (ey.ext y1) hcps.1.2 (by omega) fun vy' H3 csy By gy sy x3 => ?_
    have q3 := (x3.2 G.n (by omega)).trans p1
    have n3 := x3.1
    have fy := gy.flat
    have st3 : H3.store G.n 6 [vy'] = some (H3.put G.n (some ⟨[.I s.k, .I s.v, .I s.b, .I s.e.op, .I s.e.n, va', vy', vz], true⟩)) := store_bk q3 (by simp)
    have p3 : (H3.put G.n (some ⟨[.I s.k, .I s.v, .I s.b, .I s.e.op, .I s.e.n, va', vy', vz], true⟩)).bk G.n = _ := put_same
    have y3 : Ext G (H3.put G.n (some ⟨[.I s.k, .I s.v, .I s.b, .I s.e.op, .I s.e.n, va', vy', vz], true⟩)) := (y1.trans x3).put (Nat.le_refl _)
    have d3 := (d1'.ext x3).mono (H' := H3.put G.n (some ⟨[.I s.k, .I s.v, .I s.b, .I s.e.op, .I s.e.n, va', vy', vz], true⟩)) (ok' := fun b => G.n + 1 ≤ b) (Nat.le_refl _) (fun b hb' _ => by rw [put_bk, if_neg (by omega)]) (fun _ h _ => h)
    have e3 := (gy.sv sy).mono (H' := H3.put G.n (some ⟨[.I s.k, .I s.v, .I s.b, .I s.e.op, .I s.e.n, va', vy', vz], true⟩)) (ok' := fun b => G.n + 1 ≤ b) (Nat.le_refl _) (fun b hb' _ => by rw [put_bk, if_neg (by omega)]) (fun b h _ => by omega)
    generalize hH4 : H3.put G.n (some ⟨[.I s.k, .I s.v, .I s.b, .I s.e.op, .I s.e.n, va', vy', vz], true⟩) = H4 at *
    have n4 : H3.n = H4.n := by rw [← hH4]; rfl
    simp (disch := omega) [flat_cells fy, flat_tup fy, st3, load_bk p3]
    refine (ih s hmem).2 (ez.ext y3) hcps.2 (by omega) fun vz' H5 csz Bz gz sz x5 => ?_
    have q5 := (x5.2 G.n (by omega)).trans p3
    have n5 := x5.1
    have fz := gz.flat
    have st5 : H5.store G.n 7 [vz'] = some (H5.put G.n (some ⟨[.I s.k, .I s.v, .I s.b, .I s.e.op, .I s.e.n, va', vy', vz'], true⟩)) := store_bk q5 (by simp)
    have p5 : (H5.put G.n (some ⟨[.I s.k, .I s.v, .I s.b, .I s.e.op, .I s.e.n, va', vy', vz'], true⟩)).bk G.n = _ := put_same
    have y5 : Ext G (H5.put G.n (some ⟨[.I s.k, .I s.v, .I s.b, .I s.e.op, .I s.e.n, va', vy', vz'], true⟩)) := (y3.trans x5).put (Nat.le_refl _)
    have hk5 : ∀ b, G.n + 1 ≤ b → b < H5.n → (H5.put G.n (some ⟨[.I s.k, .I s.v, .I s.b, .I s.e.op, .I s.e.n, va', vy', vz'], true⟩)).bk b = H5.bk b := fun b hb' _ => by rw [put_bk, if_neg (by omega)]
    have d5 := (d3.ext x5).mono (H' := H5.put G.n (some ⟨[.I s.k, .I s.v, .I s.b, .I s.e.op, .I s.e.n, va', vy', vz'], true⟩)) (ok' := fun b => G.n ≤ b) (Nat.le_refl _) hk5 (fun b h _ => by omega)
    have e5 := (e3.ext x5).mono (H' := H5.put G.n (some ⟨[.I s.k, .I s.v, .I s.b, .I s.e.op, .I s.e.n, va', vy', vz'], true⟩)) (ok' := fun b => G.n ≤ b) (Nat.le_refl _) hk5 (fun b h _ => by omega)
    have f5 := (gz.sv sz).mono (H' := H5.put G.n (some ⟨[.I s.k, .I s.v, .I s.b, .I s.e.op, .I s.e.n, va', vy', vz'], true⟩)) (ok' := fun b => G.n ≤ b) (Nat.le_refl _) (fun b h h' => hk5 b (by omega) h') (fun b h _ => by omega)
    generalize hH6 : H5.put G.n (some ⟨[.I s.k, .I s.v, .I s.b, .I s.e.op, .I s.e.n, va', vy', vz'], true⟩) = H6 at *
    have n6 : H5.n = H6.n := by rw [← hH6]; rfl
    have x7 := Ext.push H6 [.I s.k, .I s.v, .I s.b, .I s.e.op, .I s.e.n, va', vy', vz']
    obtain ⟨g', G', B', a1, a2, a3, a4, a5, a6⟩ := LF.snoc (E := S1) (fun h => h.mono) hs hg he hb (y5.trans x7) rfl
      (show S1 (fun b => G.n ≤ b) (H6.push [.I s.k, .I s.v, .I s.b, .I s.e.op, .I s.e.n, va', vy', vz']) [.I s.k, .I s.v, .I s.b, .I s.e.op, .I s.e.n, va', vy', vz'] s from ⟨va', vy', vz', rfl, d5.ext x7, e5.ext x7, f5.ext x7⟩) (by omega)
    simp (disch := omega) [flat_cells fz, flat_tup fz, st5, loadN_bk p5, loadN_push, a1]
    simp only [push_n] at a5
    have := ihm (i + 1) (by omega) (G := G') (by omega) (hv.mono (by omega) (fun b hb' _ => a4 b hb') (fun _ h _ => h)) a2 a3 (fun G2 g2 cs2 B2 u1 u2 u3 u4 => hQ G2 g2 cs2 B2 u1 u2 (fun b hb' => (u3 b hb').trans (a4 b hb')) (by omega))
    simpa using this
theorem K_sl11Copy (f : Sts) : CopyS f_sl11Copy f := by
  induction f using Sts.ind with
  | h f ih =>
  intro ok H K w v h hcp hct k
  rw [CallF_eq e_sl11Copy rfl]
  simp
  have x0 := Ext.push H []
  have := K_sl11Copy_l ih hcp hct (Q := ?_) f.list.length 0 (by omega) (base := H.n) (G := H.push []) (g := .sl H.n 0 0 (.ex 0)) (cs := []) (B := H.n) (v := v) (by simp)
    (h.mono (by simp) (fun b _ hb => x0.2 b hb) (fun b _ hb => hb)) (GrS.new (Nat.le_refl _) (by omega) (by simp)) rfl ?_
  · simpa using this
  · intro G g cs B u1 u2 u3 u4
    simp
    exact k g G cs B u1 u2 ⟨by simp at u4; omega, fun b hb => (u3 b hb).trans (x0.2 b hb)⟩
end Go.Proofs.YtcibjklpaljadaaGreat.AM
namespace Go.Proofs.YtcibjklpaljadaaGreat.AM
set_option linter.unusedSimpArgs false
set_option linter.unusedVariables false
set_option maxRecDepth 100000
set_option maxHeartbeats 2000000
open Go
def CopyB (g : FuncId) (l : List Bx) : Prop := ∀ {ok : Nat → Prop} {H : AH} {K : AV → AH → Prop} {w : Fk K} {v : AV}, BV ok H v l → l.length ≤ 1000 →
    (∀ v' H' cs B, GrS H.n H' v' l.length 2 cs B → LF 2 (BC (fun b => H.n ≤ b ∧ b ≠ B) H') l cs → Ext H H' → K v' H') → CallF Cd g [v] H K w
theorem app_newG {H : AH} {b : Nat} {l : List Int} (hb : H.bk b = some ⟨[], true⟩) (hbn : b < H.n) {base : Nat} (hbb : base ≤ b) (hl : l.length ≤ 100000000) : ∃ v H' B, aapp H 1 (.sl b 0 0 (.ex 0)) l.length (Ints l) = some (v, H') ∧ Ext H H' ∧ GrS base H' v l.length 1 (Ints l) B ∧ v.flat = true ∧ (B = b ∨ B = H.n) := by
  by_cases h0 : l.length = 0
  · have : l = [] := List.eq_nil_of_length_eq_zero h0
    subst this
    exact ⟨.sl b 0 0 (.ex 0), H, b, by simp [aapp], Ext.refl _, ⟨by simp, rfl, .inr ⟨hbb, hbn, .inl ⟨rfl, hb⟩⟩⟩, rfl, .inl rfl⟩
  · refine ⟨.sl H.n 0 l.length (.lb l.length 1), H.push (Ints l), H.n, ?_, Ext.push _ _, ⟨hl, by rw [Ints_len]; omega, .inr ⟨by omega, Nat.lt_succ_self _, .inr ⟨l.length, [], rfl, Nat.le_refl _, by simp, by rw [List.append_nil]; exact push_new⟩⟩⟩, rfl, .inr rfl⟩
    unfold aapp
    simp only [if_neg h0, Nat.zero_add, Nat.zero_mul]
    rw [if_neg (show ¬ big < l.length by unfold big; omega)]
    have hs : H.loadN b 0 0 = some [] := by rw [loadN_bk hb]; rfl
    simp only [hs, List.nil_append]
    rw [if_neg (by omega)]
theorem GrS.iv {base G v l B} (h : GrS base G v l.length 1 (Ints l) B) : IV (fun b => base ≤ b) G v l := h.slc
theorem GrS.ivB {base G v n sz cs B} (h : GrS base G v n sz cs B) {ok : Nat → Prop} (hok : base ≤ B → B < G.n → ok B) : SlC ok G v n sz cs := by
  obtain ⟨h1, h2, h3⟩ := h
  refine ⟨by omega, h2, ?_⟩
  rcases h3 with ⟨rfl, h4⟩ | ⟨h4, h5, ⟨rfl, h6⟩ | ⟨c, ex, rfl, h7, h8, h9⟩⟩
  · exact .inl ⟨h4, .inl rfl⟩
  · exact .inr ⟨B, 0, _, rfl, ⟨hok h4 h5, Nat.le_refl _⟩, h5, by rw [loadN_bk h6]; exact seg_self h2⟩
  · exact .inr ⟨B, 0, _, rfl, ⟨hok h4 h5, h7, rfl⟩, h5, by rw [loadN_bk h9]; exact seg_app h2⟩
theorem K_cloneG {H : AH} {K : AV → AH → Prop} {w : Fk K} {v : AV} {l : List Int} (h : Src H v l) (hl : l.length ≤ 100000000) (k : ∀ v' H' B, GrS H.n H' v' l.length 1 (Ints l) B → Ext H H' → K v' H') : CallF Cd f_slices_Clone_int_int [v] H K w := by
  rw [CallF_eq e_slices_Clone_int_int rfl]
  have e1 := (h.ext (Ext.push H [])).elems
  have e2 := h.sees.1
  obtain ⟨h0, ⟨rfl, rfl⟩ | h'⟩ := h
  · simp
    exact k _ H 0 GrS.nils (Ext.refl _)
  · obtain ⟨v', H', B, a1, a2, a3, a4, _⟩ := app_newG (l := l) (push_new (H := H) (cs := [])) (Nat.lt_succ_self _) (Nat.le_refl _) hl
    rcases h' with ⟨rfl, rfl⟩ | ⟨b1, o1, c1, rfl, _⟩
    · simp only [List.length_nil] at a1
      simp [-AM.elems, e1, e2, a1]
      exact k _ _ B a3 ((Ext.push _ _).trans a2)
    · simp [-AM.elems, e1, e2, a1]
      exact k _ _ B a3 ((Ext.push _ _).trans a2)
theorem K_sl15BoxesCopy_l {l : List Bx} (hll : l.length ≤ 1000) (hit : ∀ x ∈ l, x.items.length ≤ 100000000) {base : Nat} {v : AV}
    {Q : Out → Env → AH → Prop} (m i : Nat) (him : i + m = l.length) {G : AH} {g : AV} {cs : List AV} {B : Nat} (hb : base ≤ G.n) (hv : BV (fun b => b < base) G v l) (hg : GrS base G g i 2 cs B)
    (he : LF 2 (BC (fun b => base ≤ b ∧ b ≠ B) G) (l.take i) cs)
    (hQ : ∀ G' g' cs' B', GrS base G' g' l.length 2 cs' B' → LF 2 (BC (fun b => base ≤ b ∧ b ≠ B') G') l cs' → (∀ b, b < base → G'.bk b = G.bk b) → G.n ≤ G'.n → Q (.brk 0) [(0, v), (3, g'), (4, .I l.length), (9, .b false)] G') :
    W Cd (.loop c_sl15BoxesCopy_l0) [(0, v), (3, g), (4, .I i)] G Q := by
  induction m generalizing i G g cs B with
  | zero =>
    rw [W_loop_as c_sl15BoxesCopy_l0.eq_1]
    have hi : i = l.length := by omega
    subst hi
    have := hv.big
    simp [hv.alen]
    rw [List.take_length] at he
    exact hQ G g cs B hg he (fun _ _ => rfl) (Nat.le_refl _)
  | succ m ihm =>
    rw [W_loop_as c_sl15BoxesCopy_l0.eq_1]
    have hi : i < l.length := by omega
    obtain ⟨s, hs⟩ : ∃ s, l[i]? = some s := ⟨_, List.getElem?_eq_getElem hi⟩
    have hmem := List.mem_of_getElem? hs
    obtain ⟨b, o, cap, vi, rfl, ob, hbn, l1, iv⟩ := hv.at hs
    generalize hL : l.length = L at *
    have hlt : (i : Int) < L := by omega
    have x0 := Ext.push G []
    have g0 := loadN_get l1 (i := 0) (by omega)
    have g1 := loadN_get (loadN_extE l1 x0 hbn) (i := 1) (by omega)
    simp at g0 g1
    obtain ⟨v', H1, B1, b1, x1, g2, f1, _⟩ := app_newG (l := s.items) (push_new (H := G) (cs := [])) (Nat.lt_succ_self _) (Nat.le_refl _) (hit s hmem)
    have x7 := Ext.push H1 [.I s.room, v']
    have e1 := (iv.ext x0).src.elems
    have e2 := iv.sees.1
    have fl := iv.src.flat
    obtain ⟨g', G', B', a1, a2, a3, a4, a5, a6⟩ := LF.snoc (E := BC) (fun h => h.mono) hs hg he hb ((x0.trans x1).trans x7) rfl
      (show BC (fun b => G.n ≤ b) (H1.push [.I s.room, v']) [.I s.room, v'] s from ⟨v', rfl, IV.ext g2.iv x7⟩) (by omega)
    have n1 := x1.1
    simp only [push_n] at n1 a5
    simp (disch := omega) [-AM.elems, hlt, g0, g1, e1, e2, b1, x1, flat_cells f1, flat_tup f1]
    simp (disch := omega) [loadN_push, a1]
    have := ihm (i + 1) (by omega) (G := G') (by omega) (hv.mono (by omega) (fun b hb' _ => a4 b hb') (fun _ h _ => h)) a2 a3 (fun G2 g2 cs2 B2 u1 u2 u3 u4 => hQ G2 g2 cs2 B2 u1 u2 (fun b hb' => (u3 b hb').trans (a4 b hb')) (by omega))
    simpa using this
theorem K_sl15BoxesCopy (l : List Bx) (hit : ∀ x ∈ l, x.items.length ≤ 100000000) : CopyB f_sl15BoxesCopy l := by
  intro ok H K w v h hl k
  rw [CallF_eq e_sl15BoxesCopy rfl]
  simp
  have x0 := Ext.push H []
  have := K_sl15BoxesCopy_l hl hit (Q := ?_) l.length 0 (by omega) (base := H.n) (G := H.push []) (g := .sl H.n 0 0 (.ex 0)) (cs := []) (B := H.n) (v := v) (by simp)
    (h.mono (by simp) (fun b _ hb => x0.2 b hb) (fun b _ hb => hb)) (GrS.new (Nat.le_refl _) (by omega) (by simp)) rfl ?_
  · simpa using this
  · intro G g cs B u1 u2 u3 u4
    simp
    exact k g G cs B u1 u2 ⟨by simp at u4; omega, fun b hb => (u3 b hb).trans (x0.2 b hb)⟩
theorem K_sl15Copy {ok : Nat → Prop} {H : AH} {K : AV → AH → Prop} {w : Fk K} {c : List AV} {t : Tk} (h : TC ok H c t) (hcp : cpS t.rest = true) (hct : ctS t.rest ≤ 10000000) (hvl : t.vars.length ≤ 1000)
    (k : ∀ c' H', TC (fun b => H.n ≤ b) H' c' t → Ext H H' → K (.agg c') H') : CallF Cd f_sl15Copy [.agg c] H K w := by
  obtain ⟨vv, vr, rfl, h1, h2⟩ := h
  rw [CallF_eq e_sl15Copy rfl]
  have x0 : Ext H (((H.push [vv, vr]).push [.nils, .nils]).push []) := ((Ext.push _ _).trans (Ext.push _ _)).trans (Ext.push _ _)
  obtain ⟨v', H1, B1, b1, x1, g2, f1, _⟩ := app_newG (l := t.vars) (H := ((H.push [vv, vr]).push [.nils, .nils]).push []) (push_new (cs := [])) (Nat.lt_succ_self _) (base := H.n) (by simp; omega) (by omega)
  have e1 := (h1.ext x0).src.elems
  have e2 := h1.sees.1
  have n1 := x1.1
  simp only [push_n] at n1
  have q0 : H1.bk H.n = some ⟨[vv, vr], true⟩ := (x1.2 H.n (by simp; omega)).trans (push_old (by simp; omega) (push_old (by simp) push_new))
  have q1 : H1.bk (H.n + 1) = some ⟨[.nils, .nils], true⟩ := (x1.2 (H.n + 1) (by simp)).trans (push_old (by simp) push_new)
  simp only [push_n] at b1
  simp (disch := omega) [-AM.elems, load_push, e1, e2, b1, x1, load_bk q0]
  refine K_sl11Copy t.rest (h2.ext (x0.trans x1)) hcp hct fun vr' H2 cs B u1 u2 x2 => ?_
  have q2 := (x2.2 (H.n + 1) (by omega)).trans q1
  have fr := u1.flat
  have st : H2.store (H.n + 1) 0 [v', vr'] = some (H2.put (H.n + 1) (some ⟨[v', vr'], true⟩)) := store_bk q2 (by simp)
  simp (disch := omega) [x2, flat_cells f1, flat_tup f1, flat_cells fr, flat_tup fr, st, loadN_bk put_same]
  have n2 := x2.1
  have hB1 : B1 ≠ H.n + 1 := by
    rename_i hB
    simp only [push_n] at hB
    omega
  refine k _ _ ⟨v', vr', rfl, ?_, ?_⟩ (((x0.trans x1).trans x2).put (by omega))
  · have := (g2.ext x2).ivB (ok := fun b => H.n ≤ b ∧ b ≠ H.n + 1) (fun h _ => ⟨h, hB1⟩)
    exact SlC.mono this (Nat.le_refl _) (fun b hb _ => by rw [put_bk, if_neg hb.2]) (fun _ h _ => h.1)
  · exact (u1.sv u2).mono (Nat.le_refl _) (fun b hb _ => by rw [put_bk, if_neg (by omega)]) (fun _ h _ => by omega)
end Go.Proofs.YtcibjklpaljadaaGreat.AM
namespace Go.Proofs.YtcibjklpaljadaaGreat.AM
set_option linter.unusedSimpArgs false
set_option linter.unusedVariables false
set_option maxRecDepth 100000
set_option maxHeartbeats 2000000
open Go
theorem all_dropB {α : Type} {l : List α} {p : α → Bool} {i : Nat} {s : α} (h : l[i]? = some s) : (l.drop i).all p = (p s && (l.drop (i + 1)).all p) := by
  obtain ⟨hi, rfl⟩ := List.getElem?_eq_some_iff.1 h
  rw [List.drop_eq_getElem_cons hi, List.all_cons]
theorem K_iboxesValid_l {l : List Bx} {ok : Nat → Prop} {K : AV → AH → Prop} {v : AV} {Q : Out → Env → AH → Prop} (h1 : ∀ G, BV ok G v l → Q (.brk 0) [(8, .b false), (0, v), (5, v), (6, .I l.length), (7, .I l.length)] G = K (.b (decide (l.length ≤ 3))) G) (h2 : ∀ e H, Q .ret e H = bindO (get e 2) fun v => K v H)
    (m i : Nat) (hm : i + m = l.length) {H : AH} (h : BV ok H v l) (k : ∀ H', Ext H H' → K (.b ((l.drop i).all vaB && decide (l.length ≤ 3))) H') :
    W Cd (.loop c_iboxesValid_l0) [(0, v), (5, v), (6, .I l.length), (7, .I i)] H Q := by
  induction m generalizing i H with
  | zero =>
    rw [W_loop_as c_iboxesValid_l0.eq_1]
    have hi : i = l.length := by omega
    subst hi
    have := k H (Ext.refl _)
    rw [List.drop_length] at this
    simp
    rw [h1 H h]
    simpa using this
  | succ m ihm =>
    rw [W_loop_as c_iboxesValid_l0.eq_1]
    have hi : i < l.length := by omega
    obtain ⟨s, hs⟩ : ∃ s, l[i]? = some s := ⟨_, List.getElem?_eq_getElem hi⟩
    have hbig := h.big
    obtain ⟨b, o, cap, vi, rfl, ob, hbn, l1, iv⟩ := h.at hs
    rw [all_dropB hs] at k
    generalize hL : l.length = L at *
    have hlt : (i : Int) < L := by omega
    have x0 := Ext.push H [.I s.room, vi]
    simp (disch := omega) [hlt, l1, AH.store, push_put, loadN_push]
    refine K_iBoxValid (x := s) ⟨vi, rfl, iv.ext x0⟩ ?_
    have x1 := x0.trans (Ext.push (H.push [.I s.room, vi]) [.I s.room, vi])
    cases hok : vaB s with
    | false =>
      simp [h2]
      rw [hok] at k
      exact k _ x1
    | true =>
      rw [hok, Bool.true_and] at k
      simp (disch := omega)
      have := ihm (i + 1) (by omega) (h.ext x1) (fun H' x => k H' (x1.trans x))
      simpa using this
theorem K_sl15Boxes_l {l : List Bx} {ok : Nat → Prop} {K : AV → AH → Prop} {v : AV} {Q : Out → Env → AH → Prop} (h1 : ∀ G, BV ok G v l → Q (.brk 0) [(0, v), (3, .I l.length), (7, .b false)] G = K (.b (decide (l.length ≤ 3))) G) (h2 : ∀ e H, Q .ret e H = bindO (get e 2) fun v => K v H)
    (m i : Nat) (hm : i + m = l.length) {H : AH} (h : BV ok H v l) (k : ∀ H', Ext H H' → K (.b ((l.drop i).all vaB && decide (l.length ≤ 3))) H') :
    W Cd (.loop c_sl15Boxes_l0) [(0, v), (3, .I i)] H Q := by
  induction m generalizing i H with
  | zero =>
    rw [W_loop_as c_sl15Boxes_l0.eq_1]
    have hi : i = l.length := by omega
    subst hi
    have := k H (Ext.refl _)
    rw [List.drop_length] at this
    have hbig := h.big
    simp [h.alen]
    rw [h1 H h]
    simpa using this
  | succ m ihm =>
    rw [W_loop_as c_sl15Boxes_l0.eq_1]
    have hi : i < l.length := by omega
    obtain ⟨s, hs⟩ : ∃ s, l[i]? = some s := ⟨_, List.getElem?_eq_getElem hi⟩
    have hbig := h.big
    obtain ⟨b, o, cap, vi, rfl, ob, hbn, l1, iv⟩ := h.at hs
    rw [all_dropB hs] at k
    generalize hL : l.length = L at *
    have hlt : (i : Int) < L := by omega
    have x1 := Ext.push H [.I s.room, vi]
    simp (disch := omega) [hlt, l1]
    refine K_sBoxValid (x := s) ⟨vi, rfl, iv⟩ ?_
    cases hok : vaB s with
    | false =>
      simp [h2]
      rw [hok] at k
      exact k _ x1
    | true =>
      rw [hok, Bool.true_and] at k
      simp (disch := omega)
      have := ihm (i + 1) (by omega) (h.ext x1) (fun H' x => k H' (x1.trans x))
      simpa using this
theorem dec_nat3 {n : Nat} : decide ((n : Int) ≤ 3) = decide (n ≤ 3) := by
  by_cases h : n ≤ 3
  · have : (n : Int) ≤ 3 := by omega
    simp [h, this]
  · have : ¬ (n : Int) ≤ 3 := by omega
    simp [h, this]
section
variable {ok : Nat → Prop} {H : AH} {K : AV → AH → Prop} {w : Fk K} {v : AV} {l : List Bx}
theorem K_iboxesValid (h : BV ok H v l) (k : ∀ H', Ext H H' → K (.b (vaBs l)) H') : CallF Cd f_iboxesValid [v] H K w := by
  rw [CallF_eq e_iboxesValid rfl]
  have hbig := h.big
  simp (disch := omega) [h.alen]
  have := K_iboxesValid_l (K := K) (l := l) (Q := ?_) ?_ ?_ l.length 0 (by omega) h k
  · simpa using this
  · intro G hG; simp [hG.alen, dec_nat3]
  · intros; simp
theorem K_sl15Boxes (h : BV ok H v l) (k : ∀ H', Ext H H' → K (.b (vaBs l)) H') : CallF Cd f_sl15Boxes [v] H K w := by
  rw [CallF_eq e_sl15Boxes rfl]
  have hbig := h.big
  simp (disch := omega) [h.alen]
  have := K_sl15Boxes_l (K := K) (l := l) (Q := ?_) ?_ ?_ l.length 0 (by omega) h k
  · simpa using this
  · intro G hG; simp [hG.alen, dec_nat3]
  · intros; simp
end
theorem take_one {α : Type} {l : List α} {i : Nat} {s : α} (h : l[i]? = some s) : (l.drop i).take 1 = [s] := by
  obtain ⟨hi, rfl⟩ := List.getElem?_eq_some_iff.1 h
  rw [List.drop_eq_getElem_cons hi]; rfl
theorem K_itaskValid_l {t : Tk} {ok : Nat → Prop} {K : AV → AH → Prop} {vv vr : AV} {P : Nat} {boxes : Int} (hct : ctS t.rest ≤ 10000000) {Q : Out → Env → AH → Prop} (h1 : ∀ e G, Q (.brk 0) e G = K (.b true) G) (h2 : ∀ e H, Q .ret e H = bindO (get e 4) fun v => K v H)
    (m i : Nat) (hm : i + m = t.rest.list.length) {H : AH} (hP : P < H.n) (gP : H.bk P = some ⟨[vv, vr], true⟩) (h : SV ok H vr t.rest) (k : ∀ H', Ext H H' → K (.b ((t.rest.list.drop i).all fun s => vaS boxes (Sts.of [s]))) H') :
    W Cd (.loop c_itaskValid_l0) [(1, .I boxes), (2, .ptr P 0), (18, .I t.rest.list.length), (19, .I i)] H Q := by
  have hlc := len_ctS (f := t.rest)
  induction m generalizing i H with
  | zero =>
    rw [W_loop_as c_itaskValid_l0.eq_1]
    have hi : i = t.rest.list.length := by omega
    subst hi
    have := k H (Ext.refl _)
    rw [List.drop_length] at this
    simp [h1]
    simpa using this
  | succ m ihm =>
    rw [W_loop_as c_itaskValid_l0.eq_1]
    have hi : i < t.rest.list.length := by omega
    obtain ⟨s, hs⟩ : ∃ s, t.rest.list[i]? = some s := ⟨_, List.getElem?_eq_getElem hi⟩
    have hcm := ctS_mem (List.mem_of_getElem? hs)
    have hbig := h.big
    obtain ⟨v', a1, a2, a3⟩ := h.part (i := i) (j := i + 1) (lo := some (.I i)) (hi := some (.I (i + 1 : Nat))) (by omega) (by omega) (by simp [bnd, aint]) (by simp [bnd, aint]; omega)
    rw [show i + 1 - i = 1 by omega, take_one hs] at a2
    have e1 : ((i + 1 : Nat) : Int) = (i : Int) + 1 := by omega
    rw [e1] at a1
    rw [all_dropB hs] at k
    generalize hL : t.rest.list.length = L at *
    have hlt : (i : Int) < L := by omega
    simp (disch := omega) [hlt, load_bk gP, a1]
    refine K_istmtsValid a2 (by rw [ctS_of]; simp [ctT]; omega) fun H1 x1 => ?_
    cases hok : vaS boxes (Sts.of [s]) with
    | false =>
      simp [h2]
      rw [hok] at k
      exact k _ x1
    | true =>
      rw [hok, Bool.true_and] at k
      simp (disch := omega)
      have := ihm (i + 1) (by omega) (by have := x1.1; omega) ((x1.2 P hP).trans gP) (h.ext x1) (fun H' x => k H' (x1.trans x))
      simpa using this
theorem K_sTaskValid_l {t : Tk} {ok : Nat → Prop} {K : AV → AH → Prop} {vv vr : AV} {P : Nat} (hct : ctS t.rest ≤ 10000000) {Q : Out → Env → AH → Prop} (h2 : ∀ e H, Q .ret e H = bindO (get e 2) fun v => K v H)
    (m i : Nat) (hm : i + m = t.rest.list.length) {H : AH} (hP : P < H.n) (gP : H.bk P = some ⟨[vv, vr], true⟩) (h : SV ok H vr t.rest)
    (h1 : ∀ G, Ext H G → ((t.rest.list.drop i).all fun s => vaS 3 (Sts.of [s])) = true → Q (.brk 0) [(1, .ptr P 0), (3, .I t.rest.list.length), (8, .b false)] G)
    (k : ∀ H', Ext H H' → ((t.rest.list.drop i).all fun s => vaS 3 (Sts.of [s])) = false → K (.b false) H') :
    W Cd (.loop c_sTaskValid_l0) [(1, .ptr P 0), (3, .I i)] H Q := by
  have hlc := len_ctS (f := t.rest)
  induction m generalizing i H with
  | zero =>
    rw [W_loop_as c_sTaskValid_l0.eq_1]
    have hi : i = t.rest.list.length := by omega
    subst hi
    have := h1 H (Ext.refl _) (by rw [List.drop_length]; rfl)
    have hbig := h.big
    simp [load_bk gP, h.alen]
    exact this
  | succ m ihm =>
    rw [W_loop_as c_sTaskValid_l0.eq_1]
    have hi : i < t.rest.list.length := by omega
    obtain ⟨s, hs⟩ : ∃ s, t.rest.list[i]? = some s := ⟨_, List.getElem?_eq_getElem hi⟩
    have hcm := ctS_mem (List.mem_of_getElem? hs)
    have hbig := h.big
    have hal := h.alen
    obtain ⟨v', a1, a2, a3⟩ := h.part (i := i) (j := i + 1) (lo := some (.I i)) (hi := some (.I (i + 1 : Nat))) (by omega) (by omega) (by simp [bnd, aint]) (by simp [bnd, aint]; omega)
    rw [show i + 1 - i = 1 by omega, take_one hs] at a2
    have e1 : ((i + 1 : Nat) : Int) = (i : Int) + 1 := by omega
    rw [e1] at a1
    rw [all_dropB hs] at k h1
    generalize hL : t.rest.list.length = L at *
    have hlt : (i : Int) < L := by omega
    simp (disch := omega) [hlt, load_bk gP, a1, hal]
    refine K_sStmtsValid a2 (by rw [ctS_of]; simp [ctT]; omega) fun H1 x1 => ?_
    cases hok : vaS 3 (Sts.of [s]) with
    | false =>
      simp [h2]
      rw [hok] at k
      exact k _ x1 rfl
    | true =>
      rw [hok, Bool.true_and] at k h1
      simp (disch := omega)
      have := ihm (i + 1) (by omega) (by have := x1.1; omega) ((x1.2 P hP).trans gP) (h.ext x1) (fun G x => h1 G (x1.trans x)) (fun H' x => k H' (x1.trans x))
      simpa using this
section
variable {ok : Nat → Prop} {H : AH} {K : AV → AH → Prop} {w : Fk K} {c : List AV} {t : Tk} {boxes : Int}
theorem K_itaskValid (h : TC ok H c t) (hct : ctS t.rest ≤ 10000000) (k : ∀ H', Ext H H' → K (.b (vaT boxes t)) H') : CallF Cd f_itaskValid [.agg c, .I boxes] H K w := by
  obtain ⟨vv, vr, rfl, h1, h2⟩ := h
  have x0 := Ext.push H [vv, vr]
  have a1 := h1.alen
  have a2 := h2.alen
  have b1 := h1.1
  have b2 := h2.big
  have hw := fun (K : AV → AH → Prop) (w : Fk K) => K_iareWords (K := K) (w := w) (h1.ext x0).sees
  rw [CallF_eq e_itaskValid rfl]
  unfold vaT at k
  by_cases c1 : t.vars.length = 4
  rotate_left
  · have c1' : ¬ (t.vars.length : Int) = 4 := by omega
    simp (disch := omega) [load_push, a1, c1']
    simpa [c1] using k _ x0
  cases c2 : t.vars.all isW with
  | false =>
    rw [c2] at hw
    simp (disch := omega) [load_push, a1, c1, hw]
    simpa [c1, c2] using k _ x0
  | true =>
    rw [c2] at hw k
    simp (disch := omega) [load_push, a1, c1, hw, a2]
    have := K_itaskValid_l (K := K) (t := t) (boxes := boxes) hct (Q := ?_) ?_ ?_ t.rest.list.length 0 (by omega) (by simp) (push_new (H := H) (cs := [vv, vr])) (h2.ext x0) (fun H' x => by simpa [c1] using k H' (x0.trans x))
    · simpa using this
    · intros; simp
    · intros; simp
theorem K_iTaskValid (h : TC ok H c t) (hct : ctS t.rest ≤ 10000000) (k : ∀ H', Ext H H' → K (.b (vaT 3 t)) H') : CallF Cd f_iTaskValid [.agg c] H K w := by
  have h' := h
  obtain ⟨vv, vr, rfl, h1, h2⟩ := h'
  rw [CallF_eq e_iTaskValid rfl]
  simp [loadN_push]
  refine K_itaskValid (h.ext (Ext.push _ _)) hct fun H' x => ?_
  simp
  exact k _ ((Ext.push _ _).trans x)
theorem K_sTaskValid (h : TC ok H c t) (hct : ctS t.rest ≤ 10000000) (k : ∀ H', Ext H H' → K (.b (vaT 3 t)) H') : CallF Cd f_sTaskValid [.agg c] H K w := by
  obtain ⟨vv, vr, rfl, h1, h2⟩ := h
  have x0 := Ext.push H [vv, vr]
  rw [CallF_eq e_sTaskValid rfl]
  simp
  unfold vaT at k
  have := K_sTaskValid_l (K := K) (t := t) hct (Q := ?_) ?_ t.rest.list.length 0 (by omega) (by simp) (push_new (H := H) (cs := [vv, vr])) (h2.ext x0) ?_ (fun H' x hf => by
    rw [List.drop_zero] at hf
    have := k H' (x0.trans x)
    rw [hf] at this
    simpa using this)
  · simpa using this
  · intros; simp
  · intro G x hG
    rw [List.drop_zero] at hG
    have gP : G.bk H.n = some ⟨[vv, vr], true⟩ := (x.2 H.n (by simp)).trans push_new
    have hw := fun (K : AV → AH → Prop) (w : Fk K) => K_sl4Words (n := 4) (K := K) (w := w) ((h1.ext x0).ext x).sees
    simp [load_bk gP, hw]
    have := k G (x0.trans x)
    rw [hG] at this
    have e : decide ((t.vars.length : Int) = 4) = decide (t.vars.length = 4) := by
      by_cases q : t.vars.length = 4
      · simp [q]
      · have : ¬ (t.vars.length : Int) = 4 := by omega
        simp [q, this]
    simpa [e] using this
end
end Go.Proofs.YtcibjklpaljadaaGreat.AM
namespace Go.Proofs.YtcibjklpaljadaaGreat.AM
set_option linter.unusedSimpArgs false
set_option linter.unusedVariables false
set_option maxRecDepth 100000
set_option maxHeartbeats 2000000
open Go
theorem GrS.store {base G v n sz cs B} (h : GrS base G v n sz cs B) {i : Nat} (hi : i < n) {c : List AV} (hc : c.length = sz) :
    ∃ cap G', v = .sl B 0 n cap ∧ G.store B (i * sz) c = some G' ∧ GrS base G' v n sz (splice cs (i * sz) c) B ∧ Only [B] G G' ∧ base ≤ B ∧ B < G.n := by
  obtain ⟨h1, h2, h3⟩ := h
  have hm : (i + 1) * sz ≤ n * sz := Nat.mul_le_mul_right sz hi
  rw [Nat.add_mul] at hm
  have hl : (splice cs (i * sz) c).length = n * sz := by unfold splice; rw [List.length_append, List.length_append, List.length_take, List.length_drop, h2, hc]; omega
  rcases h3 with ⟨rfl, rfl⟩ | ⟨h4, h5, ⟨rfl, h6⟩ | ⟨cc, ex, rfl, h7, h8, h9⟩⟩
  · omega
  · have st := store_bk (o := i * sz) (vs := c) h6 (by omega)
    exact ⟨_, _, rfl, st, ⟨h1, hl, .inr ⟨h4, h5, .inl ⟨rfl, put_same⟩⟩⟩, Only.refl.put (by simp), h4, h5⟩
  · have st := store_bk (o := i * sz) (vs := c) h9 (by simp; omega)
    refine ⟨_, _, rfl, st, ⟨h1, hl, .inr ⟨h4, h5, .inr ⟨cc, ex, rfl, h7, h8, ?_⟩⟩⟩, Only.refl.put (by simp), h4, h5⟩
    rw [put_same]
    have : splice (cs ++ ex) (i * sz) c = splice cs (i * sz) c ++ ex := by
      unfold splice
      rw [List.take_append_of_le_length (by omega), List.drop_append_of_le_length (by omega)]; simp
    rw [this]
theorem cpS_drop {f : Sts} {i : Nat} (h : cpS f = true) : cpS (Sts.of (f.list.drop i)) = true := by
  rw [cpS_mem] at h ⊢
  rw [Sts.list_of, List.all_eq_true] at *
  exact fun x hx => h x (List.mem_of_mem_drop hx)
theorem ctS_drop {f : Sts} {i : Nat} : ctS (Sts.of (f.list.drop i)) ≤ ctS f := by
  rw [ctS_of, ctS_sum]
  conv => rhs; rw [← List.take_append_drop i f.list, List.map_append, List.sum_append]
  omega
theorem Ints_snoc {l : List Int} {x : Int} : Ints l ++ [.I x] = Ints (l ++ [x]) := by simp [Ints]
section
variable {ok : Nat → Prop} {H : AH} {K : AV → AH → Prop} {w : Fk K} {c : List AV} {b : Bx} {x : Int}
theorem K_sBoxPut (h : BC ok H c b) (hv : vaB b = true) (hx : isW x = true)
    (k1 : b.items.length < b.room → ∀ c' H', BC (fun b => H.n ≤ b) H' c' ⟨b.room, b.items ++ [x]⟩ → Ext H H' → K (.tup [.agg c', .b true]) H')
    (k2 : ¬ b.items.length < b.room → ∀ H', Ext H H' → K (.tup [.agg [.I 0, .nils], .b false]) H') : CallF Cd f_sBoxPut [.agg c, .I x] H K w := by
  have h' := h
  obtain ⟨vi, rfl, h1⟩ := h'
  rw [CallF_eq e_sBoxPut rfl]
  have x0 : Ext H ((H.push [.I b.room, vi]).push [.I 0, .nils]) := (Ext.push _ _).trans (Ext.push _ _)
  have x1 : Ext H (((H.push [.I b.room, vi]).push [.I 0, .nils]).push [.I b.room, vi]) := x0.trans (Ext.push _ _)
  have hal := h1.alen
  have hbg := h1.1
  have hv' := hv
  unfold vaB at hv'
  simp at hv'
  obtain ⟨⟨r1, r2, r3⟩, r4⟩ := hv'
  simp (disch := omega) [loadN_push]
  refine K_sBoxValid (h.ext x0) ?_
  rw [hv]
  simp (disch := omega) [K_sWordValid, hx, load_push, hal]
  have q1 : (((H.push [.I b.room, vi]).push [.I 0, .nils]).push [.I b.room, vi]).bk (H.n + 1) = some ⟨[.I 0, .nils], true⟩ := push_old (by simp) push_new
  by_cases hl : b.items.length < b.room
  · have hl' : ¬ b.room ≤ b.items.length := by omega
    simp (disch := omega) [-AM.elems, hl', load_push]
    have x2 := x1.trans (Ext.push _ [])
    obtain ⟨v', H1, B1, b1, x3, g1, f1, _⟩ := app_newG (l := b.items) (H := (((H.push [.I b.room, vi]).push [.I 0, .nils]).push [.I b.room, vi]).push []) (push_new (cs := [])) (Nat.lt_succ_self _) (base := H.n + 2) (by simp) (by omega)
    have e1 := (h1.ext x2).src.elems
    have n1 := x3.1
    simp only [push_n] at n1 b1
    simp (disch := omega) [-AM.elems, hal, e1, b1, x3]
    obtain ⟨v2, H2, B2, c1, c2, c3, c4⟩ := (g1.ext (Ext.push H1 [.I x])).app (k := 1) (new := [.I x]) (by simp; omega) (by simp) (by omega)
    have n2 := c4.1
    simp only [push_n] at n2 c3
    have hm : ∀ b, b ∈ grB v' B1 → H.n + 2 ≤ b := fun b hb => by have := g1.mem hb; omega
    have o2 : ∀ b, b < H.n + 2 → H2.bk b = H1.bk b := fun b hb => by
      rw [c4.2 b (by simp; omega) (fun hm' => by have := hm b hm'; omega), push_old (by omega) rfl]
    have hne : ¬ H.n = H1.n := by omega
    have q0 : H2.bk H.n = H1.bk H.n := o2 _ (by omega)
    have q2 : H2.bk (H.n + 1) = some ⟨[.I 0, .nils], true⟩ := (o2 _ (by omega)).trans ((x3.2 _ (by simp)).trans (push_old (by simp) q1))
    have f2 := c2.flat
    have st : H2.store (H.n + 1) 0 [.I b.room, v2] = some (H2.put (H.n + 1) (some ⟨[.I b.room, v2], true⟩)) := store_bk q2 (by simp)
    simp (disch := omega) [loadN_push, c1, hne, q0, flat_cells f2, flat_tup f2, st, loadN_bk put_same]
    have x4 : Ext H H2 := ⟨by omega, fun b hb => (o2 b (by omega)).trans ((x2.trans x3).2 b hb)⟩
    have c5 := c2.only (bs := [H.n + 1]) (G' := H2.put (H.n + 1) (some ⟨[.I b.room, v2], true⟩)) (Only.refl.put (by simp)) (by simp)
    rw [Ints_snoc] at c5
    exact k1 hl _ _ ⟨v2, rfl, SlC.mono (by simpa [IV] using c5.slc) (Nat.le_refl _) (fun _ _ _ => rfl) (fun b hb _ => by omega)⟩ (x4.put (by omega))
  · have hl' : b.room ≤ b.items.length := by omega
    have st := store_bk (o := 0) (vs := [.I 0, .nils]) q1 (by simp)
    simp (disch := omega) [hl', load_push, st, loadN_bk put_same]
    exact k2 (by omega) _ (x1.put (by omega))
theorem K_sBoxTake (h : BC ok H c b) (hv : vaB b = true)
    (k1 : ∀ y r, b.items = y :: r → ∀ c' H', BC (fun b => H.n ≤ b) H' c' ⟨b.room, r⟩ → Ext H H' → K (.tup [.agg c', .I y, .b true]) H')
    (k2 : b.items = [] → ∀ H', Ext H H' → K (.tup [.agg [.I 0, .nils], .I 0, .b false]) H') : CallF Cd f_sBoxTake [.agg c] H K w := by
  have h' := h
  obtain ⟨vi, rfl, h1⟩ := h'
  rw [CallF_eq e_sBoxTake rfl]
  have x0 : Ext H ((H.push [.I b.room, vi]).push [.I 0, .nils]) := (Ext.push _ _).trans (Ext.push _ _)
  have x1 : Ext H (((H.push [.I b.room, vi]).push [.I 0, .nils]).push [.I b.room, vi]) := x0.trans (Ext.push _ _)
  have hal := h1.alen
  have hbg := h1.1
  have hv' := hv
  unfold vaB at hv'
  simp at hv'
  obtain ⟨⟨r1, r2, r3⟩, r4⟩ := hv'
  simp (disch := omega) [loadN_push]
  refine K_sBoxValid (h.ext x0) ?_
  rw [hv]
  have q1 : (((H.push [.I b.room, vi]).push [.I 0, .nils]).push [.I b.room, vi]).bk (H.n + 1) = some ⟨[.I 0, .nils], true⟩ := push_old (by simp) push_new
  cases hit : b.items with
  | nil =>
    rw [hit] at hal
    have hal' : alen vi = some 0 := hal
    have st := store_bk (o := 0) (vs := [.I 0, .nils]) q1 (by simp)
    simp (disch := omega) [load_push, hal', st, loadN_bk put_same]
    exact k2 hit _ (x1.put (by omega))
  | cons y r =>
    have hal' : alen vi = some (r.length + 1) := by rw [hal, hit]; rfl
    have hpos : ¬ ((r.length : Int) + 1) = 0 := by omega
    have hne : ¬ ((r.length + 1 : Nat) : Int) = 0 := by omega
    have hlb : b.items.length = r.length + 1 := by rw [hit]; rfl
    simp (disch := omega) [-AM.elems, load_push, hal', hpos, hne]
    have x2 := x1.trans (Ext.push _ [])
    obtain ⟨vp, a1, a2, a3⟩ := SlC.part (h1.ext x2) (i := 1) (j := b.items.length) (lo := some (.I 1)) (hi := none) (by omega) (by omega) (by omega) (by simp [bnd, aint]) rfl
    have ep : ((Ints b.items).drop (1 * 1)).take ((b.items.length - 1) * 1) = Ints r := by rw [hit]; simp [Ints]; exact List.take_of_length_le (by simp)
    rw [ep, hlb, Nat.add_sub_cancel] at a2
    have ip : IV ok _ vp r := a2
    obtain ⟨v', H1, B1, b1, x3, g1, f1, _⟩ := app_newG (l := r) (H := (((H.push [.I b.room, vi]).push [.I 0, .nils]).push [.I b.room, vi]).push []) (push_new (cs := [])) (Nat.lt_succ_self _) (base := H.n + 2) (by simp) (by omega)
    have e1 := ip.src.elems
    have e2 := ip.sees.1
    have n1 := x3.1
    simp only [push_n] at n1 b1
    have q0 : H1.bk H.n = some ⟨[.I b.room, vi], true⟩ := (x3.2 _ (by simp; omega)).trans (push_old (by simp; omega) (push_old (by simp; omega) (push_old (by simp) push_new)))
    have q2 : H1.bk (H.n + 1) = some ⟨[.I 0, .nils], true⟩ := (x3.2 _ (by simp)).trans (push_old (by simp) q1)
    obtain ⟨bv, ov, s1, s2, s3⟩ := h1.sees.at (i := 0) (by omega)
    have ey : b.items[0]'(by omega) = y := by simp [hit]
    rw [ey, Nat.add_zero, ← load_ext (x2.trans x3) s2] at s3
    rw [hlb] at s1
    have hb1 : ¬ bv = H.n + 1 := by omega
    have st : H1.store (H.n + 1) 0 [.I b.room, v'] = some (H1.put (H.n + 1) (some ⟨[.I b.room, v'], true⟩)) := store_bk q2 (by simp)
    simp (disch := omega) [-AM.elems, a1, e1, e2, b1, x3, load_bk q0, s1, s3, hb1, flat_cells f1, flat_tup f1, st, loadN_bk put_same]
    have g2 := g1.only (bs := [H.n + 1]) (G' := H1.put (H.n + 1) (some ⟨[.I b.room, v'], true⟩)) (Only.refl.put (by simp)) (by simp)
    exact k1 y r hit _ _ ⟨v', rfl, IV.mono g2.iv (Nat.le_refl _) (fun _ _ _ => rfl) (fun b hb _ => by omega)⟩ ((x2.trans x3).put (by omega))
end
end Go.Proofs.YtcibjklpaljadaaGreat.AM
namespace Go.Proofs.YtcibjklpaljadaaGreat.AM
set_option linter.unusedSimpArgs false
set_option linter.unusedVariables false
set_option maxRecDepth 100000
set_option maxHeartbeats 2000000
open Go
theorem SV.tail {ok H v f} (h : SV ok H v f) {s : St1} {r : List St1} (hr : f.list = s :: r) : ∃ v', aslice 8 v (some (.I 1)) none none = some v' ∧ SV ok H v' (Sts.of r) ∧ v'.flat = true := by
  obtain ⟨v', a1, a2, a3⟩ := h.part (i := 1) (j := f.list.length) (lo := some (.I 1)) (hi := none) (by rw [hr]; simp) (Nat.le_refl _) (by simp [bnd, aint]) rfl
  refine ⟨v', a1, ?_, a3⟩
  rw [hr] at a2
  simpa using a2
theorem cp_tail {f : Sts} {s : St1} {r : List St1} (hr : f.list = s :: r) (h : cpS f = true) : cpS (Sts.of r) = true := by
  have := cpS_drop (i := 1) h
  rw [hr] at this
  simpa using this
theorem ct_tail {f : Sts} {s : St1} {r : List St1} (hr : f.list = s :: r) : ctS (Sts.of r) ≤ ctS f := by
  have := ctS_drop (f := f) (i := 1)
  rw [hr] at this
  simpa using this
section
variable {ok : Nat → Prop} {H : AH} {K : AV → AH → Prop} {w : Fk K} {c : List AV} {t : Tk} {s : St1} {r : List St1}
theorem K_sl15Set {v x : Int} (h : TC ok H c t) (hr : t.rest.list = s :: r) (hcp : cpS t.rest = true) (hct : ctS t.rest ≤ 10000000) (hv : 0 ≤ v ∧ v < t.vars.length) (hvl : t.vars.length ≤ 1000)
    (k : ∀ c' H', TC (fun b => H.n ≤ b) H' c' ⟨t.vars.set v.toNat x, Sts.of r⟩ → Ext H H' → K (.agg c') H') : CallF Cd f_sl15Set [.agg c, .I v, .I x] H K w := by
  obtain ⟨vv, vr, rfl, h1, h2⟩ := h
  rw [CallF_eq e_sl15Set rfl]
  have x0 : Ext H (((H.push [vv, vr]).push [.nils, .nils]).push []) := ((Ext.push _ _).trans (Ext.push _ _)).trans (Ext.push _ _)
  obtain ⟨v', H1, B1, b1, x1, g1, f1, hB1⟩ := app_newG (l := t.vars) (H := ((H.push [vv, vr]).push [.nils, .nils]).push []) (push_new (cs := [])) (Nat.lt_succ_self _) (base := H.n + 2) (by simp) (by omega)
  have e1 := (h1.ext x0).src.elems
  have e2 := h1.sees.1
  have n1 := x1.1
  simp only [push_n] at n1 b1 hB1
  have q0 : H1.bk H.n = some ⟨[vv, vr], true⟩ := (x1.2 H.n (by simp; omega)).trans (push_old (by simp; omega) (push_old (by simp) push_new))
  have q1 : H1.bk (H.n + 1) = some ⟨[.nils, .nils], true⟩ := (x1.2 (H.n + 1) (by simp)).trans (push_old (by simp) push_new)
  obtain ⟨vt, t1, t2, t3⟩ := h2.tail hr
  simp (disch := omega) [-AM.elems, load_push, e1, e2, b1, x1, load_bk q0, t1]
  refine K_sl11Copy (Sts.of r) (t2.ext (x0.trans x1)) (cp_tail hr hcp) (by have := ct_tail hr; omega) fun vr' H2 cs B u1 u2 x2 => ?_
  have fr := u1.flat
  have n2 := x2.1
  have x3 := Ext.push H2 [v', vr']
  have g3 := (g1.ext x2).ext x3
  obtain ⟨cap, H3, rfl, s1, s2, s3, s4, s5⟩ := g3.store (i := v.toNat) (c := [.I x]) (by omega) rfl
  rw [Nat.mul_one] at s1
  have hB0 : B1 < H1.n := by
    rcases g1.2.2 with q | q
    · cases q.1
    · exact q.2.1
  have hB : B1 < H2.n := by
    have := g1.2.2
    rcases this with q | q
    · cases q.1
    · omega
  have q2 : (H2.push [.sl B1 0 t.vars.length cap, vr']).bk H2.n = some ⟨[.sl B1 0 t.vars.length cap, vr'], true⟩ := push_new
  have q3 : H3.bk H2.n = some ⟨[.sl B1 0 t.vars.length cap, vr'], true⟩ := s3.bk (by simp) (by simp; omega) q2
  have q4 : H3.bk (H.n + 1) = some ⟨[.nils, .nils], true⟩ := s3.bk (by simp; omega) (by simp; omega) (push_old (by omega) ((x2.2 _ (by omega)).trans q1))
  have n3 := s3.1
  simp only [push_n] at n3
  have st : H3.store (H.n + 1) 0 [.sl B1 0 t.vars.length cap, vr'] = some (H3.put (H.n + 1) (some ⟨[.sl B1 0 t.vars.length cap, vr'], true⟩)) := store_bk q4 (by simp)
  have hvz : v.toNat < t.vars.length := by omega
  have fr' := flat_cells fr
  have stA : (H2.push [.nils, .nils]).store H2.n 0 [.sl B1 0 t.vars.length cap, vr'] = some (H2.push [.sl B1 0 t.vars.length cap, vr']) := by
    rw [store_bk push_new (by simp), push_put]; rfl
  simp (disch := omega) [x2, fr', flat_tup fr, stA, load_bk q2, s1, loadN_bk q3, st, loadN_bk put_same]
  have o3 : Only [H.n + 1] H3 (H3.put (H.n + 1) (some ⟨[.sl B1 0 t.vars.length cap, vr'], true⟩)) := Only.refl.put (by simp)
  have s2' := s2.only o3 (by simp)
  have e3 : splice (Ints t.vars) (v.toNat * 1) [.I x] = Ints (t.vars.set v.toNat x) := by rw [Nat.mul_one]; exact Ints_set hvz
  rw [e3] at s2'
  have hl : (t.vars.set v.toNat x).length = t.vars.length := by simp
  refine k _ _ ⟨.sl B1 0 t.vars.length cap, vr', rfl, ?_, ?_⟩ ⟨by simp; omega, fun b hb => ?_⟩
  · show SlC _ _ _ _ _ _
    rw [hl]
    exact s2'.slc.mono (Nat.le_refl _) (fun _ _ _ => rfl) (fun b hb _ => by omega)
  · refine (u1.sv u2).mono (by simp; omega) (fun b hb hb2 => ?_) (fun b hb _ => by omega)
    rw [put_bk, if_neg (by omega), s3.2 b (by simp; omega) (by simp; omega), push_old hb2 rfl]
  · rw [put_bk, if_neg (by omega), s3.2 b (by simp; omega) (by simp; omega), push_old (by omega) rfl, x2.2 b (by omega), x1.2 b (by simp; omega), x0.2 b hb]
theorem K_sl15Ahead {v1 v2 : AV} {a b : Sts} (h1 : SV ok H v1 a) (h2 : SV ok H v2 b) (c1 : cpS a = true) (c2 : cpS b = true) (t1 : ctS a ≤ 10000000) (t2 : ctS b ≤ 10000000)
    (k : ∀ v' H', SV (fun b => H.n ≤ b) H' v' (Sts.of (a.list ++ b.list)) → Ext H H' → v'.flat = true → K v' H') : CallF Cd f_sl15Ahead [v1, v2] H K w := by
  rw [CallF_eq e_sl15Ahead rfl]
  simp
  refine K_sl11Copy a h1 c1 t1 fun w1 H1 cs1 B1 u1 u2 x1 => ?_
  simp
  refine K_sl11Copy b (h2.ext x1) c2 t2 fun w2 H2 cs2 B2 y1 y2 x2 => ?_
  have l1 := len_ctS (f := a)
  have l2 := len_ctS (f := b)
  obtain ⟨v', H3, B3, a1, a2, a3, a4⟩ := (u1.ext x2).app (by have := x1.1; have := x2.1; omega) (k := b.list.length) (new := cs2) (by rw [y1.2.1]) (by omega)
  have e1 := y1.elems
  have e2 := y1.alen
  simp [-AM.elems, e1, e2, a1]
  have n1 := x1.1
  have n2 := x2.1
  have n3 := a4.1
  have hm : ∀ x, x ∈ grB w1 B1 → x = B1 ∧ H.n ≤ B1 := fun x hx => ⟨(u1.mem hx).1, (u1.mem hx).2.1⟩
  have hm2 : ∀ x, x ∈ grB w1 B1 → B1 < H1.n := fun x hx => (u1.mem hx).2.2
  have hB : (B3 = B1 ∧ H.n ≤ B1 ∧ B1 < H1.n) ∨ B3 = H2.n := by
    rcases a3 with q | q
    · exact .inl ⟨q.1, (hm _ q.2).2, hm2 _ q.2⟩
    · exact .inr q
  have k1 := (SF.ext u2 x2).mono (H' := H3) (ok' := fun b => H.n ≤ b ∧ b ≠ B3) n3 (fun x hx hx2 => a4.2 x hx2 (fun hq => hx.2 (hm x hq).1)) (fun x hx hx2 => ⟨hx.1, by
    rcases hB with q | q
    · rw [q.1]; exact hx.2
    · omega⟩)
  have k2 := y2.mono (H' := H3) (ok' := fun b => H.n ≤ b ∧ b ≠ B3) n3 (fun x hx hx2 => a4.2 x hx2 (fun hq => by have := hm x hq; have := hm2 x hq; omega)) (fun x hx hx2 => by omega)
  have hlen : (Sts.of (a.list ++ b.list)).list.length = a.list.length + b.list.length := by rw [Sts.list_of]; simp
  refine k _ _ (GrS.sv (B := B3) (by rw [hlen]; exact a2) (SF.app k1 k2)) ⟨by omega, fun x hx => ?_⟩ a2.flat
  rw [a4.2 x (by omega) (fun hq => by have := hm x hq; omega), x2.2 x (by omega), x1.2 x hx]
end
def rdT (t : Tk) (many : Nat) : Bool :=
  match t.rest.list with
  | [] => true
  | s :: _ => decide (s.k ≠ 4 ∧ s.k ≠ 5) || decide (s.b < many)
section
variable {ok : Nat → Prop} {H : AH} {K : AV → AH → Prop} {w : Fk K} {c : List AV} {t : Tk} {s : St1} {r : List St1}
theorem SV.head {H : AH} {v : AV} {f : Sts} (h : SV ok H v f) (hr : f.list = s :: r) : ∃ b o cap c, v = .sl b o f.list.length cap ∧ ok b ∧ b < H.n ∧ H.loadN b o 8 = some c ∧ S1 ok H c s := by
  obtain ⟨b, o, cap, c, h1, h2, h3, h4, h5⟩ := h.at (i := 0) (s := s) (by rw [hr]; rfl)
  exact ⟨b, o, cap, c, h1, h2, h3, by simpa using h4, h5⟩
theorem K_sl15Ready {vb : AV} {many : Nat} (h : TC ok H c t) (hb : alen vb = some many) (hm : many ≤ 8589934592) (k : ∀ H', Ext H H' → K (.b (rdT t many)) H') : CallF Cd f_sl15Ready [.agg c, vb] H K w := by
  obtain ⟨vv, vr, rfl, h1, h2⟩ := h
  rw [CallF_eq e_sl15Ready rfl]
  have ha := h2.alen
  have hbig := h2.big
  have x0 := Ext.push H [vv, vr]
  unfold rdT at k
  cases hr : t.rest.list with
  | nil =>
    rw [hr] at ha k
    simp [load_push, ha]
    exact k _ x0
  | cons s r =>
    obtain ⟨b, o, cap, c, e1, ob, hbn, l1, s1⟩ := h2.head hr
    have hl : t.rest.list.length = r.length + 1 := by rw [hr]; rfl
    rw [hl] at e1
    subst e1
    rw [hr] at k
    have l2 := loadN_extE l1 x0 hbn
    obtain ⟨va, vy, vz, rfl, _⟩ := s1
    have x1 := x0.trans (Ext.push (H.push [vv, AV.sl b o (r.length + 1) cap]) [.I s.k, .I s.v, .I s.b, .I s.e.op, .I s.e.n, va, vy, vz])
    have hp : ¬ ((r.length : Int) + 1) = 0 := by omega
    by_cases k4 : s.k = 4
    · simp (disch := omega) [load_push, hp, l2, AH.store, push_put, push_put1, k4, hb]
      simpa [k4] using k _ x1
    by_cases k5 : s.k = 5
    · simp (disch := omega) [load_push, hp, l2, AH.store, push_put, push_put1, k4, k5, hb]
      simpa [k5] using k _ x1
    · simp (disch := omega) [load_push, hp, l2, AH.store, push_put, push_put1, k4, k5, hb]
      simpa [k4, k5] using k _ x1
end
end Go.Proofs.YtcibjklpaljadaaGreat.AM
namespace Go.Proofs.YtcibjklpaljadaaGreat.AM
set_option linter.unusedSimpArgs false
set_option linter.unusedVariables false
set_option maxRecDepth 100000
set_option maxHeartbeats 2000000
open Go
def blkR (s : St1) (r : List St1) (x : Int) : Sts :=
  if s.k = 2 then Sts.of ((if x ≠ 0 then s.body else s.els).list ++ r) else if x ≠ 0 then Sts.of (s.body.list ++ (s :: r)) else Sts.of r
section
variable {ok : Nat → Prop} {H : AH} {K : AV → AH → Prop} {w : Fk K} {c : List AV} {t : Tk} {s : St1} {r : List St1}
theorem K_sl15Block (h : TC ok H c t) (hr : t.rest.list = s :: r) (hk : s.k = 2 ∨ s.k = 3) (hcp : cpS t.rest = true) (hct : ctS t.rest ≤ 10000000) (hoe : okE 5 s.e = true) (h4 : t.vars.length = 4) (hw : t.vars.all isW = true)
    (k : ∀ c' H', TC (fun b => H.n ≤ b) H' c' ⟨t.vars, blkR s r (evE t.vars s.e)⟩ → Ext H H' → K (.agg c') H') : CallF Cd f_sl15Block [.agg c] H K w := by
  obtain ⟨vv, vr, rfl, h1, h2⟩ := h
  rw [CallF_eq e_sl15Block rfl]
  obtain ⟨b, o, cap, cc, e1, ob, hbn, l1, s1⟩ := h2.head hr
  obtain ⟨va, vy, vz, rfl, ea, ey, ez⟩ := s1
  have hl : t.rest.list.length = r.length + 1 := by rw [hr]; rfl
  rw [hl] at e1
  subst e1
  have hmem : s ∈ t.rest.list := by rw [hr]; simp
  have hcm := ctS_mem hmem
  have hcps : cpT s = true := by rw [cpS_mem] at hcp; exact List.all_eq_true.1 hcp s hmem
  unfold cpT at hcps
  simp only [Bool.and_eq_true] at hcps
  obtain ⟨vt, t1, t2, t3⟩ := h2.tail hr
  have x0 : Ext H ((H.push [vv, .sl b o (r.length + 1) cap]).push [.nils, .nils]) := (Ext.push _ _).trans (Ext.push _ _)
  have x1 : Ext H ((((H.push [vv, .sl b o (r.length + 1) cap]).push [.nils, .nils]).push [.I s.k, .I s.v, .I s.b, .I s.e.op, .I s.e.n, va, vy, vz]).push []) := (x0.trans (Ext.push _ _)).trans (Ext.push _ _)
  have l2 := loadN_extE l1 x0 hbn
  obtain ⟨v', H1, B1, b1, x2, g1, f1, hB1⟩ := app_newG (l := t.vars) (H := (((H.push [vv, .sl b o (r.length + 1) cap]).push [.nils, .nils]).push [.I s.k, .I s.v, .I s.b, .I s.e.op, .I s.e.n, va, vy, vz]).push []) (push_new (cs := [])) (Nat.lt_succ_self _) (base := H.n + 2) (by simp) (by omega)
  have e2 := (h1.ext x1).src.elems
  have e3 := h1.sees.1
  have n1 := x2.1
  simp only [push_n] at n1 b1 hB1
  have q0 : H1.bk H.n = some ⟨[vv, .sl b o (r.length + 1) cap], true⟩ := (x2.2 H.n (by simp only [push_n]; omega)).trans (push_old (by simp only [push_n]; omega) (push_old (by simp only [push_n]; omega) (push_old (by simp) push_new)))
  have q1 : H1.bk (H.n + 1) = some ⟨[.nils, .nils], true⟩ := (x2.2 (H.n + 1) (by simp only [push_n]; omega)).trans (push_old (by simp only [push_n]; omega) (push_old (by simp) push_new))
  have q2 : H1.bk (H.n + 2) = some ⟨[.I s.k, .I s.v, .I s.b, .I s.e.op, .I s.e.n, va, vy, vz], true⟩ := (x2.2 (H.n + 2) (by simp)).trans (push_old (by simp) push_new)
  have x3 : Ext H (H1.push [v', .nils]) := (x1.trans x2).trans (Ext.push _ _)
  have q3 : (H1.push [v', .nils]).bk (H.n + 2) = _ := push_old (by omega) q2
  have q3' : (H1.push [v', .nils]).bk H.n = _ := push_old (by omega) q0
  have w3 : (H1.push [v', .nils]).loadN (H.n + 2) 3 3 = some [.I s.e.op, .I s.e.n, va] := by rw [loadN_bk q3]; rfl
  have stA : (H1.push [.nils, .nils]).store H1.n 0 [v', .nils] = some (H1.push [v', .nils]) := by
    rw [store_bk push_new (by simp), push_put]; rfl
  have hB0 : B1 < H1.n := by
    rcases g1.2.2 with q | q
    · rw [q.2] at h4; cases h4
    · exact q.2.1
  simp (disch := omega) [-AM.elems, load_push, l2, AH.store, push_put, push_put1, push_put2, e2, e3, b1, flat_cells f1, flat_tup f1]
  simp (disch := omega) [stA, w3, load_bk q3']
  refine K_sl4Eval s.e.args (d := 5) (ea.ext x3) (h1.ext x3).sees h4 hw hoe fun H3 x4 => ?_
  have q4 := (x4.2 (H.n + 2) (by simp; omega)).trans q3
  have q4' := (x4.2 H.n (by simp; omega)).trans q3'
  have q5 : H3.bk H1.n = some ⟨[v', .nils], true⟩ := (x4.2 H1.n (by simp)).trans push_new
  have q6 : H3.bk (H.n + 1) = some ⟨[.nils, .nils], true⟩ := (x4.2 (H.n + 1) (by simp; omega)).trans (push_old (by omega) q1)
  have x5 := x3.trans x4
  have n4 := x4.1
  simp only [push_n] at n4
  have ev : evE t.vars s.e = evE1 t.vars s.e.op s.e.n (evF t.vars s.e.args) := rfl
  rw [ev] at k
  generalize evE1 t.vars s.e.op s.e.n (evF t.vars s.e.args) = X at *
  have g4 := (g1.ext (Ext.push _ [v', .nils])).ext x4
  unfold blkR at k
  have ct := ct_tail hr
  have cp := cp_tail hr hcp
  rcases hk with hk | hk <;> by_cases hx : X = 0
  · -- kind 2, no
    have kk : s.k = 2 := hk
    simp [kk, hx, Sts.list_of] at k
    rw [kk] at q4
    simp (disch := omega) [x4, load_bk q4, load_bk q4', hx, t1]
    refine K_sl15Ahead (ez.ext x5) (t2.ext x5) hcps.2 cp (by omega) (by omega) fun W H5 sv x6 fw => ?_
    rw [Sts.list_of] at sv
    have q7 := (x6.2 H1.n (by omega)).trans q5
    have q8 := (x6.2 (H.n + 1) (by omega)).trans q6
    have n5 := x6.1
    have st7 : H5.store H1.n 1 [W] = some (H5.put H1.n (some ⟨[v', W], true⟩)) := store_bk q7 (by simp)
    have q9 : (H5.put H1.n (some ⟨[v', W], true⟩)).bk (H.n + 1) = _ := put_other (by omega) q8
    have st8 : (H5.put H1.n (some ⟨[v', W], true⟩)).store (H.n + 1) 0 [v', W] = some ((H5.put H1.n (some ⟨[v', W], true⟩)).put (H.n + 1) (some ⟨[v', W], true⟩)) := store_bk q9 (by simp)
    simp (disch := omega) [x6, flat_cells fw, flat_tup fw, st7, loadN_bk put_same, st8]
    have o6 : ∀ b, b ≠ H.n + 1 → b ≠ H1.n → ((H5.put H1.n (some ⟨[v', W], true⟩)).put (H.n + 1) (some ⟨[v', W], true⟩)).bk b = H5.bk b := fun b h1 h2 => by rw [put_bk, if_neg h1, put_bk, if_neg h2]
    have n6 : ((H5.put H1.n (some ⟨[v', W], true⟩)).put (H.n + 1) (some ⟨[v', W], true⟩)).n = H5.n := rfl
    generalize ((H5.put H1.n (some ⟨[v', W], true⟩)).put (H.n + 1) (some ⟨[v', W], true⟩)) = H6 at *
    refine k _ _ ⟨v', W, rfl, ?_, ?_⟩ ⟨by omega, fun b hb => ?_⟩
    · show SlC _ _ _ _ _ _
      exact (g4.ext x6).ivB (ok := fun b => H.n + 2 ≤ b ∧ b ≠ H1.n) (fun h _ => ⟨h, by omega⟩) |>.mono (H' := H6) (ok' := fun b => H.n ≤ b) (by omega) (fun b hb _ => o6 b (by omega) hb.2) (fun b hb _ => by omega)
    · exact sv.mono (H' := H6) (ok' := fun b => H.n ≤ b) (by omega) (fun b hb _ => o6 b (by omega) (by omega)) (fun b hb _ => by omega)
    · rw [o6 b (by omega) (by omega), x6.2 b (by omega), x5.2 b hb]
  · -- kind 2, yes
    have kk : s.k = 2 := hk
    simp [kk, hx, Sts.list_of] at k
    rw [kk] at q4
    simp (disch := omega) [x4, load_bk q4, load_bk q4', hx, t1]
    refine K_sl15Ahead (ey.ext x5) (t2.ext x5) hcps.1.2 cp (by omega) (by omega) fun W H5 sv x6 fw => ?_
    rw [Sts.list_of] at sv
    have q7 := (x6.2 H1.n (by omega)).trans q5
    have q8 := (x6.2 (H.n + 1) (by omega)).trans q6
    have n5 := x6.1
    have st7 : H5.store H1.n 1 [W] = some (H5.put H1.n (some ⟨[v', W], true⟩)) := store_bk q7 (by simp)
    have q9 : (H5.put H1.n (some ⟨[v', W], true⟩)).bk (H.n + 1) = _ := put_other (by omega) q8
    have st8 : (H5.put H1.n (some ⟨[v', W], true⟩)).store (H.n + 1) 0 [v', W] = some ((H5.put H1.n (some ⟨[v', W], true⟩)).put (H.n + 1) (some ⟨[v', W], true⟩)) := store_bk q9 (by simp)
    simp (disch := omega) [x6, flat_cells fw, flat_tup fw, st7, loadN_bk put_same, st8]
    have o6 : ∀ b, b ≠ H.n + 1 → b ≠ H1.n → ((H5.put H1.n (some ⟨[v', W], true⟩)).put (H.n + 1) (some ⟨[v', W], true⟩)).bk b = H5.bk b := fun b h1 h2 => by rw [put_bk, if_neg h1, put_bk, if_neg h2]
    have n6 : ((H5.put H1.n (some ⟨[v', W], true⟩)).put (H.n + 1) (some ⟨[v', W], true⟩)).n = H5.n := rfl
    generalize ((H5.put H1.n (some ⟨[v', W], true⟩)).put (H.n + 1) (some ⟨[v', W], true⟩)) = H6 at *
    refine k _ _ ⟨v', W, rfl, ?_, ?_⟩ ⟨by omega, fun b hb => ?_⟩
    · show SlC _ _ _ _ _ _
      exact (g4.ext x6).ivB (ok := fun b => H.n + 2 ≤ b ∧ b ≠ H1.n) (fun h _ => ⟨h, by omega⟩) |>.mono (H' := H6) (ok' := fun b => H.n ≤ b) (by omega) (fun b hb _ => o6 b (by omega) hb.2) (fun b hb _ => by omega)
    · exact sv.mono (H' := H6) (ok' := fun b => H.n ≤ b) (by omega) (fun b hb _ => o6 b (by omega) (by omega)) (fun b hb _ => by omega)
    · rw [o6 b (by omega) (by omega), x6.2 b (by omega), x5.2 b hb]
  · -- kind 3, no
    have kk : s.k = 3 := hk
    simp [kk, hx, Sts.list_of] at k
    rw [kk] at q4
    simp (disch := omega) [x4, load_bk q4, load_bk q4', hx, t1]
    refine K_sl11Copy (Sts.of r) (t2.ext x5) cp (by omega) fun W H5 cs B u1 u2 x6 => ?_
    have sv := u1.sv u2
    have fw := u1.flat
    have q7 := (x6.2 H1.n (by omega)).trans q5
    have q8 := (x6.2 (H.n + 1) (by omega)).trans q6
    have n5 := x6.1
    have st7 : H5.store H1.n 1 [W] = some (H5.put H1.n (some ⟨[v', W], true⟩)) := store_bk q7 (by simp)
    have q9 : (H5.put H1.n (some ⟨[v', W], true⟩)).bk (H.n + 1) = _ := put_other (by omega) q8
    have st8 : (H5.put H1.n (some ⟨[v', W], true⟩)).store (H.n + 1) 0 [v', W] = some ((H5.put H1.n (some ⟨[v', W], true⟩)).put (H.n + 1) (some ⟨[v', W], true⟩)) := store_bk q9 (by simp)
    simp (disch := omega) [x6, flat_cells fw, flat_tup fw, st7, loadN_bk put_same, st8]
    have o6 : ∀ b, b ≠ H.n + 1 → b ≠ H1.n → ((H5.put H1.n (some ⟨[v', W], true⟩)).put (H.n + 1) (some ⟨[v', W], true⟩)).bk b = H5.bk b := fun b h1 h2 => by rw [put_bk, if_neg h1, put_bk, if_neg h2]
    have n6 : ((H5.put H1.n (some ⟨[v', W], true⟩)).put (H.n + 1) (some ⟨[v', W], true⟩)).n = H5.n := rfl
    generalize ((H5.put H1.n (some ⟨[v', W], true⟩)).put (H.n + 1) (some ⟨[v', W], true⟩)) = H6 at *
    refine k _ _ ⟨v', W, rfl, ?_, ?_⟩ ⟨by omega, fun b hb => ?_⟩
    · show SlC _ _ _ _ _ _
      exact (g4.ext x6).ivB (ok := fun b => H.n + 2 ≤ b ∧ b ≠ H1.n) (fun h _ => ⟨h, by omega⟩) |>.mono (H' := H6) (ok' := fun b => H.n ≤ b) (by omega) (fun b hb _ => o6 b (by omega) hb.2) (fun b hb _ => by omega)
    · exact sv.mono (H' := H6) (ok' := fun b => H.n ≤ b) (by omega) (fun b hb _ => o6 b (by omega) (by omega)) (fun b hb _ => by omega)
    · rw [o6 b (by omega) (by omega), x6.2 b (by omega), x5.2 b hb]
  · -- kind 3, yes
    have kk : s.k = 3 := hk
    simp [kk, hx, Sts.list_of] at k
    rw [kk] at q4
    simp (disch := omega) [x4, load_bk q4, load_bk q4', hx, t1]
    refine K_sl15Ahead (ey.ext x5) (h2.ext x5) hcps.1.2 hcp (by omega) (by omega) fun W H5 sv x6 fw => ?_
    rw [hr] at sv
    have q7 := (x6.2 H1.n (by omega)).trans q5
    have q8 := (x6.2 (H.n + 1) (by omega)).trans q6
    have n5 := x6.1
    have st7 : H5.store H1.n 1 [W] = some (H5.put H1.n (some ⟨[v', W], true⟩)) := store_bk q7 (by simp)
    have q9 : (H5.put H1.n (some ⟨[v', W], true⟩)).bk (H.n + 1) = _ := put_other (by omega) q8
    have st8 : (H5.put H1.n (some ⟨[v', W], true⟩)).store (H.n + 1) 0 [v', W] = some ((H5.put H1.n (some ⟨[v', W], true⟩)).put (H.n + 1) (some ⟨[v', W], true⟩)) := store_bk q9 (by simp)
    simp (disch := omega) [x6, flat_cells fw, flat_tup fw, st7, loadN_bk put_same, st8]
    have o6 : ∀ b, b ≠ H.n + 1 → b ≠ H1.n → ((H5.put H1.n (some ⟨[v', W], true⟩)).put (H.n + 1) (some ⟨[v', W], true⟩)).bk b = H5.bk b := fun b h1 h2 => by rw [put_bk, if_neg h1, put_bk, if_neg h2]
    have n6 : ((H5.put H1.n (some ⟨[v', W], true⟩)).put (H.n + 1) (some ⟨[v', W], true⟩)).n = H5.n := rfl
    generalize ((H5.put H1.n (some ⟨[v', W], true⟩)).put (H.n + 1) (some ⟨[v', W], true⟩)) = H6 at *
    refine k _ _ ⟨v', W, rfl, ?_, ?_⟩ ⟨by omega, fun b hb => ?_⟩
    · show SlC _ _ _ _ _ _
      exact (g4.ext x6).ivB (ok := fun b => H.n + 2 ≤ b ∧ b ≠ H1.n) (fun h _ => ⟨h, by omega⟩) |>.mono (H' := H6) (ok' := fun b => H.n ≤ b) (by omega) (fun b hb _ => o6 b (by omega) hb.2) (fun b hb _ => by omega)
    · exact sv.mono (H' := H6) (ok' := fun b => H.n ≤ b) (by omega) (fun b hb _ => o6 b (by omega) (by omega)) (fun b hb _ => by omega)
    · rw [o6 b (by omega) (by omega), x6.2 b (by omega), x5.2 b hb]
end
end Go.Proofs.YtcibjklpaljadaaGreat.AM
namespace Go.Proofs.YtcibjklpaljadaaGreat.AM
set_option linter.unusedSimpArgs false
set_option linter.unusedVariables false
set_option maxRecDepth 100000
set_option maxHeartbeats 2000000
open Go
def talkP (t : Tk) (bs : List Bx) (s : St1) (r : List St1) : Tk × List Bx × Int :=
  match bs[s.b.toNat]? with
  | none => (t, bs, 3)
  | some b =>
    if s.k = 4 then
      if b.items.length < b.room then (⟨t.vars, Sts.of r⟩, bs.set s.b.toNat ⟨b.room, b.items ++ [evE t.vars s.e]⟩, 1) else (t, bs, 3)
    else match b.items with
      | [] => (t, bs, 3)
      | y :: q => (⟨t.vars.set s.v.toNat y, Sts.of r⟩, bs.set s.b.toNat ⟨b.room, q⟩, 1)
theorem GrS.bv {base G v l cs B} (h : GrS base G v l.length 2 cs B) (k : LF 2 (BC (fun b => base ≤ b ∧ b ≠ B) G) l cs) : BV (fun b => base ≤ b) G v l :=
  ⟨cs, h.slc, k.imp fun _ _ h => h.mono (Nat.le_refl _) (fun _ _ _ => rfl) (fun _ h _ => h.1)⟩
theorem GrS.bv' {base base' G v l cs B} (h : GrS base G v l.length 2 cs B) (k : LF 2 (BC (fun b => base' ≤ b ∧ b ≠ B) G) l cs) (hb : base ≤ base' := by omega) : BV (fun b => base ≤ b) G v l :=
  ⟨cs, h.slc, k.imp fun _ _ h => h.mono (Nat.le_refl _) (fun _ _ _ => rfl) (fun _ h _ => by omega)⟩
section
variable {ok : Nat → Prop} {H : AH} {K : AV → AH → Prop} {w : Fk K} {c : List AV} {t : Tk} {s : St1} {r : List St1} {bs : List Bx} {vb : AV}
theorem K_sl15Talk (h : TC ok H c t) (hb : BV ok H vb bs) (hr : t.rest.list = s :: r) (hk : s.k = 4 ∨ s.k = 5) (hcp : cpS t.rest = true) (hct : ctS t.rest ≤ 10000000) (hoe : s.k = 4 → okE 5 s.e = true) (h4 : t.vars.length = 4) (hw : t.vars.all isW = true)
    (hvb : vaBs bs = true) (hsb : 0 ≤ s.b ∧ s.b < bs.length) (hsv : 0 ≤ s.v ∧ s.v < 4)
    (k : ∀ c' v' H', TC (fun b => H.n ≤ b) H' c' (talkP t bs s r).1 → BV (fun b => H.n ≤ b) H' v' (talkP t bs s r).2.1 → Ext H H' → K (.tup [.agg c', v', .I (talkP t bs s r).2.2]) H') : CallF Cd f_sl15Talk [.agg c, vb] H K w := by
  have h' := h
  obtain ⟨vv, vr, rfl, h1, h2⟩ := h'
  rw [CallF_eq e_sl15Talk rfl]
  obtain ⟨b, o, cap, cc, e1, ob, hbn, l1, s1⟩ := h2.head hr
  obtain ⟨va, vy, vz, rfl, ea, ey, ez⟩ := s1
  have hl : t.rest.list.length = r.length + 1 := by rw [hr]; rfl
  rw [hl] at e1
  subst e1
  unfold vaBs at hvb
  simp only [Bool.and_eq_true, decide_eq_true_eq] at hvb
  have hit : ∀ x ∈ bs, x.items.length ≤ 100000000 := fun x hx => by
    have := List.all_eq_true.1 hvb.1 x hx
    unfold vaB at this
    simp at this
    omega
  have hi : s.b.toNat < bs.length := by omega
  obtain ⟨bx, hbx⟩ : ∃ x, bs[s.b.toNat]? = some x := ⟨_, List.getElem?_eq_getElem hi⟩
  have hvx : vaB bx = true := List.all_eq_true.1 hvb.1 bx (List.mem_of_getElem? hbx)
  obtain ⟨vt, t1, t2, t3⟩ := h2.tail hr
  obtain ⟨bb, bo, bcap, vi, e2, ob2, hbb, lb, iv⟩ := hb.at hbx
  subst e2
  have hb3 := hvb.2
  generalize hL : bs.length = L at *
  have x0 : Ext H ((H.push [vv, .sl b o (r.length + 1) cap]).push [.nils, .nils]) := (Ext.push _ _).trans (Ext.push _ _)
  have x1 : Ext H (((H.push [vv, .sl b o (r.length + 1) cap]).push [.nils, .nils]).push [.I s.k, .I s.v, .I s.b, .I s.e.op, .I s.e.n, va, vy, vz]) := x0.trans (Ext.push _ _)
  have l2 := loadN_extE l1 x0 hbn
  have ct := ct_tail hr
  have cp := cp_tail hr hcp
  simp (disch := omega) [load_push, l2, AH.store, push_put, push_put1, push_put2]
  refine K_sl15BoxesCopy bs hit (hb.ext x1) (by omega) fun vl H1 cs B g1 f1 x2 => ?_
  have n1 := x2.1
  simp only [push_n] at n1
  have q0 : H1.bk H.n = some ⟨[vv, .sl b o (r.length + 1) cap], true⟩ := (x2.2 H.n (by simp only [push_n]; omega)).trans (push_old (by simp only [push_n]; omega) (push_old (by simp) push_new))
  have q1 : H1.bk (H.n + 1) = some ⟨[.nils, .nils], true⟩ := (x2.2 (H.n + 1) (by simp only [push_n]; omega)).trans (push_old (by simp) push_new)
  have q2 : H1.bk (H.n + 2) = some ⟨[.I s.k, .I s.v, .I s.b, .I s.e.op, .I s.e.n, va, vy, vz], true⟩ := (x2.2 (H.n + 2) (by simp)).trans push_new
  have w3 : H1.loadN (H.n + 2) 3 3 = some [.I s.e.op, .I s.e.n, va] := by rw [loadN_bk q2]; rfl
  have x3 := x1.trans x2
  have lb1 := loadN_extE lb x3 hbb
  unfold talkP at k
  rw [hbx] at k
  simp only at k
  rcases hk with hk | hk
  · have hoe' := hoe hk
    simp only [hk, if_true] at k
    rw [hk] at q2
    simp (disch := omega) [load_bk q2, load_bk q0, lb1, w3]
    refine K_sl4Eval s.e.args (d := 5) (ea.ext x3) (h1.ext x3).sees h4 hw hoe' fun H3 x4 => ?_
    have ev : evE t.vars s.e = evE1 t.vars s.e.op s.e.n (evF t.vars s.e.args) := rfl
    have wx := evE_word hw s.e.args (d := 5) (op := s.e.op) (n := s.e.n) hoe'
    rw [ev] at k
    generalize evE1 t.vars s.e.op s.e.n (evF t.vars s.e.args) = X at *
    simp [x4]
    refine K_sBoxPut (b := bx) (ok := ok) ⟨vi, rfl, iv.ext (x3.trans x4)⟩ hvx wx (fun hlt c' H4 hc x5 => ?_) (fun hlt H4 x5 => ?_)
    · simp [hlt] at k
      obtain ⟨vi2, rfl, iv2⟩ := hc
      simp [x5, AH.store, push_put]
      have y5 := (x3.trans x4).trans (x5.trans (Ext.push H4 [.I bx.room, vi2]))
      have z5 := x4.trans (x5.trans (Ext.push H4 [.I bx.room, vi2]))
      have z0 := (z5.2 H.n (by omega)).trans q0
      have z1 := (z5.2 (H.n + 1) (by omega)).trans q1
      have z2 := (z5.2 (H.n + 2) (by omega)).trans q2
      have n5 := z5.1
      have n4 := x4.1
      have n45 := x5.1
      have g5 := g1.ext z5
      rw [hL] at g5
      obtain ⟨lcap, H6, rfl, s1, s2, s3, s4, s5⟩ := g5.store (i := s.b.toNat) (c := [.I bx.room, vi2]) (by omega) rfl
      simp only [push_n] at s4 n5
      have hB : B < H1.n := by
        rcases g1.2.2 with q | q
        · omega
        · exact q.2.1
      have z9 : (H4.push [.I bx.room, vi2]).loadN H4.n 0 2 = some [.I bx.room, vi2] := by rw [loadN_bk push_new]; rfl
      simp (disch := omega) [load_bk z2, z9, s1]
      have n6 := s3.1
      simp only [push_n] at n6
      have x6 : Ext H H6 := ⟨by omega, fun b hb => by rw [s3.2 b (by simp; omega) (by simp; omega), y5.2 b hb]⟩
      have z0' : H6.bk H.n = _ := (s3.2 H.n (by simp; omega) (by simp; omega)).trans z0
      have z1' : H6.bk (H.n + 1) = _ := (s3.2 (H.n + 1) (by simp; omega) (by simp; omega)).trans z1
      have x7 := x6.trans (Ext.push H6 [])
      obtain ⟨v', H7, B1, b1, x8, g8, f8, hB1⟩ := app_newG (l := t.vars) (H := H6.push []) (push_new (cs := [])) (Nat.lt_succ_self _) (base := H6.n) (Nat.le_refl _) (by omega)
      have e2 := (h1.ext x7).src.elems
      have e3 := h1.sees.1
      have n7 := x8.1
      simp only [push_n] at n7 b1 hB1
      have p0 : (H6.push []).bk H.n = _ := push_old (by omega) z0'
      have z0'' : H7.bk H.n = _ := (x8.2 H.n (by simp; omega)).trans p0
      have z1'' : H7.bk (H.n + 1) = _ := (x8.2 (H.n + 1) (by simp; omega)).trans (push_old (by omega) z1')
      simp (disch := omega) [-AM.elems, load_bk p0, e2, e3, b1, x8, load_bk z0'', t1]
      refine K_sl11Copy (Sts.of r) (t2.ext (x7.trans x8)) cp (by omega) fun vr' H8 cs8 B8 u1 u2 x9 => ?_
      have f9 := u1.flat
      have n8 := x9.1
      have z1a := (x9.2 (H.n + 1) (by omega)).trans z1''
      have st : H8.store (H.n + 1) 0 [v', vr'] = some (H8.put (H.n + 1) (some ⟨[v', vr'], true⟩)) := store_bk z1a (by simp)
      simp (disch := omega) [x9, flat_cells f8, flat_tup f8, flat_cells f9, flat_tup f9, st, loadN_bk put_same]
      have hk9 : ∀ b, H.n + 1 < b → (H8.put (H.n + 1) (some ⟨[v', vr'], true⟩)).bk b = H8.bk b := fun b hb => by rw [put_bk, if_neg (by omega)]
      refine k _ _ _ ⟨v', vr', rfl, ?_, ?_⟩ ?_ (((x7.trans x8).trans x9).put (by omega))
      · exact IV.mono (g8.ext x9).iv (by simp) (fun b hb _ => hk9 b (by omega)) (fun b hb _ => by omega)
      · exact (u1.sv u2).mono (by simp) (fun b hb _ => hk9 b (by omega)) (fun b hb _ => by omega)
      · have hlf := LF.set (f1.imp fun _ _ h => h.mono (H' := H6) (ok' := fun b => H.n + 3 ≤ b ∧ b ≠ B) (by omega) (fun b hb hb2 => by
            rw [s3.2 b (by simp; omega) (by simp; exact hb.2), z5.2 b hb2]) (fun b hb _ => hb)) (i := s.b.toNat) (a := (⟨bx.room, bx.items ++ [X]⟩ : Bx)) (c := [.I bx.room, vi2]) (by omega)
          (show BC (fun b => H.n + 3 ≤ b ∧ b ≠ B) H6 [.I bx.room, vi2] ⟨bx.room, bx.items ++ [X]⟩ from ⟨vi2, rfl, (IV.ext iv2 (Ext.push H4 [.I bx.room, vi2])).mono s3.1 (fun b hb hb2 => by have hb' : H3.n ≤ b := hb; exact s3.2 b hb2 (by simp; omega)) (fun b hb _ => by have hb' : H3.n ≤ b := hb; omega)⟩) rfl
        have s2' := s2
        have hls : (bs.set s.b.toNat (⟨bx.room, bx.items ++ [X]⟩ : Bx)).length = L := by simp [hL]
        rw [← hls] at s2'
        have := GrS.bv' s2' hlf (by simp)
        rw [hls] at this
        exact (((this.ext (Ext.push H6 [])).ext x8).ext x9).mono (by simp) (fun b hb _ => hk9 b (by simp at hb; omega)) (fun b hb _ => by simp at hb; omega)
    · simp [hlt] at k
      simp [x5, AH.store, push_put]
      have y5 := (x3.trans x4).trans (x5.trans (Ext.push H4 [.I 0, .nils]))
      have z5 := x4.trans (x5.trans (Ext.push H4 [.I 0, .nils]))
      have z0 := (z5.2 H.n (by omega)).trans q0
      have z1 := (z5.2 (H.n + 1) (by omega)).trans q1
      simp [loadN_bk z0]
      refine K_sl15Copy (h.ext y5) hcp hct (by omega) fun c1 H6 tc x6 => ?_
      have n6 := z5.1
      have n7 := x6.1
      obtain ⟨cv, cr, rfl, u1, u2⟩ := tc
      have st : H6.store (H.n + 1) 0 [cv, cr] = some (H6.put (H.n + 1) (some ⟨[cv, cr], true⟩)) := store_bk ((x6.2 (H.n + 1) (by omega)).trans z1) (by simp)
      simp [st, loadN_bk put_same]
      refine k _ _ _ ⟨cv, cr, rfl, u1.mono (by simp) (fun b hb _ => by rw [put_bk, if_neg (by omega)]) (fun b hb _ => by omega), u2.mono (by simp) (fun b hb _ => by rw [put_bk, if_neg (by omega)]) (fun b hb _ => by omega)⟩ ?_ ((y5.trans x6).put (by omega))
      have g2 := g1.bv' f1
      exact ((g2.ext z5).ext x6).mono (by simp) (fun b hb _ => by rw [put_bk, if_neg (by simp at hb; omega)]) (fun b hb _ => by simp at hb; omega)
  · have h54 : ¬ s.k = 4 := by omega
    simp only [hk, show ¬ (5 : Int) = 4 by omega, if_false] at k
    rw [hk] at q2
    simp (disch := omega) [load_bk q2, lb1]
    refine K_sBoxTake (b := bx) (ok := ok) ⟨vi, rfl, iv.ext x3⟩ hvx (fun y q hyq c' H4 hc x5 => ?_) (fun hnil H4 x5 => ?_)
    · rw [hyq] at k
      simp only at k
      obtain ⟨vi2, rfl, iv2⟩ := hc
      simp [AH.store, push_put]
      have z5 := x5.trans (Ext.push H4 [.I bx.room, vi2])
      have y5 := x3.trans z5
      have z0 := (z5.2 H.n (by omega)).trans q0
      have z1 := (z5.2 (H.n + 1) (by omega)).trans q1
      have z2 := (z5.2 (H.n + 2) (by omega)).trans q2
      have n5 := z5.1
      have n45 := x5.1
      have g5 := g1.ext z5
      rw [hL] at g5
      obtain ⟨lcap, H6, rfl, s1, s2, s3, s4, s5⟩ := g5.store (i := s.b.toNat) (c := [.I bx.room, vi2]) (by omega) rfl
      simp only [push_n] at s4 n5
      have hB : B < H1.n := by
        rcases g1.2.2 with q | q
        · omega
        · exact q.2.1
      have z9 : (H4.push [.I bx.room, vi2]).loadN H4.n 0 2 = some [.I bx.room, vi2] := by rw [loadN_bk push_new]; rfl
      have n6 := s3.1
      simp only [push_n] at n6
      have x6 : Ext H H6 := ⟨by omega, fun b hb => by rw [s3.2 b (by simp; omega) (by simp; omega), y5.2 b hb]⟩
      have z0' : H6.bk H.n = _ := (s3.2 H.n (by simp; omega) (by simp; omega)).trans z0
      have z1' : H6.bk (H.n + 1) = _ := (s3.2 (H.n + 1) (by simp; omega) (by simp; omega)).trans z1
      have z2' : H6.bk (H.n + 2) = _ := (s3.2 (H.n + 2) (by simp; omega) (by simp; omega)).trans z2
      simp (disch := omega) [load_bk z2, z9, s1, loadN_bk z0', load_bk z2']
      refine K_sl15Set (v := s.v) (x := y) (h.ext x6) hr hcp hct (by omega) (by omega) fun c1 H8 tc x9 => ?_
      have n8 := x9.1
      obtain ⟨cv, cr, rfl, u1, u2⟩ := tc
      have st : H8.store (H.n + 1) 0 [cv, cr] = some (H8.put (H.n + 1) (some ⟨[cv, cr], true⟩)) := store_bk ((x9.2 (H.n + 1) (by omega)).trans z1') (by simp)
      have hk9 : ∀ b, H.n + 1 < b → (H8.put (H.n + 1) (some ⟨[cv, cr], true⟩)).bk b = H8.bk b := fun b hb => by rw [put_bk, if_neg (by omega)]
      simp [st, loadN_bk put_same]
      refine k _ _ _ ⟨cv, cr, rfl, u1.mono (by simp) (fun b hb _ => hk9 b (by omega)) (fun b hb _ => by omega), u2.mono (by simp) (fun b hb _ => hk9 b (by omega)) (fun b hb _ => by omega)⟩ ?_ ((x6.trans x9).put (by omega))
      have hlf := LF.set (f1.imp fun _ _ h => h.mono (H' := H6) (ok' := fun b => H.n + 3 ≤ b ∧ b ≠ B) (by omega) (fun b hb hb2 => by
            rw [s3.2 b (by simp; omega) (by simp; exact hb.2), z5.2 b hb2]) (fun b hb _ => hb)) (i := s.b.toNat) (a := (⟨bx.room, q⟩ : Bx)) (c := [.I bx.room, vi2]) (by omega)
          (show BC (fun b => H.n + 3 ≤ b ∧ b ≠ B) H6 [.I bx.room, vi2] ⟨bx.room, q⟩ from ⟨vi2, rfl, (IV.ext iv2 (Ext.push H4 [.I bx.room, vi2])).mono s3.1 (fun b hb hb2 => by have hb' : H1.n ≤ b := hb; exact s3.2 b hb2 (by simp; omega)) (fun b hb _ => by have hb' : H1.n ≤ b := hb; omega)⟩) rfl
      have s2' := s2
      have hls : (bs.set s.b.toNat (⟨bx.room, q⟩ : Bx)).length = L := by simp [hL]
      rw [← hls] at s2'
      have := GrS.bv' s2' hlf (by simp)
      rw [hls] at this
      exact (this.ext x9).mono (by simp) (fun b hb _ => hk9 b (by simp at hb; omega)) (fun b hb _ => by simp at hb; omega)
    · rw [hnil] at k
      simp only at k
      simp [AH.store, push_put]
      have z5 := x5.trans (Ext.push H4 [.I 0, .nils])
      have y5 := x3.trans z5
      have z0 := (z5.2 H.n (by omega)).trans q0
      have z1 := (z5.2 (H.n + 1) (by omega)).trans q1
      simp [loadN_bk z0]
      refine K_sl15Copy (h.ext y5) hcp hct (by omega) fun c1 H6 tc x6 => ?_
      have n6 := z5.1
      have n7 := x6.1
      obtain ⟨cv, cr, rfl, u1, u2⟩ := tc
      have st : H6.store (H.n + 1) 0 [cv, cr] = some (H6.put (H.n + 1) (some ⟨[cv, cr], true⟩)) := store_bk ((x6.2 (H.n + 1) (by omega)).trans z1) (by simp)
      simp [st, loadN_bk put_same]
      refine k _ _ _ ⟨cv, cr, rfl, u1.mono (by simp) (fun b hb _ => by rw [put_bk, if_neg (by omega)]) (fun b hb _ => by omega), u2.mono (by simp) (fun b hb _ => by rw [put_bk, if_neg (by omega)]) (fun b hb _ => by omega)⟩ ?_ ((y5.trans x6).put (by omega))
      have g2 := g1.bv' f1
      exact ((g2.ext z5).ext x6).mono (by simp) (fun b hb _ => by rw [put_bk, if_neg (by simp at hb; omega)]) (fun b hb _ => by simp at hb; omega)
end
end Go.Proofs.YtcibjklpaljadaaGreat.AM
namespace Go.Proofs.YtcibjklpaljadaaGreat.AM
set_option linter.unusedSimpArgs false
set_option linter.unusedVariables false
set_option maxRecDepth 100000
set_option maxHeartbeats 2000000
open Go
def stepP (t : Tk) (bs : List Bx) : Tk × List Bx × List Int × Int :=
  match t.rest.list with
  | [] => (t, bs, [], 4)
  | s :: r =>
    if s.k = 4 ∨ s.k = 5 then ((talkP t bs s r).1, (talkP t bs s r).2.1, [], (talkP t bs s r).2.2)
    else if s.k = 2 ∨ s.k = 3 then (⟨t.vars, blkR s r (evE t.vars s.e)⟩, bs, [], 1)
    else if s.k = 1 then (⟨t.vars.set s.v.toNat (evE t.vars s.e), Sts.of r⟩, bs, [], 1)
    else if s.k = 6 then (⟨t.vars, Sts.of r⟩, bs, [], 2)
    else (⟨t.vars, Sts.of r⟩, bs, [evE t.vars s.e], 1)
def stOk (t : Tk) (bs : List Bx) : Bool := vaT 3 t && vaBs bs && rdT t bs.length
def stepF (t : Tk) (bs : List Bx) : Tk × List Bx × List Int × Int := if stOk t bs = true then stepP t bs else (⟨[], .nil⟩, [], [], 0)
theorem vaS_one {boxes : Int} {s : St1} (h : vaS boxes (Sts.of [s]) = true) : okT boxes 3 s = true ∧ ctT s ≤ 16 := by
  unfold vaS at h
  rw [okS_mem, Sts.list_of, ctS_of] at h
  simp at h
  exact h
theorem okT_facts {boxes nest : Int} {s : St1} (h : okT boxes nest s = true) : (1 ≤ s.k ∧ s.k ≤ 7) ∧ (s.k ≠ 5 → s.k ≠ 6 → okE 5 s.e = true) ∧ (s.k = 1 ∨ s.k = 5 → 0 ≤ s.v ∧ s.v < 4) ∧ (s.k = 4 ∨ s.k = 5 → 0 ≤ s.b ∧ s.b < boxes) ∧ (s.k = 4 → s.v = 0) := by
  unfold okT okS1 at h
  simp only [Bool.and_eq_true] at h
  have h := h.1
  unfold stV at h
  by_cases k1 : s.k = 1
  · simp [k1] at h ⊢; exact ⟨h.2, by omega⟩
  by_cases k2 : s.k = 2
  · simp [k2] at h ⊢; exact h.2
  by_cases k3 : s.k = 3
  · simp [k3] at h ⊢; exact h.2
  by_cases k4 : s.k = 4
  · simp [k4] at h ⊢; exact ⟨h.2, by omega⟩
  by_cases k5 : s.k = 5
  · simp [k5] at h ⊢; omega
  by_cases k6 : s.k = 6
  · simp [k6] at h ⊢
  by_cases k7 : s.k = 7
  · simp [k7] at h ⊢; exact h.2
  simp [k1, k2, k3, k4, k5, k6, k7] at h
theorem vaT_facts {boxes : Int} {t : Tk} (h : vaT boxes t = true) : t.vars.length = 4 ∧ t.vars.all isW = true ∧ (∀ s ∈ t.rest.list, okT boxes 3 s = true ∧ ctT s ≤ 16) ∧ cpS t.rest = true := by
  unfold vaT at h
  simp only [Bool.and_eq_true, decide_eq_true_eq] at h
  have h3 : ∀ s ∈ t.rest.list, okT boxes 3 s = true ∧ ctT s ≤ 16 := fun s hs => vaS_one (List.all_eq_true.1 h.2 s hs)
  refine ⟨h.1.1, h.1.2, h3, ?_⟩
  refine cp_of_okS (boxes := boxes) (nest := 3) ?_
  rw [okS_mem, List.all_eq_true]
  exact fun s hs => (h3 s hs).1
theorem IV.nilp {ok H v} (h : v = .nils ∨ v = .esl) : IV ok H v [] := ⟨by simp, rfl, .inl ⟨rfl, h⟩⟩
theorem IV.emp {ok : Nat → Prop} {H : AH} {b : Nat} (h : H.bk b = some ⟨[], true⟩) (hb : b < H.n) (ho : ok b) : IV ok H (.sl b 0 0 (.ex 0)) [] :=
  ⟨by simp, rfl, .inr ⟨b, 0, _, rfl, ⟨ho, Nat.le_refl _⟩, hb, by rw [loadN_bk h]; rfl⟩⟩
theorem BV.emp {ok : Nat → Prop} {H : AH} {b : Nat} (h : H.bk b = some ⟨[], true⟩) (hb : b < H.n) (ho : ok b) : BV ok H (.sl b 0 0 (.ex 0)) [] :=
  ⟨[], ⟨by simp, rfl, .inr ⟨b, 0, _, rfl, ⟨ho, Nat.le_refl _⟩, hb, by rw [loadN_bk h]; rfl⟩⟩, rfl⟩
section
variable {ok : Nat → Prop} {H : AH} {K : AV → AH → Prop} {w : Fk K} {c : List AV} {t : Tk} {s : St1} {r : List St1} {bs : List Bx} {vb : AV}
theorem K_sTaskStep (h : TC ok H c t) (hb : BV ok H vb bs) (hct : ctS t.rest ≤ 10000000)
    (k : ∀ c' v' p' H', TC (fun b => H.n ≤ b) H' c' (stepF t bs).1 → BV (fun b => H.n ≤ b) H' v' (stepF t bs).2.1 → IV (fun b => H.n ≤ b) H' p' (stepF t bs).2.2.1 → Ext H H' → v'.flat = true → p'.flat = true → K (.tup [.agg c', v', p', .I (stepF t bs).2.2.2]) H') : CallF Cd f_sTaskStep [.agg c, vb] H K w := by
  have h' := h
  obtain ⟨vv, vr, rfl, h1, h2⟩ := h'
  rw [CallF_eq e_sTaskStep rfl]
  have x0 : Ext H ((H.push [vv, vr]).push [.nils, .nils]) := (Ext.push _ _).trans (Ext.push _ _)
  simp [loadN_push]
  refine K_sTaskValid (h.ext x0) hct fun H1 x1 => ?_
  have n1 := x1.1
  simp only [push_n] at n1
  have q0 : H1.bk H.n = some ⟨[vv, vr], true⟩ := (x1.2 _ (by simp; omega)).trans (push_old (by simp) push_new)
  have q1 : H1.bk (H.n + 1) = some ⟨[.nils, .nils], true⟩ := (x1.2 _ (by simp)).trans push_new
  have y1 := x0.trans x1
  have bad : ∀ H2, Ext H1 H2 → stOk t bs = false → K (.tup [.agg [.nils, .nils], .sl H2.n 0 0 (.ex 0), .sl (H2.n + 1) 0 0 (.ex 0), .I 0]) (((H2.push []).push []).put (H.n + 1) (some ⟨[.nils, .nils], true⟩)) := by
    intro H2 x2 hbad
    have n2 := x2.1
    have e : stepF t bs = (⟨[], .nil⟩, [], [], 0) := by unfold stepF; rw [hbad]; rfl
    have e1 : (((H2.push []).push []).put (H.n + 1) (some ⟨[.nils, .nils], true⟩)).bk H2.n = some ⟨[], true⟩ := by rw [put_bk, if_neg (by omega)]; exact push_old (by simp) push_new
    have e2 : (((H2.push []).push []).put (H.n + 1) (some ⟨[.nils, .nils], true⟩)).bk (H2.n + 1) = some ⟨[], true⟩ := by rw [put_bk, if_neg (by omega)]; exact push_new (H := H2.push [])
    have := k [.nils, .nils] (.sl H2.n 0 0 (.ex 0)) (.sl (H2.n + 1) 0 0 (.ex 0)) (((H2.push []).push []).put (H.n + 1) (some ⟨[.nils, .nils], true⟩))
    rw [e] at this
    exact this ⟨_, _, rfl, IV.nilp (.inl rfl), SV.nil (.inl rfl)⟩ (BV.emp e1 (by simp; omega) (by omega)) (IV.emp e2 (by simp) (by omega)) ((((y1.trans x2).trans (Ext.push _ _)).trans (Ext.push _ _)).put (by omega)) rfl rfl
  have stb : ∀ H2, Ext H1 H2 → ((H2.push []).push []).store (H.n + 1) 0 [.nils, .nils] = some (((H2.push []).push []).put (H.n + 1) (some ⟨[.nils, .nils], true⟩)) := fun H2 x2 =>
    store_bk (push_old (by have := x2.1; simp; omega) (push_old (by have := x2.1; omega) ((x2.2 _ (by omega)).trans q1))) (by simp)
  cases hv1 : vaT 3 t with
  | false =>
    simp [stb H1 (Ext.refl _), loadN_bk put_same]
    exact bad H1 (Ext.refl _) (by unfold stOk; rw [hv1]; rfl)
  | true =>
  simp
  refine K_sl15Boxes (hb.ext y1) fun H2 x2 => ?_
  cases hv2 : vaBs bs with
  | false =>
    simp [stb H2 x2, loadN_bk put_same]
    exact bad H2 x2 (by unfold stOk; rw [hv1, hv2]; rfl)
  | true =>
  have q2 := (x2.2 _ (by omega)).trans q0
  simp [loadN_bk q2]
  refine K_sl15Ready (h.ext (y1.trans x2)) hb.alen hb.big fun H3 x3 => ?_
  cases hv3 : rdT t bs.length with
  | false =>
    simp [stb H3 (x2.trans x3), loadN_bk put_same]
    exact bad H3 (x2.trans x3) (by unfold stOk; rw [hv1, hv2, hv3]; rfl)
  | true =>
  have hok : stepF t bs = stepP t bs := by unfold stepF stOk; rw [hv1, hv2, hv3]; rfl
  rw [hok] at k
  clear bad stb hok
  have y3 := (y1.trans x2).trans x3
  have n2 := x2.1
  have n3 := x3.1
  have p0 := (x3.2 _ (by omega)).trans q2
  have p1 := (x3.2 _ (by omega)).trans ((x2.2 _ (by omega)).trans q1)
  obtain ⟨f1, f2, f3, f4⟩ := vaT_facts hv1
  have hbb := hv2
  unfold vaBs at hbb
  simp only [Bool.and_eq_true, decide_eq_true_eq] at hbb
  have hit : ∀ x ∈ bs, x.items.length ≤ 100000000 := fun x hx => by
    have := List.all_eq_true.1 hbb.1 x hx
    unfold vaB at this
    simp at this
    omega
  have hbig := h2.big
  have halr := h2.alen
  clear x1 x2 x3 q0 q1 q2
  generalize hL : t.rest.list.length = L at *
  have fin : ∀ (G : AH) cv cr v' p', TC (fun b => H.n + 2 ≤ b) G [cv, cr] (stepP t bs).1 → BV (fun b => H.n + 2 ≤ b) G v' (stepP t bs).2.1 → IV (fun b => H.n + 2 ≤ b) G p' (stepP t bs).2.2.1 → Ext H G → v'.flat = true → p'.flat = true →
      K (.tup [.agg [cv, cr], v', p', .I (stepP t bs).2.2.2]) (G.put (H.n + 1) (some ⟨[cv, cr], true⟩)) := by
    intro G cv cr v' p' a1 a2 a3 a4 a5 a6
    have hk : ∀ b, H.n + 2 ≤ b → b < G.n → (G.put (H.n + 1) (some ⟨[cv, cr], true⟩)).bk b = G.bk b := fun b hb _ => by rw [put_bk, if_neg (by omega)]
    exact k _ _ _ _ (a1.mono (Nat.le_refl _) hk (fun b hb _ => by omega)) (a2.mono (Nat.le_refl _) hk (fun b hb _ => by omega)) (a3.mono (Nat.le_refl _) hk (fun b hb _ => by omega)) (a4.put (by omega)) a5 a6
  have stf : ∀ (G : AH) cv cr, Ext H3 G → G.store (H.n + 1) 0 [cv, cr] = some (G.put (H.n + 1) (some ⟨[cv, cr], true⟩)) := fun G cv cr x => store_bk ((x.2 _ (by omega)).trans p1) (by simp)
  clear k
  cases hr : t.rest.list with
  | nil =>
    rw [hr] at hL
    simp at hL
    subst hL
    have eP : stepP t bs = (t, bs, [], 4) := by unfold stepP; rw [hr]
    rw [eP] at fin
    simp [load_bk p0, halr, loadN_bk p0]
    refine K_sl15Copy (h.ext y3) f4 hct (by omega) fun c4 H4 tc x4 => ?_
    simp
    refine K_sl15BoxesCopy bs hit (hb.ext (y3.trans x4)) (by omega) fun v5 H5 cs B g1 g2 x5 => ?_
    obtain ⟨cv, cr, rfl, u1, u2⟩ := tc
    have n4 := x4.1
    have n5 := x5.1
    have fv := g1.flat
    simp [stf _ cv cr ((x4.trans x5).trans (Ext.push _ [])), loadN_bk put_same]
    exact fin (H5.push []) cv cr v5 _ ((show TC (fun b => H3.n ≤ b) H4 [cv, cr] t from ⟨cv, cr, rfl, u1, u2⟩).mono (by simp; omega) (fun b _ hb => ((x5.trans (Ext.push _ [])).2 b hb)) (fun b hb _ => by omega))
      ((g1.bv' g2).mono (by simp) (fun b _ hb => (Ext.push _ []).2 b hb) (fun b hb _ => by omega)) (IV.emp push_new (by simp) (by omega)) (((y3.trans x4).trans x5).trans (Ext.push _ [])) fv rfl
  | cons s r =>
    have hmem : s ∈ t.rest.list := by rw [hr]; simp
    obtain ⟨g0, g1, g2, g3, g4⟩ := okT_facts (f3 s hmem).1
    obtain ⟨b, o, cap, cc, e1, ob, hbn, l1, s1⟩ := h2.head hr
    rw [hL] at e1
    subst e1
    have hLr : L = r.length + 1 := by rw [← hL, hr]; rfl
    have l3 := loadN_extE l1 y3 hbn
    obtain ⟨va, vy, vz, rfl, ea, ey, ez⟩ := s1
    have hL0 : ¬ L = 0 := by omega
    have y4 := y3.trans (Ext.push H3 [.I s.k, .I s.v, .I s.b, .I s.e.op, .I s.e.n, va, vy, vz])
    have xs := Ext.push H3 [.I s.k, .I s.v, .I s.b, .I s.e.op, .I s.e.n, va, vy, vz]
    have q8 : (H3.push [.I s.k, .I s.v, .I s.b, .I s.e.op, .I s.e.n, va, vy, vz]).bk H3.n = some ⟨[.I s.k, .I s.v, .I s.b, .I s.e.op, .I s.e.n, va, vy, vz], true⟩ := push_new
    have p8 := (xs.2 H.n (by omega)).trans p0
    by_cases k45 : s.k = 4 ∨ s.k = 5
    · have eP : stepP t bs = ((talkP t bs s r).1, (talkP t bs s r).2.1, [], (talkP t bs s r).2.2) := by unfold stepP; rw [hr]; simp only [if_pos k45]
      rw [eP] at fin
      have hsb : s.b < bs.length := by
        unfold rdT at hv3; rw [hr] at hv3; simp at hv3; omega
      have hsv : 0 ≤ s.v ∧ s.v < 4 := by
        rcases k45 with q | q
        · have := g4 q; omega
        · exact g2 (.inr q)
      have T := fun (K : AV → AH → Prop) (w : Fk K) => K_sl15Talk (K := K) (w := w) (h.ext y4) (hb.ext y4) hr k45 f4 hct (fun q => g1 (by omega) (by omega)) f1 f2 hv2 ⟨(g3 k45).1, hsb⟩ hsv
      rcases k45 with kk | kk
      all_goals
        rw [kk] at q8 p8 xs
        simp (disch := omega) [load_bk p0, hL0, l3, AH.store, push_put, load_bk q8, kk, loadN_bk p8]
        rw [kk] at T
        refine T _ _ fun c5 v5 H5 tc bv x5 => ?_
        obtain ⟨cv, cr, rfl, u1, u2⟩ := tc
        have fv := bv.flat
        have z5 := (xs.trans x5).trans ((Ext.push H5 [cv, cr]).trans (Ext.push _ []))
        have z9 : ((H5.push [cv, cr])).loadN H5.n 0 2 = some [cv, cr] := by rw [loadN_bk push_new]; rfl
        simp [AH.store, push_put]
        simp [z9, stf _ cv cr z5, loadN_bk put_same]
        have n5 := x5.1
        simp only [push_n] at n5
        exact fin _ cv cr v5 _ ((show TC (fun b => H3.n + 1 ≤ b) H5 [cv, cr] _ from ⟨cv, cr, rfl, u1, u2⟩).mono (by simp; omega) (fun b _ hb => (((Ext.push H5 [cv, cr]).trans (Ext.push _ [])).2 b hb)) (fun b hb _ => by omega))
          (bv.mono (by simp; omega) (fun b _ hb => ((Ext.push H5 [cv, cr]).trans (Ext.push _ [])).2 b hb) (fun b hb _ => by simp at hb; omega)) (IV.emp push_new (by simp) (by simp; omega)) (y3.trans z5) fv rfl
    have k4 : ¬ s.k = 4 := fun q => k45 (.inl q)
    have k5 : ¬ s.k = 5 := fun q => k45 (.inr q)
    by_cases k23 : s.k = 2 ∨ s.k = 3
    · have eP : stepP t bs = (⟨t.vars, blkR s r (evE t.vars s.e)⟩, bs, [], 1) := by unfold stepP; rw [hr]; simp only [if_neg k45, if_pos k23]
      rw [eP] at fin
      have hoe := g1 k5 (by omega)
      rcases k23 with kk | kk
      all_goals
        have T := fun (K : AV → AH → Prop) (w : Fk K) => K_sl15Block (K := K) (w := w) (h.ext y4) hr (by omega) f4 hct hoe f1 f2
        rw [kk] at q8 p8 xs T
        simp (disch := omega) [load_bk p0, hL0, l3, AH.store, push_put, load_bk q8, kk, loadN_bk p8]
        refine T _ _ fun c5 H5 tc x5 => ?_
        simp
        refine K_sl15BoxesCopy bs hit (hb.ext ((y3.trans xs).trans x5)) (by omega) fun v5 H6 cs B g5 g6 x6 => ?_
        obtain ⟨cv, cr, rfl, u1, u2⟩ := tc
        have fv := g5.flat
        have n5 := x5.1
        have n6 := x6.1
        simp only [push_n] at n5
        have z5 := ((xs.trans x5).trans x6).trans (Ext.push _ [])
        have fin' := fin (H6.push []) cv cr v5 (.sl H6.n 0 0 (.ex 0)) ((show TC (fun b => H3.n + 1 ≤ b) H5 [cv, cr] _ from ⟨cv, cr, rfl, u1, u2⟩).mono (by simp; omega) (fun b _ hb => ((x6.trans (Ext.push _ [])).2 b hb)) (fun b hb _ => by omega))
          ((g5.bv' g6).mono (by simp) (fun b _ hb => (Ext.push _ []).2 b hb) (fun b hb _ => by omega)) (IV.emp push_new (by simp) (by omega)) (y3.trans z5) fv rfl
        simp [flat_cells fv, flat_tup fv, stf _ cv cr z5, loadN_bk put_same]
        exact fin'
    have k2 : ¬ s.k = 2 := fun q => k23 (.inl q)
    have k3 : ¬ s.k = 3 := fun q => k23 (.inr q)
    by_cases k1 : s.k = 1
    · have eP : stepP t bs = (⟨t.vars.set s.v.toNat (evE t.vars s.e), Sts.of r⟩, bs, [], 1) := by unfold stepP; rw [hr]; simp only [if_neg k45, if_neg k23, if_pos k1]
      rw [eP] at fin
      have hoe := g1 k5 (by omega)
      have hv := g2 (.inl k1)
      rw [k1] at q8 p8 xs
      have w8 : (H3.push [.I 1, .I s.v, .I s.b, .I s.e.op, .I s.e.n, va, vy, vz]).loadN H3.n 3 3 = some [.I s.e.op, .I s.e.n, va] := by rw [loadN_bk q8]; rfl
      simp (disch := omega) [load_bk p0, hL0, l3, AH.store, push_put, load_bk q8, k1, loadN_bk p8, load_bk p8, w8]
      refine K_sl4Eval s.e.args (d := 5) (ea.ext (y3.trans xs)) (h1.ext (y3.trans xs)).sees f1 f2 hoe fun H4 x4 => ?_
      have ev : evE t.vars s.e = evE1 t.vars s.e.op s.e.n (evF t.vars s.e.args) := rfl
      rw [ev] at fin
      generalize evE1 t.vars s.e.op s.e.n (evF t.vars s.e.args) = X at *
      simp [x4]
      refine K_sl15Set (v := s.v) (x := X) (h.ext ((y3.trans xs).trans x4)) hr f4 hct (by omega) (by omega) fun c5 H5 tc x5 => ?_
      simp [x5]
      have n4 := x4.1
      simp only [push_n] at n4
      refine K_sl15BoxesCopy bs hit (hb.ext (((y3.trans xs).trans x4).trans x5)) (by omega) fun v5 H6 cs B g5 g6 x6 => ?_
      obtain ⟨cv, cr, rfl, u1, u2⟩ := tc
      have fv := g5.flat
      have n5 := x5.1
      have n6 := x6.1
      have z5 := (((xs.trans x4).trans x5).trans x6).trans (Ext.push _ [])
      have fin' := fin (H6.push []) cv cr v5 (.sl H6.n 0 0 (.ex 0)) ((show TC (fun b => H4.n ≤ b) H5 [cv, cr] _ from ⟨cv, cr, rfl, u1, u2⟩).mono (by simp; omega) (fun b _ hb => ((x6.trans (Ext.push _ [])).2 b hb)) (fun b hb _ => by omega))
        ((g5.bv' g6).mono (by simp) (fun b _ hb => (Ext.push _ []).2 b hb) (fun b hb _ => by omega)) (IV.emp push_new (by simp) (by omega)) (y3.trans z5) fv rfl
      have hq : ¬ H6.n = H.n + 1 := by omega
      simp [x6, hq, flat_cells fv, flat_tup fv, stf _ cv cr z5, loadN_bk put_same]
      exact fin'
    have k67 : s.k = 6 ∨ s.k = 7 := by omega
    obtain ⟨vt, t1, t2, t3⟩ := h2.tail hr
    have ct := ct_tail hr
    have cp := cp_tail hr f4
    rcases k67 with kk | kk
    · have eP : stepP t bs = (⟨t.vars, Sts.of r⟩, bs, [], 2) := by unfold stepP; rw [hr]; simp only [if_neg k45, if_neg k23, if_neg k1, if_pos kk]
      rw [eP] at fin
      rw [kk] at q8 p8 xs
      have q9 : ((H3.push [.I 6, .I s.v, .I s.b, .I s.e.op, .I s.e.n, va, vy, vz]).push []).bk H.n = _ := push_old (by simp; omega) p8
      have x4 := (y3.trans xs).trans (Ext.push _ [])
      obtain ⟨v', H4, B1, b1, x5, g8, f8, hB1⟩ := app_newG (l := t.vars) (H := (H3.push [.I 6, .I s.v, .I s.b, .I s.e.op, .I s.e.n, va, vy, vz]).push []) (push_new (cs := [])) (Nat.lt_succ_self _) (base := H3.n) (by simp) (by omega)
      have e2 := (h1.ext x4).src.elems
      have e3 := h1.sees.1
      have n5 := x5.1
      simp only [push_n] at n5 b1 hB1
      have q10 := (x5.2 H.n (by simp; omega)).trans q9
      have q11 : H4.bk H3.n = some ⟨[.I 6, .I s.v, .I s.b, .I s.e.op, .I s.e.n, va, vy, vz], true⟩ := (x5.2 H3.n (by simp; omega)).trans (push_old (by simp) q8)
      simp (disch := omega) [-AM.elems, load_bk p0, hL0, l3, AH.store, push_put, load_bk q8, kk, load_bk q9, e2, e3, b1, x5, load_bk q10, t1]
      refine K_sl11Copy (Sts.of r) (t2.ext (x4.trans x5)) cp (by omega) fun vr' H5 cs5 B5 u1 u2 x6 => ?_
      have f9 := u1.flat
      have n6 := x6.1
      have stA : (H5.push [.nils, .nils]).store H5.n 0 [v', vr'] = some (H5.push [v', vr']) := by
        rw [store_bk push_new (by simp), push_put]; rfl
      have q12 : (H5.push [v', vr']).bk H3.n = _ := push_old (by omega) ((x6.2 H3.n (by omega)).trans q11)
      have z12 : (H5.push [v', vr']).loadN H5.n 0 2 = some [v', vr'] := by rw [loadN_bk push_new]; rfl
      simp (disch := omega) [x6, flat_cells f8, flat_tup f8, flat_cells f9, flat_tup f9, stA, load_bk q12, z12]
      refine K_sl15BoxesCopy bs hit (hb.ext (((x4.trans x5).trans x6).trans (Ext.push _ _))) (by omega) fun v5 H6 cs B g5 g6 x7 => ?_
      have fv := g5.flat
      have n7 := x7.1
      simp only [push_n] at n7
      have z5 : Ext H3 (H6.push []) := ((((((xs.trans (Ext.push _ [])).trans x5).trans x6).trans (Ext.push _ [v', vr'])).trans x7)).trans (Ext.push _ [])
      have e9 : Ext H5 (H6.push []) := ((Ext.push _ [v', vr']).trans x7).trans (Ext.push _ [])
      have fin' := fin (H6.push []) v' vr' v5 (.sl H6.n 0 0 (.ex 0)) ⟨v', vr', rfl, IV.mono (IV.ext (IV.ext g8.iv x6) e9) (Nat.le_refl _) (fun _ _ _ => rfl) (fun b hb _ => by omega), ((u1.sv u2).ext e9).mono (Nat.le_refl _) (fun _ _ _ => rfl) (fun b hb _ => by omega)⟩
        ((g5.bv' g6).mono (by simp) (fun b _ hb => (Ext.push _ []).2 b hb) (fun b hb _ => by simp at hb; omega)) (IV.emp push_new (by simp) (by omega)) (y3.trans z5) fv rfl
      have hq : ¬ H6.n = H.n + 1 := by omega
      simp [x7, hq, stf _ v' vr' z5, loadN_bk put_same]
      exact fin'
    · have eP : stepP t bs = (⟨t.vars, Sts.of r⟩, bs, [evE t.vars s.e], 1) := by unfold stepP; rw [hr]; simp only [if_neg k45, if_neg k23, if_neg k1, if_neg (show ¬ s.k = 6 by omega)]
      rw [eP] at fin
      rw [kk] at q8 p8 xs
      have q9 : ((H3.push [.I 7, .I s.v, .I s.b, .I s.e.op, .I s.e.n, va, vy, vz]).push []).bk H.n = _ := push_old (by simp; omega) p8
      have x4 := (y3.trans xs).trans (Ext.push _ [])
      obtain ⟨v', H4, B1, b1, x5, g8, f8, hB1⟩ := app_newG (l := t.vars) (H := (H3.push [.I 7, .I s.v, .I s.b, .I s.e.op, .I s.e.n, va, vy, vz]).push []) (push_new (cs := [])) (Nat.lt_succ_self _) (base := H3.n) (by simp) (by omega)
      have e2 := (h1.ext x4).src.elems
      have e3 := h1.sees.1
      have n5 := x5.1
      simp only [push_n] at n5 b1 hB1
      have q10 := (x5.2 H.n (by simp; omega)).trans q9
      have q11 : H4.bk H3.n = some ⟨[.I 7, .I s.v, .I s.b, .I s.e.op, .I s.e.n, va, vy, vz], true⟩ := (x5.2 H3.n (by simp; omega)).trans (push_old (by simp) q8)
      simp (disch := omega) [-AM.elems, load_bk p0, hL0, l3, AH.store, push_put, load_bk q8, kk, load_bk q9, e2, e3, b1, x5, load_bk q10, t1]
      refine K_sl11Copy (Sts.of r) (t2.ext (x4.trans x5)) cp (by omega) fun vr' H5 cs5 B5 u1 u2 x6 => ?_
      have f9 := u1.flat
      have n6 := x6.1
      have stA : (H5.push [.nils, .nils]).store H5.n 0 [v', vr'] = some (H5.push [v', vr']) := by
        rw [store_bk push_new (by simp), push_put]; rfl
      have q12 : (H5.push [v', vr']).bk H3.n = _ := push_old (by omega) ((x6.2 H3.n (by omega)).trans q11)
      have z12 : (H5.push [v', vr']).loadN H5.n 0 2 = some [v', vr'] := by rw [loadN_bk push_new]; rfl
      simp (disch := omega) [x6, flat_cells f8, flat_tup f8, flat_cells f9, flat_tup f9, stA, load_bk q12, z12]
      refine K_sl15BoxesCopy bs hit (hb.ext (((x4.trans x5).trans x6).trans (Ext.push _ _))) (by omega) fun v5 H6 cs B g5 g6 x7 => ?_
      have fv := g5.flat
      have n7 := x7.1
      simp only [push_n] at n7
      have hoe := g1 k5 (by omega)
      have q13 : H6.bk H3.n = _ := (x7.2 H3.n (by simp; omega)).trans q12
      have w13 : H6.loadN H3.n 3 3 = some [.I s.e.op, .I s.e.n, va] := by rw [loadN_bk q13]; rfl
      have y7 := ((((x4.trans x5).trans x6).trans (Ext.push _ [v', vr'])).trans x7)
      have q14 : H6.bk H.n = _ := (x7.2 H.n (by simp; omega)).trans (push_old (by omega) ((x6.2 H.n (by omega)).trans q10))
      simp [x7, w13, load_bk q14]
      refine K_sl4Eval s.e.args (d := 5) (ea.ext y7) (h1.ext y7).sees f1 f2 hoe fun H7 x8 => ?_
      have ev : evE t.vars s.e = evE1 t.vars s.e.op s.e.n (evF t.vars s.e.args) := rfl
      rw [ev] at fin
      generalize evE1 t.vars s.e.op s.e.n (evF t.vars s.e.args) = X at *
      have n8 := x8.1
      have z5 : Ext H3 (H7.push [.I X]) := (((((((xs.trans (Ext.push _ [])).trans x5).trans x6).trans (Ext.push _ [v', vr'])).trans x7)).trans x8).trans (Ext.push _ [.I X])
      have e9 : Ext H5 (H7.push [.I X]) := (((Ext.push _ [v', vr']).trans x7).trans x8).trans (Ext.push _ [.I X])
      have fin' := fin (H7.push [.I X]) v' vr' v5 (.sl H7.n 0 1 (.ex 1)) ⟨v', vr', rfl, IV.mono (IV.ext (IV.ext g8.iv x6) e9) (Nat.le_refl _) (fun _ _ _ => rfl) (fun b hb _ => by omega), ((u1.sv u2).ext e9).mono (Nat.le_refl _) (fun _ _ _ => rfl) (fun b hb _ => by omega)⟩
        ((g5.bv' g6).mono (by simp; omega) (fun b _ hb => (x8.trans (Ext.push _ [.I X])).2 b hb) (fun b hb _ => by simp at hb; omega))
        ((GrS.new (base := H.n + 2) (G := H7) (n := 1) (sz := 1) (cs := [.I X]) (by omega) (by omega) rfl).slc) (y3.trans z5) fv rfl
      have hq : ¬ H7.n = H.n + 1 := by omega
      simp [x8, hq, stf _ v' vr' z5, loadN_bk put_same]
      exact fin'
end
end Go.Proofs.YtcibjklpaljadaaGreat.AM
namespace Go.Proofs.YtcibjklpaljadaaGreat.AM
set_option linter.unusedSimpArgs false
set_option linter.unusedVariables false
set_option maxRecDepth 100000
set_option maxHeartbeats 2000000
open Go
section
variable {H : AH} {K : AV → AH → Prop} {w : Fk K}
end
section
variable {H : AH} {K : AV → AH → Prop} {w : Fk K} {o1 o2 : Nat → Prop}
end
end Go.Proofs.YtcibjklpaljadaaGreat.AM
namespace Go.Proofs.YtcibjklpaljadaaGreat.AM
set_option linter.unusedSimpArgs false
set_option linter.unusedVariables false
set_option maxRecDepth 100000
set_option maxHeartbeats 2000000
open Go
theorem Ext.st {r : Nat} {H H' : AH} (h : Ext H H') : St r H H' := ⟨h.1, fun b hb _ => h.2 b hb⟩
theorem Rdx.ext {H H' : AH} {r : Nat} {m : Int} (h : Rdx H r m) (k : Ext H H') : Rdx H' r m := h.same k.1 fun b hb => k.2 b (by have := h.lt; omega)
theorem DE.st {base r : Nat} {H H' : AH} {v a} (h : DE base H v a) (k : St r H H') (hr : r < base) : DE base H' v a := h.mono k.1 (fun b hb hb2 => k.2 b hb2 (by omega)) (Nat.le_refl _)
theorem EV.st {base r : Nat} {H H' : AH} {v a} (h : EV (fun b => base ≤ b) H v a) (k : St r H H') (hr : r < base) : EV (fun b => base ≤ b) H' v a := h.mono k.1 (fun b hb hb2 => k.2 b hb2 (by omega)) (fun _ h _ => h)
section
variable {H : AH} {K : AV → AH → Prop} {r : Nat} {w : Fk K} {m : Int}
end
end Go.Proofs.YtcibjklpaljadaaGreat.AM
namespace Go.Proofs.YtcibjklpaljadaaGreat.AM
set_option linter.unusedSimpArgs false
set_option linter.unusedVariables false
set_option maxRecDepth 100000
set_option maxHeartbeats 2000000
open Go
theorem S1.st {base r : Nat} {H H' : AH} {v a} (h : S1 (fun b => base ≤ b) H v a) (k : St r H H') (hr : r < base) : S1 (fun b => base ≤ b) H' v a := h.mono k.1 (fun b hb hb2 => k.2 b hb2 (by omega)) (fun _ h _ => h)
theorem S1.up {base base' : Nat} {H : AH} {v a} (h : S1 (fun b => base ≤ b) H v a) (hb : base' ≤ base) : S1 (fun b => base' ≤ b) H v a := h.mono (Nat.le_refl _) (fun _ _ _ => rfl) (fun b h _ => by omega)
theorem SV.st {base r : Nat} {H H' : AH} {v a} (h : SV (fun b => base ≤ b) H v a) (k : St r H H') (hr : r < base) : SV (fun b => base ≤ b) H' v a := h.mono k.1 (fun b hb hb2 => k.2 b hb2 (by omega)) (fun _ h _ => h)
theorem SV.up {base base' : Nat} {H : AH} {v a} (h : SV (fun b => base ≤ b) H v a) (hb : base' ≤ base) : SV (fun b => base' ≤ b) H v a := h.mono (Nat.le_refl _) (fun _ _ _ => rfl) (fun b h _ => by omega)
theorem S1.put {base b : Nat} {H : AH} {v a o} (h : S1 (fun b => base ≤ b) H v a) (hb : b < base) : S1 (fun b => base ≤ b) (H.put b o) v a := h.mono (Nat.le_refl _) (fun x hx _ => by rw [put_bk, if_neg (by omega)]) (fun _ h _ => h)
section
variable {H : AH} {K : AV → AH → Prop} {r : Nat} {w : Fk K} {m : Int}
end
end Go.Proofs.YtcibjklpaljadaaGreat.AM
namespace Go.Proofs.YtcibjklpaljadaaGreat.AM
set_option linter.unusedSimpArgs false
set_option linter.unusedVariables false
set_option maxRecDepth 100000
set_option maxHeartbeats 2000000
open Go
theorem GrS.app_lb {base G v n sz cs B} (h : GrS base G v n sz cs B) {k : Nat} {new : List AV} {v' : AV} {G' : AH} (ha : aapp G sz v k new = some (v', G')) (hk : 0 < k) : ∃ b c, v' = .sl b 0 (n + k) (.lb c sz) := by
  have h0 : ¬ k = 0 := by omega
  obtain ⟨h1, h2, ⟨rfl, rfl⟩ | ⟨h4, h5, ⟨rfl, h6⟩ | ⟨c, ex, rfl, h7, h8, h9⟩⟩⟩ := h
  · unfold aapp at ha
    simp only [if_neg h0] at ha
    split at ha
    · simp only [Option.some.injEq, Prod.mk.injEq] at ha
      exact ⟨_, _, by rw [← ha.1, Nat.zero_add]⟩
    · cases ha
  · unfold aapp at ha
    simp only [if_neg h0] at ha
    rw [if_neg (show ¬ n + k ≤ n by omega)] at ha
    split at ha
    · cases ha
    · split at ha
      · simp only [Option.some.injEq, Prod.mk.injEq] at ha
        exact ⟨_, _, ha.1.symm⟩
      · cases ha
  · unfold aapp at ha
    simp only [if_neg h0] at ha
    rw [if_neg (show ¬ (sz ≠ sz) by simp)] at ha
    split at ha
    · cases ha
    · split at ha
      · obtain ⟨G2, _, e⟩ := map_some ha
        simp only [Prod.mk.injEq] at e
        exact ⟨_, _, e.1.symm⟩
      · split at ha
        · split at ha
          · simp only [Option.some.injEq, Prod.mk.injEq] at ha
            exact ⟨_, _, ha.1.symm⟩
          · cases ha
        · cases ha
end Go.Proofs.YtcibjklpaljadaaGreat.AM
namespace Go.Proofs.YtcibjklpaljadaaGreat.AM
set_option linter.unusedSimpArgs false
set_option linter.unusedVariables false
set_option maxRecDepth 100000
set_option maxHeartbeats 2000000
open Go
section
variable {H : AH} {K : AV → AH → Prop} {r : Nat} {w : Fk K} {m boxes : Int} {lp : Bool} {nest : Nat}
theorem GrS.st {base r : Nat} {G G' : AH} {v : AV} {n sz : Nat} {cs : List AV} {B : Nat} (h : GrS base G v n sz cs B) (k : St r G G') (hr : r < base) : GrS base G' v n sz cs B :=
  h.only (bs := [r]) ⟨k.1, fun b hb hr => k.2 b hb (by simpa using hr)⟩ (by simp; omega)
end
end Go.Proofs.YtcibjklpaljadaaGreat.AM
namespace Go.Proofs.YtcibjklpaljadaaGreat.AM
set_option linter.unusedSimpArgs false
set_option linter.unusedVariables false
set_option maxRecDepth 100000
set_option maxHeartbeats 2000000
open Go
theorem SF.take {ok H f cs} (h : SF ok H f cs) (i : Nat) : SF ok H (Sts.of (f.list.take i)) (cs.take (i * 8)) := SF_of.2 ((SF_LF.1 h).take i)
theorem GrS.cut {base G n cs B b c} (h : GrS base G (.sl b 0 n (.lb c 8)) n 8 cs B) {j : Nat} (hj : j ≤ n) : b = B ∧ GrS base G (.sl b 0 j (.lb c 8)) j 8 (cs.take (j * 8)) B := by
  obtain ⟨h1, h2, h3⟩ := h
  rcases h3 with ⟨h4, _⟩ | ⟨h4, h5, ⟨h6, _⟩ | ⟨c', ex, h6, h7, h8, h9⟩⟩
  · cases h4
  · cases h6
  · simp only [AV.sl.injEq, ACap.lb.injEq, and_true, true_and] at h6
    obtain ⟨rfl, rfl⟩ := h6
    have hm := Nat.mul_le_mul_right 8 hj
    have e1 : (cs.take (j * 8)).length = j * 8 := by rw [List.length_take]; omega
    refine ⟨rfl, by omega, e1, .inr ⟨h4, h5, .inr ⟨c, cs.drop (j * 8) ++ ex, rfl, by omega, ?_, ?_⟩⟩⟩
    · rw [List.length_append, List.length_drop, h8, h2, Nat.sub_mul, Nat.sub_mul]
      have := Nat.mul_le_mul_right 8 h7
      omega
    · rw [← List.append_assoc, List.take_append_drop]; exact h9
section
variable {H : AH} {K : AV → AH → Prop} {r : Nat} {w : Fk K} {m boxes : Int}
end
end Go.Proofs.YtcibjklpaljadaaGreat.AM
namespace Go.Proofs.YtcibjklpaljadaaGreat.AM
set_option linter.unusedSimpArgs false
set_option linter.unusedVariables false
set_option maxRecDepth 100000
set_option maxHeartbeats 2000000
open Go
section
variable {H : AH} {K : AV → AH → Prop} {r : Nat} {w : Fk K} {m boxes : Int}
theorem GrS.storeAt {base G v n sz cs B} (h : GrS base G v n sz cs B) {o : Nat} {c : List AV} (hc : 0 < c.length) (ho : o + c.length ≤ n * sz) :
    ∃ cap G', v = .sl B 0 n cap ∧ G.store B o c = some G' ∧ GrS base G' v n sz (splice cs o c) B ∧ Only [B] G G' ∧ base ≤ B ∧ B < G.n := by
  obtain ⟨h1, h2, h3⟩ := h
  have hl : (splice cs o c).length = n * sz := by unfold splice; rw [List.length_append, List.length_append, List.length_take, List.length_drop, h2]; omega
  rcases h3 with ⟨rfl, rfl⟩ | ⟨h4, h5, ⟨rfl, h6⟩ | ⟨cc, ex, rfl, h7, h8, h9⟩⟩
  · rw [Nat.zero_mul] at ho; omega
  · have st := store_bk (o := o) (vs := c) h6 (by omega)
    exact ⟨_, _, rfl, st, ⟨h1, hl, .inr ⟨h4, h5, .inl ⟨rfl, put_same⟩⟩⟩, Only.refl.put (by simp), h4, h5⟩
  · have st := store_bk (o := o) (vs := c) h9 (by simp; omega)
    refine ⟨_, _, rfl, st, ⟨h1, hl, .inr ⟨h4, h5, .inr ⟨cc, ex, rfl, h7, h8, ?_⟩⟩⟩, Only.refl.put (by simp), h4, h5⟩
    rw [put_same]
    have : splice (cs ++ ex) o c = splice cs o c ++ ex := by
      unfold splice
      rw [List.take_append_of_le_length (by omega), List.drop_append_of_le_length (by omega)]; simp
    rw [this]
theorem TC.st {base r : Nat} {H H' : AH} {c : List AV} {t : Tk} (h : TC (fun b => base ≤ b) H c t) (k : St r H H') (hr : r < base) : TC (fun b => base ≤ b) H' c t := h.mono k.1 (fun b hb hb2 => k.2 b hb2 (by omega)) (fun _ h _ => h)
end
end Go.Proofs.YtcibjklpaljadaaGreat.AM
