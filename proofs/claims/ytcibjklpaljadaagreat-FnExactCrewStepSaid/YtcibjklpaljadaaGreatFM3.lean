/-
  The abstract machine and its walks, merged by program out of smaller texts (part 3). No condition.
-/
import Derived.Test.YtcibjklpaljadaaGreatFCd
namespace Go.Proofs.YtcibjklpaljadaaGreat.AM
set_option linter.unusedSimpArgs false
set_option linter.unusedVariables false
open Go

def isW (n : Int) : Bool := decide (-2147483648 ≤ n ∧ n ≤ 2147483647)
def bitsM (u low many : Int) : Int := if 0 ≤ u ∧ u ≤ 4294967295 ∧ 0 ≤ low ∧ low ≤ 31 ∧ 1 ≤ many ∧ many ≤ 32 - low then u / 2 ^ low.toNat % 2 ^ many.toNat else 0
def wrapM (n : Int) : Int := (n + 2147483648) % 4294967296 - 2147483648

section
variable {H : AH} {K : AV → AH → Prop} {n u low many lo hi : Int} {w : Fk K}
theorem K_iWordValid : CallF Cd f_iWordValid [.I n] H K w = K (.b (isW n)) H := by
  rw [CallF_eq e_iWordValid rfl]
  simp
  repeat' (refine cnd_iff (fun h => ?_) (fun h => ?_) <;> try simp (disch := omega) [*])
  all_goals (refine Kb_fin ?_; simp [isW]; try omega)
theorem K_sl6In : CallF Cd f_sl6In [.I n, .I lo, .I hi] H K w = K (.b (decide (lo ≤ n ∧ n ≤ hi))) H := by
  rw [CallF_eq e_sl6In rfl]
  simp
  repeat' (refine cnd_iff (fun h => ?_) (fun h => ?_) <;> try simp (disch := omega) [*])
  all_goals (refine Kb_fin ?_; simp; try omega)
theorem K_sWordValid : CallF Cd f_sWordValid [.I n] H K w = K (.b (isW n)) H := by
  rw [CallF_eq e_sWordValid rfl]
  simp [K_sl6In, isW]
theorem wrap_i32 : IntKind.i32.wrap n = wrapM n := by
  unfold IntKind.wrap wrapM
  simp [IntKind.bits, IntKind.signed]
  split <;> omega
theorem wrapM_lt : -2147483648 ≤ wrapM n ∧ wrapM n ≤ 2147483647 := by unfold wrapM; omega
theorem K_iWrap : CallF Cd f_iWrap [.I n] H K w = K (.I (wrapM n)) H := by
  rw [CallF_eq e_iWrap rfl]
  have := @wrapM_lt n
  simp (disch := omega) [wrap_i32]
theorem K_sWrap : CallF Cd f_sWrap [.I n] H K w = K (.I (wrapM n)) H := by
  rw [CallF_eq e_sWrap rfl]
  have h1 : n.tmod 4294967296 < 4294967296 := Int.tmod_lt_of_pos _ (by omega)
  have h2 : -4294967296 < n.tmod 4294967296 := by have := Int.lt_tmod_of_pos n (show (0:Int) < 4294967296 by omega); omega
  have h3 : ∃ q : Int, n = 4294967296 * q + n.tmod 4294967296 := ⟨n.tdiv 4294967296, (Int.mul_tdiv_add_tmod n _).symm⟩
  simp
  generalize n.tmod 4294967296 = m at *
  obtain ⟨q, hq⟩ := h3
  repeat' (refine cnd_iff (fun h => ?_) (fun h => ?_) <;> try simp (disch := omega) [*])
  all_goals (refine Ki_fin ?_; unfold wrapM; omega)
theorem mod_pow_lt {u : Int} {m : Nat} : 0 ≤ u % 2 ^ m ∧ u % 2 ^ m < 2 ^ m :=
  ⟨Int.emod_nonneg _ (Int.ne_of_gt pow_pos2), Int.emod_lt_of_pos _ pow_pos2⟩
end
end Go.Proofs.YtcibjklpaljadaaGreat.AM
namespace Go.Proofs.YtcibjklpaljadaaGreat.AM
set_option linter.unusedSimpArgs false
set_option linter.unusedVariables false
open Go

def St (r : Nat) (H H' : AH) : Prop := H.n ≤ H'.n ∧ ∀ b, b < H.n → b ≠ r → H'.bk b = H.bk b
theorem St.refl {r H} : St r H H := ⟨Nat.le_refl _, fun _ _ _ => rfl⟩
theorem St.trans {r a b c} (h : St r a b) (k : St r b c) : St r a c := ⟨Nat.le_trans h.1 k.1, fun x hx hr => (k.2 x (Nat.lt_of_lt_of_le hx h.1) hr).trans (h.2 x hx hr)⟩
theorem St.push {r a b cs} (h : St r a b) : St r a (b.push cs) := h.trans ⟨Nat.le_succ _, fun x hx _ => by simp only [push_bk]; rw [if_neg (by omega)]⟩
def Bytes (H : AH) (r : Nat) (s : AV) (l : List Int) : Prop := alen s = some l.length ∧ l.length ≤ 8589934592 ∧
  ∀ (i : Nat) x, l[i]? = some x → (0 ≤ x ∧ x < 256) ∧ ∃ b o, asSl s = some (b, o, l.length) ∧ b < r ∧ b < H.n ∧ ((H.bk b).bind fun k => k.cells[o + i]?) = some (.i .u8 x)
def Rd (H : AH) (r : Nat) (p : Int) : Prop := r < H.n ∧ ∃ s l, H.bk r = some ⟨[s, .I p], true⟩ ∧ Bytes H r s l
theorem Bytes.st {H H' : AH} {r s l} (h : Bytes H r s l) (k : St r H H') : Bytes H' r s l :=
  ⟨h.1, h.2.1, fun i x hx => let ⟨h1, b, o, h2, h3, h4, h5⟩ := h.2.2 i x hx; ⟨h1, b, o, h2, h3, Nat.lt_of_lt_of_le h4 k.1, by rw [k.2 b h4 (by omega)]; exact h5⟩⟩
theorem Rd.push {H : AH} {r p cs} (h : Rd H r p) : Rd (H.push cs) r p := by
  obtain ⟨h1, s, l, h2, h3⟩ := h
  exact ⟨Nat.lt_succ_of_lt h1, s, l, by simp only [push_bk]; rw [if_neg (by omega)]; exact h2, h3.st (St.push St.refl)⟩

section
variable {H : AH} {K : AV → AH → Prop} {n p : Int} {r : Nat} {w : Fk K}
theorem SlI.bytes {v : AV} {zs : List Int} (h : SlI H .u8 v zs) (hz : ∀ n ∈ zs, 0 ≤ n ∧ n < 256) {r : Nat} (hr : H.n ≤ r) (hl : zs.length ≤ 1048576) : Bytes H r v zs := by
  rcases h with ⟨rfl, rfl⟩ | ⟨rfl, rfl⟩ | ⟨b, rest, hb, rfl, h⟩
  · exact ⟨rfl, by simp, fun i x hx => by simp at hx⟩
  · exact ⟨rfl, by simp, fun i x hx => by simp at hx⟩
  · refine ⟨rfl, by omega, fun i x hx => ⟨hz x (List.mem_of_getElem? hx), b, 0, rfl, by omega, hb, ?_⟩⟩
    have hi := (List.getElem?_eq_some_iff.1 hx).1
    rw [h]
    simp only [Option.bind_some, Nat.zero_add, List.getElem?_map, List.getElem?_append_left hi, hx, Option.map_some]
theorem SlI.len {v : AV} {k : IntKind} {zs : List Int} (h : SlI H k v zs) : alen v = some zs.length := by
  rcases h with ⟨rfl, rfl⟩ | ⟨rfl, rfl⟩ | ⟨b, rest, hb, rfl, h⟩ <;> rfl
theorem SlI.cut {v : AV} {k : IntKind} {zs : List Int} (h : SlI H k v zs) (hl : 2000 < zs.length) : ∃ v', aslice 1 v none (some (.I 2000)) none = some v' ∧ SlI H k v' (zs.take 2000) := by
  rcases h with ⟨rfl, rfl⟩ | ⟨rfl, rfl⟩ | ⟨b, rest, hb, rfl, h⟩
  · simp at hl
  · simp at hl
  · refine ⟨.sl b 0 2000 .ro, ?_, .inr (.inr ⟨b, zs.drop 2000 ++ rest, hb, ?_, ?_⟩)⟩
    · simp [aslice, bnd, aint]; omega
    · rw [List.length_take, Nat.min_eq_left (by omega)]
    · rw [h, ← List.append_assoc, List.take_append_drop]
def Rdx (H : AH) (r : Nat) (m : Int) : Prop := ∃ p, 0 ≤ p ∧ p ≤ m ∧ Rd H r p
theorem Rdx.push {r m cs} (h : Rdx H r m) : Rdx (H.push cs) r m := let ⟨p, a, b, c⟩ := h; ⟨p, a, b, c.push⟩
theorem Rdx.up {r m m'} (h : Rdx H r m) (k : m ≤ m') : Rdx H r m' := let ⟨p, a, b, c⟩ := h; ⟨p, a, by omega, c⟩
theorem Rdx.lt {r m} (h : Rdx H r m) : r < H.n := let ⟨p, a, b, c⟩ := h; c.1
def Ints (l : List Int) : List AV := l.map (.i .i64 ·)
theorem St.at {r : Nat} {H H' : AH} {b : Nat} (h : St r H H') (hb : b < H.n) (hr : b ≠ r) {o} (e : H.bk b = o) : H'.bk b = o := (h.2 b hb hr).trans e

end
end Go.Proofs.YtcibjklpaljadaaGreat.AM
namespace Go.Proofs.YtcibjklpaljadaaGreat.AM
set_option linter.unusedSimpArgs false
set_option linter.unusedVariables false
open Go

theorem load_push {H : AH} {cs : List AV} {b o : Nat} : (H.push cs).load b o = if b = H.n then cs[o]? else H.load b o := by
  unfold AH.load; simp only [push_bk]; split <;> rfl
theorem loadN_push {H : AH} {cs : List AV} {b o n : Nat} : (H.push cs).loadN b o n = if b = H.n then seg cs o n else H.loadN b o n := by
  unfold AH.loadN; simp only [push_bk]; split <;> rfl
theorem load_put {H : AH} {cs : List AV} {b' b o : Nat} {q : Bool} : (H.put b' (some ⟨cs, q⟩)).load b o = if b = b' then cs[o]? else H.load b o := by
  unfold AH.load; simp only [put_bk]; split <;> rfl
theorem loadN_put {H : AH} {cs : List AV} {b' b o n : Nat} {q : Bool} : (H.put b' (some ⟨cs, q⟩)).loadN b o n = if b = b' then seg cs o n else H.loadN b o n := by
  unfold AH.loadN; simp only [put_bk]; split <;> rfl
theorem load_ext {H H' : AH} {b o : Nat} (h : Ext H H') (hb : b < H.n) : H'.load b o = H.load b o := by unfold AH.load; rw [h.2 b hb]
theorem loadN_ext {H H' : AH} {b o n : Nat} (h : Ext H H') (hb : b < H.n) : H'.loadN b o n = H.loadN b o n := by unfold AH.loadN; rw [h.2 b hb]
theorem seg_at {cs x : List AV} {o n j : Nat} (h : seg cs o n = some x) (hj : j < n) : cs[o + j]? = x[j]? := by
  unfold seg at h
  split at h
  · cases h
    rw [List.getElem?_take, if_pos hj, List.getElem?_drop]
  · cases h
theorem loadN_at {H : AH} {b o n j : Nat} {x : List AV} (h : H.loadN b o n = some x) (hj : j < n) : H.load b (o + j) = x[j]? := by
  unfold AH.loadN at h
  unfold AH.load
  cases hb : H.bk b with
  | none => rw [hb] at h; cases h
  | some k => rw [hb] at h; exact seg_at h hj

def SeesN (sz : Nat) (H : AH) (v : AV) (l : List (List AV)) : Prop := alen v = some l.length ∧ l.length ≤ 8589934592 ∧
  ∀ (i : Nat) x, l[i]? = some x → ∃ b o, asSl v = some (b, o, l.length) ∧ b < H.n ∧ H.loadN b (o + i * sz) sz = some x
theorem SeesN.ext {sz : Nat} {H H' : AH} {v l} (h : SeesN sz H v l) (k : Ext H H') : SeesN sz H' v l :=
  ⟨h.1, h.2.1, fun i x hx => let ⟨b, o, h1, h2, h3⟩ := h.2.2 i x hx; ⟨b, o, h1, Nat.lt_of_lt_of_le h2 k.1, by rw [loadN_ext k h2]; exact h3⟩⟩

theorem seg_flatten {sz : Nat} : ∀ {l : List (List AV)}, (∀ x ∈ l, x.length = sz) → ∀ {i : Nat} {x : List AV}, l[i]? = some x → seg l.flatten (i * sz) sz = some x
  | [], _, i, x, h => by simp at h
  | y :: l, hs, 0, x, h => by
    simp only [List.getElem?_cons_zero, Option.some.injEq] at h
    subst h
    have := hs y (by simp)
    unfold seg
    simp only [Nat.zero_mul, Nat.zero_add, List.flatten_cons, List.length_append, List.drop_zero]
    rw [if_pos (by omega), ← this, List.take_left']
    rfl
  | y :: l, hs, i + 1, x, h => by
    have hy := hs y (by simp)
    have ih := seg_flatten (l := l) (fun z hz => hs z (by simp [hz])) (i := i) (x := x) (by simpa using h)
    unfold seg at ih ⊢
    split at ih
    · cases ih
      simp only [List.flatten_cons, List.length_append]
      rw [if_pos (by rw [Nat.succ_mul]; omega), Nat.succ_mul, Nat.add_comm, ← hy, ← List.drop_drop, List.drop_left']
      rfl
    · cases ih
theorem SeesN.new {sz : Nat} {H : AH} {l : List (List AV)} {cap : ACap} {n : Nat} {cs : List AV} (hs : ∀ x ∈ l, x.length = sz) (hl : l.length ≤ 8589934592) (hn : n = l.length) (hc : cs = l.flatten) : SeesN sz (H.push cs) (.sl H.n 0 n cap) l := by
  subst hn hc
  refine ⟨rfl, hl, fun i x hx => ⟨H.n, 0, rfl, Nat.lt_succ_self _, ?_⟩⟩
  rw [loadN_push, if_pos rfl, Nat.zero_add]
  exact seg_flatten hs hx
theorem SeesN.nil {sz : Nat} {H : AH} {v : AV} (h : alen v = some 0) : SeesN sz H v [] := ⟨h, by simp, fun i x hx => by simp at hx⟩

structure Ins where
  op : Int
  rd : Int
  rs : Int
  rt : Int
  imm : Int
deriving DecidableEq
def Ins.cs (i : Ins) : List AV := [.I i.op, .I i.rd, .I i.rs, .I i.rt, .I i.imm]
def SeesI (H : AH) (v : AV) (l : List Ins) : Prop := SeesN 5 H v (l.map Ins.cs)

section
variable {H : AH} {K : AV → AH → Prop} {n rd rs imm : Int} {w : Fk K}
theorem SeesI.new {H : AH} {l : List Ins} {cap : ACap} {n : Nat} {cs : List AV} (hl : l.length ≤ 8589934592) (hn : n = l.length) (hc : cs = (l.map Ins.cs).flatten) : SeesI (H.push cs) (.sl H.n 0 n cap) l :=
  SeesN.new (fun x hx => by obtain ⟨i, _, rfl⟩ := List.mem_map.1 hx; rfl) (by simpa using hl) (by simpa using hn) hc
end
end Go.Proofs.YtcibjklpaljadaaGreat.AM
namespace Go.Proofs.YtcibjklpaljadaaGreat.AM
set_option linter.unusedSimpArgs false
set_option linter.unusedVariables false
open Go

section
variable {H : AH} {K : AV → AH → Prop} {n rd : Int} {w : Fk K}
theorem SeesI.at {H : AH} {v : AV} {l : List Ins} (h : SeesI H v l) {i : Nat} (hi : i < l.length) : ∃ b o, asSl v = some (b, o, l.length) ∧ b < H.n ∧ H.loadN b (o + i * 5) 5 = some l[i].cs := by
  obtain ⟨b, o, h1, h2, h3⟩ := h.2.2 i (l[i].cs) (by simp [hi])
  exact ⟨b, o, by simpa using h1, h2, h3⟩
theorem SeesI.len {H : AH} {v : AV} {l : List Ins} (h : SeesI H v l) : alen v = some l.length := by simpa using h.1
theorem SeesI.big {H : AH} {v : AV} {l : List Ins} (h : SeesI H v l) : l.length ≤ 8589934592 := by simpa using h.2.1
end
end Go.Proofs.YtcibjklpaljadaaGreat.AM
namespace Go.Proofs.YtcibjklpaljadaaGreat.AM
set_option linter.unusedSimpArgs false
set_option linter.unusedVariables false
open Go

section
variable {H : AH} {K : AV → AH → Prop} {n rd : Int} {w : Fk K}
end
end Go.Proofs.YtcibjklpaljadaaGreat.AM
namespace Go.Proofs.YtcibjklpaljadaaGreat.AM
set_option linter.unusedSimpArgs false
set_option linter.unusedVariables false
open Go

theorem put_put {H : AH} {b : Nat} {x y : Option Blk} : (H.put b x).put b y = H.put b y := by
  unfold AH.put; congr 1; funext c; by_cases h : c = b <;> simp [h]
section
variable {H : AH} {K : AV → AH → Prop} {n rd rs imm : Int} {w : Fk K}
theorem NewI.sees {H : AH} {b : Nat} {cap : ACap} {l : List Ins} (hb : b < H.n) (h : H.bk b = some ⟨(l.map Ins.cs).flatten, true⟩) (hl : l.length ≤ 8589934592) : SeesI H (.sl b 0 l.length cap) l := by
  refine ⟨by simp [alen], by simpa using hl, fun i x hx => ⟨b, 0, by simp [asSl], hb, ?_⟩⟩
  unfold AH.loadN
  rw [h, Nat.zero_add]
  exact seg_flatten (fun y hy => by obtain ⟨j, _, rfl⟩ := List.mem_map.1 hy; rfl) hx
end
end Go.Proofs.YtcibjklpaljadaaGreat.AM
namespace Go.Proofs.YtcibjklpaljadaaGreat.AM
set_option linter.unusedSimpArgs false
set_option linter.unusedVariables false
open Go

def SeesZ (H : AH) (v : AV) (l : List Int) : Prop := alen v = some l.length ∧ l.length ≤ 8589934592 ∧
  ∀ (i : Nat) x, l[i]? = some x → ∃ b o, asSl v = some (b, o, l.length) ∧ b < H.n ∧ H.load b (o + i) = some (.I x)
theorem SeesZ.ext {H H' : AH} {v l} (h : SeesZ H v l) (k : Ext H H') : SeesZ H' v l :=
  ⟨h.1, h.2.1, fun i x hx => let ⟨b, o, h1, h2, h3⟩ := h.2.2 i x hx; ⟨b, o, h1, Nat.lt_of_lt_of_le h2 k.1, by rw [load_ext k h2]; exact h3⟩⟩
theorem SeesZ.at {H : AH} {v : AV} {l : List Int} (h : SeesZ H v l) {i : Nat} (hi : i < l.length) : ∃ b o, asSl v = some (b, o, l.length) ∧ b < H.n ∧ H.load b (o + i) = some (.I l[i]) :=
  h.2.2 i l[i] (by simp [hi])
theorem SeesZ.nil {H : AH} {v : AV} (h : alen v = some 0) : SeesZ H v [] := ⟨h, by simp, fun i x hx => by simp at hx⟩

section
variable {H : AH} {K : AV → AH → Prop} {n : Int} {w : Fk K}
theorem K_iareWords_l {v : AV} {l : List Int} (h : SeesZ H v l) {Q : Out → Env → AH → Prop}
    (h1 : ∀ e H, Q (.brk 0) e H = K (.b true) H) (h2 : ∀ e H, Q .ret e H = bindO (get e 2) fun v => K v H) (m i : Nat) (hm : i + m = l.length) :
    W Cd (.loop c_iareWords_l0) [(5, v), (6, .I l.length), (7, .I i)] H Q ↔ K (.b ((l.drop i).all isW)) H := by
  have hbig := h.2.1
  induction m generalizing i with
  | zero =>
    rw [W_loop_as c_iareWords_l0.eq_1]
    have : ¬ (i : Int) < l.length := by omega
    simp [this, h1]
    rw [List.drop_eq_nil_of_le (by omega)]; rfl
  | succ m ih =>
    rw [W_loop_as c_iareWords_l0.eq_1]
    have hi : i < l.length := by omega
    obtain ⟨b, o, s1, _, l1⟩ := h.at hi
    have hlt : (i : Int) < l.length := by omega
    have hr := ih (i + 1) (by omega)
    have d1 := List.drop_eq_getElem_cons hi
    simp (disch := omega) [hlt, s1, l1, K_iWordValid]
    refine cnd_iff (fun h => ?_) (fun h => ?_)
    · simp [h2]
      refine Kb_false ?_
      rw [d1, List.all_cons]; simp [h]
    · simp (disch := omega)
      have e : (l.drop i).all isW = (l.drop (i + 1)).all isW := by rw [d1, List.all_cons]; simp at h; simp [h]
      rw [e]
      simpa using hr
theorem K_iareWords {v : AV} {l : List Int} (h : SeesZ H v l) : CallF Cd f_iareWords [v] H K w = K (.b (l.all isW)) H := by
  rw [CallF_eq e_iareWords rfl]
  simp [h.1]
  have := K_iareWords_l (K := K) h (Q := ?_) ?_ ?_ l.length 0 (by omega)
  · simpa using this
  · intros; simp
  · intros; simp
theorem K_sl4Words_l {v : AV} {l : List Int} (h : SeesZ H v l) {Q : Out → Env → AH → Prop}
    (h1 : ∀ e H, Q (.brk 0) e H = K (.b true) H) (h2 : ∀ e H, Q .ret e H = bindO (get e 4) fun v => K v H) (m i : Nat) (hm : i + m = l.length) :
    W Cd (.loop c_sl4Words_l0) [(0, v), (5, .I i)] H Q ↔ K (.b ((l.drop i).all isW)) H := by
  have hbig := h.2.1
  induction m generalizing i with
  | zero =>
    rw [W_loop_as c_sl4Words_l0.eq_1]
    have : ¬ (i : Int) < l.length := by omega
    simp [this, h1, h.1]
    rw [List.drop_eq_nil_of_le (by omega)]; rfl
  | succ m ih =>
    rw [W_loop_as c_sl4Words_l0.eq_1]
    have hi : i < l.length := by omega
    obtain ⟨b, o, s1, _, l1⟩ := h.at hi
    have hlt : (i : Int) < l.length := by omega
    have hr := ih (i + 1) (by omega)
    have d1 := List.drop_eq_getElem_cons hi
    simp (disch := omega) [hlt, s1, l1, K_sWordValid, h.1]
    refine cnd_iff (fun h => ?_) (fun h => ?_)
    · simp [h2]
      refine Kb_false ?_
      rw [d1, List.all_cons]; simp [h]
    · simp (disch := omega)
      have e : (l.drop i).all isW = (l.drop (i + 1)).all isW := by rw [d1, List.all_cons]; simp at h; simp [h]
      rw [e]
      simpa using hr
theorem K_sl4Words {v : AV} {l : List Int} (h : SeesZ H v l) : CallF Cd f_sl4Words [v, .I n] H K w = K (.b (decide ((l.length : Int) = n) && l.all isW)) H := by
  rw [CallF_eq e_sl4Words rfl]
  simp [h.1]
  refine cnd_iff (fun hn => ?_) (fun hn => ?_)
  · simp [hn]
  · simp
    have := K_sl4Words_l (K := K) h (Q := ?_) ?_ ?_ l.length 0 (by omega)
    · have hn : (l.length : Int) = n := Decidable.of_not_not hn
      simpa [hn] using this
    · intros; simp
    · intros; simp
theorem K_weqIntS_l {a b : AV} {la lb : List Int} (ha : SeesZ H a la) (hb : SeesZ H b lb) (he : la.length = lb.length) {Q : Out → Env → AH → Prop}
    (h1 : ∀ e H, Q (.brk 0) e H = K (.b true) H) (h2 : ∀ e H, Q .ret e H = bindO (get e 4) fun v => K v H) (m i : Nat) (hm : i + m = la.length) :
    W Cd (.loop c_weqIntS_l0) [(0, a), (1, b), (5, .I i)] H Q ↔ K (.b (decide (la.drop i = lb.drop i))) H := by
  have hbig := ha.2.1
  induction m generalizing i with
  | zero =>
    rw [W_loop_as c_weqIntS_l0.eq_1]
    have : ¬ (i : Int) < la.length := by omega
    simp [this, h1, ha.1]
    rw [List.drop_eq_nil_of_le (by omega), List.drop_eq_nil_of_le (by omega)]
    simp
  | succ m ih =>
    rw [W_loop_as c_weqIntS_l0.eq_1]
    have hi : i < la.length := by omega
    have hi' : i < lb.length := by omega
    obtain ⟨b1, o1, s1, _, l1⟩ := ha.at hi
    obtain ⟨b2, o2, s2, _, l2⟩ := hb.at hi'
    have hlt : (i : Int) < la.length := by omega
    have hr := ih (i + 1) (by omega)
    have d1 := List.drop_eq_getElem_cons hi
    have d2 := List.drop_eq_getElem_cons hi'
    simp (disch := omega) [hlt, ha.1, s1, s2, l1, l2]
    refine cnd_iff (fun h => ?_) (fun h => ?_)
    · simp [h, h2]
      exact Kb_false (by rw [d1, d2]; simp only [decide_eq_false_iff_not, List.cons.injEq]; exact fun q => h q.1)
    · simp (disch := omega) [h]
      rw [show decide (la.drop i = lb.drop i) = decide (la.drop (i + 1) = lb.drop (i + 1)) from by
        rw [d1, d2, Bool.eq_iff_iff]; simp only [decide_eq_true_eq, List.cons.injEq]; exact ⟨fun q => q.2, fun q => ⟨Decidable.of_not_not h, q⟩⟩]
      simpa using hr
theorem K_weqIntS {a b : AV} {la lb : List Int} (ha : SeesZ H a la) (hb : SeesZ H b lb) : CallF Cd f_weqIntS [a, b] H K w = K (.b (decide (la = lb))) H := by
  rw [CallF_eq e_weqIntS rfl]
  simp [ha.1, hb.1]
  refine cnd_iff (fun h => ?_) (fun h => ?_)
  · simp
    have : la ≠ lb := fun e => h (by rw [e])
    simp [this]
  · have he : la.length = lb.length := by omega
    simp
    have := K_weqIntS_l (K := K) ha hb he (Q := ?_) ?_ ?_ la.length 0 (by omega)
    · simpa using this
    · intros; simp
    · intros; simp
structure Mach where
  regs : List Int
  pc : Int
  mem : List Int
deriving DecidableEq
def SeesM (H : AH) (c : List AV) (m : Mach) : Prop := ∃ r e, c = [r, .I m.pc, e] ∧ SeesZ H r m.regs ∧ SeesZ H e m.mem ∧ r.flat = true ∧ e.flat = true
theorem SeesM.ext {H H' : AH} {c m} (h : SeesM H c m) (k : Ext H H') : SeesM H' c m := let ⟨r, e, h1, h2, h3, h4, h5⟩ := h; ⟨r, e, h1, h2.ext k, h3.ext k, h4, h5⟩
theorem push_put {H : AH} {cs cs' : List AV} : (H.push cs).put H.n (some ⟨cs', true⟩) = H.push cs' := by
  unfold AH.push AH.put; congr 1; funext c; by_cases h : c = H.n <;> simp [h]
theorem splice_at {A B : List AV} {x y : AV} : splice (A ++ x :: B) A.length [y] = A ++ y :: B := by
  simp [splice]
def copied (l : List Int) (i : Nat) : List AV := Ints (l.take i) ++ List.replicate (l.length - i) (.I 0)
theorem copied_len {l : List Int} {i : Nat} (h : i ≤ l.length) : (copied l i).length = l.length := by simp [copied, Ints]; omega
theorem copied_step {l : List Int} {i : Nat} (h : i < l.length) : splice (copied l i) i [.I l[i]] = copied l (i + 1) := by
  have e1 : List.replicate (l.length - i) (AV.I 0) = AV.I 0 :: List.replicate (l.length - (i + 1)) (AV.I 0) := by
    rw [show l.length - i = (l.length - (i + 1)) + 1 by omega, List.replicate_succ]
  have e2 : (Ints (l.take i)).length = i := by simp [Ints]; omega
  have e3 : Ints (l.take (i + 1)) = Ints (l.take i) ++ [.I l[i]] := by
    rw [List.take_succ_eq_append_getElem h]; unfold Ints; rw [List.map_append]; rfl
  have := @splice_at (Ints (l.take i)) (List.replicate (l.length - (i + 1)) (AV.I 0)) (AV.I 0) (AV.I l[i])
  rw [e2] at this
  unfold copied
  rw [e1, this, e3]; simp
theorem K_wtoIntS_l {v : AV} {l : List Int} (h : SeesZ H v l) {Q : Out → Env → AH → Prop} (m i : Nat) (hm : i + m = l.length)
    (h1 : ∀ e, Q (.brk 0) ([(0, v), (3, .sl H.n 0 l.length (.ex l.length)), (4, .I l.length)] ++ e) (H.push (Ints l))) :
    W Cd (.loop c_wtoIntS_l0) [(0, v), (3, .sl H.n 0 l.length (.ex l.length)), (4, .I i)] (H.push (copied l i)) Q := by
  have hbig := h.2.1
  induction m generalizing i with
  | zero =>
    rw [W_loop_as c_wtoIntS_l0.eq_1]
    have hi : i = l.length := by omega
    have hc : copied l i = Ints l := by unfold copied; rw [List.take_of_length_le (by omega)]; simp [hi]
    subst hi
    rw [hc]
    simp [h.1]
    exact h1 [(11, .b false)]
  | succ m ih =>
    rw [W_loop_as c_wtoIntS_l0.eq_1]
    have hi : i < l.length := by omega
    obtain ⟨b, o, s1, k1, l1⟩ := h.at hi
    have hlt : (i : Int) < l.length := by omega
    have nb : ¬ b = H.n := by omega
    have hcl := copied_len (l := l) (i := i) (by omega)
    have hst : (H.push (copied l i)).store H.n i [.I l[i]] = some (H.push (copied l (i + 1))) := by
      simp only [AH.store, push_bk, if_true]
      rw [if_pos ⟨trivial, by simp [hcl]; omega⟩, push_put, copied_step hi]
    have hr := ih (i + 1) (by omega)
    simp (disch := omega) [hlt, h.1, s1, l1, load_push, nb, hst]
    simpa using hr
theorem K_wtoIntS {v : AV} {l : List Int} (h : SeesZ H v l) (k : K (.sl H.n 0 l.length (.ex l.length)) (H.push (Ints l))) : CallF Cd f_wtoIntS [v] H K w := by
  have hbig := h.2.1
  rw [CallF_eq e_wtoIntS rfl]
  simp (disch := omega) [h.1]
  have e0 : copied l 0 = List.replicate l.length (.I 0) := by simp [copied, Ints]
  rw [← e0]
  refine K_wtoIntS_l (i := 0) h l.length (by omega) (fun e => ?_)
  simp
  exact k
end
end Go.Proofs.YtcibjklpaljadaaGreat.AM
namespace Go.Proofs.YtcibjklpaljadaaGreat.AM
set_option linter.unusedSimpArgs false
set_option linter.unusedVariables false
open Go

theorem nf2 {a : Nat} : (a = a + 1 + 1) = False := eq_false (by omega)
theorem ng2 {a : Nat} : (a + 1 + 1 = a) = False := eq_false (by omega)
theorem nf3 {a : Nat} : (a = a + 1 + 1 + 1) = False := eq_false (by omega)
theorem ng3 {a : Nat} : (a + 1 + 1 + 1 = a) = False := eq_false (by omega)
theorem nf4 {a : Nat} : (a = a + 1 + 1 + 1 + 1) = False := eq_false (by omega)
theorem ng4 {a : Nat} : (a + 1 + 1 + 1 + 1 = a) = False := eq_false (by omega)
theorem nf5 {a : Nat} : (a = a + 1 + 1 + 1 + 1 + 1) = False := eq_false (by omega)
theorem ng5 {a : Nat} : (a + 1 + 1 + 1 + 1 + 1 = a) = False := eq_false (by omega)
theorem nf6 {a : Nat} : (a = a + 1 + 1 + 1 + 1 + 1 + 1) = False := eq_false (by omega)
theorem ng6 {a : Nat} : (a + 1 + 1 + 1 + 1 + 1 + 1 = a) = False := eq_false (by omega)
theorem nf7 {a : Nat} : (a = a + 1 + 1 + 1 + 1 + 1 + 1 + 1) = False := eq_false (by omega)
theorem ng7 {a : Nat} : (a + 1 + 1 + 1 + 1 + 1 + 1 + 1 = a) = False := eq_false (by omega)
attribute [simp] nf2 ng2 nf3 ng3 nf4 ng4 nf5 ng5 nf6 ng6 nf7 ng7

section
variable {H : AH} {K : AV → AH → Prop} {n : Int} {w : Fk K}
theorem SeesZ.new {H : AH} {l : List Int} {cap : ACap} (hl : l.length ≤ 8589934592) : SeesZ (H.push (Ints l)) (.sl H.n 0 l.length cap) l :=
  ⟨rfl, hl, fun i x hx => ⟨H.n, 0, rfl, Nat.lt_succ_self _, by rw [load_push, if_pos rfl, Nat.zero_add]; simp [Ints, hx]⟩⟩
theorem SeesZ.of {H : AH} {l : List Int} {cap : ACap} {b : Nat} {q : Bool} (hl : l.length ≤ 8589934592) (hb : b < H.n) (h : H.bk b = some ⟨Ints l, q⟩) : SeesZ H (.sl b 0 l.length cap) l :=
  ⟨rfl, hl, fun i x hx => ⟨b, 0, rfl, hb, by unfold AH.load; rw [h, Nat.zero_add]; simp [Ints, hx]⟩⟩
theorem Ext.put {H G : AH} {b : Nat} {o : Option Blk} (h : Ext H G) (hb : H.n ≤ b) : Ext H (G.put b o) := ⟨h.1, fun x hx => by simp only [put_bk]; rw [if_neg (by omega)]; exact h.2 x hx⟩
theorem Ext.to_push {H G : AH} {cs} (h : Ext H G) : Ext H (G.push cs) := h.trans (Ext.push _ _)
theorem K_wszIntS' {v : AV} {k : Nat} (h : alen v = some k) (hk : k ≤ 9223372036854775807) (hn : -1 ≤ n ∧ n ≤ 1048576) : CallF Cd f_wszIntS [v, .I n] H K w = K (.I (if n - k < 0 then -1 else n - k)) H := by
  rw [CallF_eq e_wszIntS rfl]
  simp (disch := omega) [h]
  refine cnd_iff (fun hn => ?_) (fun hn => ?_)
  · simp; exact Ki_fin (by rw [if_pos (by omega)])
  · simp; exact Ki_fin (by rw [if_neg (by omega)])
def ArgZ (H : AH) (v : AV) (l : List Int) : Prop := alen v = some l.length ∧ l.length ≤ 9223372036854775807 ∧ v.flat = true ∧
  ∀ (i : Nat) x, l[i]? = some x → ∃ b o, asSl v = some (b, o, l.length) ∧ b < H.n ∧ H.load b (o + i) = some (.I x)
theorem ArgZ.sees {v l} (h : ArgZ H v l) (k : l.length ≤ 8589934592) : SeesZ H v l := ⟨h.1, k, h.2.2.2⟩
end
end Go.Proofs.YtcibjklpaljadaaGreat.AM
namespace Go.Proofs.YtcibjklpaljadaaGreat.AM
set_option linter.unusedSimpArgs false
set_option linter.unusedVariables false
open Go Go.RowKit

theorem rowV_flat {b a len cap} : (rowV b a len cap).flat = true := by
  unfold rowV; split
  · rfl
  · split <;> rfl

end Go.Proofs.YtcibjklpaljadaaGreat.AM
namespace Go.Proofs.YtcibjklpaljadaaGreat.AM
set_option linter.unusedSimpArgs false
set_option linter.unusedVariables false
open Go

section
variable {H : AH} {K : AV → AH → Prop} {n p : Int} {r : Nat} {w : Fk K}
theorem Rdx.put {m : Int} {b : Nat} {o : Option Blk} (h : Rdx H r m) (hb : r < b) : Rdx (H.put b o) r m := by
  obtain ⟨p, h1, h2, h3, s, l, h4, h5⟩ := h
  refine ⟨p, h1, h2, h3, s, l, ?_, h5.1, h5.2.1, fun i x hx => ?_⟩
  · simp only [put_bk]; rw [if_neg (by omega)]; exact h4
  · obtain ⟨q1, b', o', q2, q3, q4, q5⟩ := h5.2.2 i x hx
    exact ⟨q1, b', o', q2, q3, q4, by simp only [put_bk]; rw [if_neg (by omega)]; exact q5⟩
theorem St.put {a b : AH} {x : Nat} {o : Option Blk} (h : St r a b) (hx : a.n ≤ x) : St r a (b.put x o) :=
  ⟨h.1, fun y hy hr => by simp only [put_bk]; rw [if_neg (by omega)]; exact h.2 y hy hr⟩
end
end Go.Proofs.YtcibjklpaljadaaGreat.AM
namespace Go.Proofs.YtcibjklpaljadaaGreat.AM
set_option linter.unusedSimpArgs false
set_option linter.unusedVariables false
open Go

section
variable {H : AH} {K : AV → AH → Prop} {n a b : Int} {w : Fk K}
end
end Go.Proofs.YtcibjklpaljadaaGreat.AM
namespace Go.Proofs.YtcibjklpaljadaaGreat.AM
set_option linter.unusedSimpArgs false
set_option linter.unusedVariables false
open Go

section
variable {H : AH} {K : AV → AH → Prop} {n a b : Int} {r : Nat} {w : Fk K}
end
end Go.Proofs.YtcibjklpaljadaaGreat.AM
namespace Go.Proofs.YtcibjklpaljadaaGreat.AM
set_option linter.unusedSimpArgs false
set_option linter.unusedVariables false
open Go

def Only (bs : List Nat) (H H' : AH) : Prop := H.n ≤ H'.n ∧ ∀ b, b < H.n → b ∉ bs → H'.bk b = H.bk b
theorem Only.refl {bs H} : Only bs H H := ⟨Nat.le_refl _, fun _ _ _ => rfl⟩
theorem Only.trans {bs a b c} (h : Only bs a b) (k : Only bs b c) : Only bs a c := ⟨Nat.le_trans h.1 k.1, fun x hx hr => (k.2 x (Nat.lt_of_lt_of_le hx h.1) hr).trans (h.2 x hx hr)⟩
theorem Only.push {bs a b cs} (h : Only bs a b) : Only bs a (b.push cs) := ⟨Nat.le_succ_of_le h.1, fun x hx hr => by simp only [push_bk]; rw [if_neg (by have := h.1; omega)]; exact h.2 x hx hr⟩
theorem Only.put {bs a b x o} (h : Only bs a b) (hx : a.n ≤ x ∨ x ∈ bs) : Only bs a (b.put x o) := ⟨h.1, fun y hy hr => by
  simp only [put_bk]; rw [if_neg (by rintro rfl; rcases hx with hx | hx; omega; exact hr hx)]; exact h.2 y hy hr⟩
theorem St.only {r H H' bs} (h : St r H H') (hb : r ∈ bs) : Only bs H H' := ⟨h.1, fun x hx hr => h.2 x hx (by rintro rfl; exact hr hb)⟩
theorem Only.bk {bs H H' b o} (h : Only bs H H') (hb : b < H.n) (hr : b ∉ bs) (e : H.bk b = o) : H'.bk b = o := (h.2 b hb hr).trans e
theorem Only.st {r bs H G G'} (h : Only bs G G') (k : St r H G) (hb : ∀ b ∈ bs, b = r ∨ H.n ≤ b) : St r H G' := ⟨Nat.le_trans k.1 h.1, fun x hx hr => (h.2 x (Nat.lt_of_lt_of_le hx k.1) (fun hm => by
  rcases hb x hm with e | e
  · exact hr e
  · omega)).trans (k.2 x hx hr)⟩
theorem Ints_len {l : List Int} : (Ints l).length = l.length := by simp [Ints]
theorem splice_set : ∀ {l : List AV} {i : Nat} {x : AV}, i < l.length → splice l i [x] = l.set i x
  | [], _, _, h => by simp at h
  | a :: l, 0, x, _ => by simp [splice]
  | a :: l, i + 1, x, h => by
    have := splice_set (l := l) (i := i) (x := x) (by simpa using h)
    unfold splice at this ⊢
    have e : i + 1 + [x].length = (i + [x].length) + 1 := by omega
    rw [e]
    simp only [List.take_succ_cons, List.drop_succ_cons, List.cons_append, List.set_cons_succ]
    rw [this]
theorem Ints_set {l : List Int} {i : Nat} {x : Int} (h : i < l.length) : splice (Ints l) i [.I x] = Ints (l.set i x) := by
  rw [splice_set (by rw [Ints_len]; exact h)]
  unfold Ints; rw [List.map_set]

theorem load_bk {H : AH} {b o : Nat} {cs : List AV} {q : Bool} (h : H.bk b = some ⟨cs, q⟩) : H.load b o = cs[o]? := by unfold AH.load; rw [h]; rfl
theorem loadN_bk {H : AH} {b o n : Nat} {cs : List AV} {q : Bool} (h : H.bk b = some ⟨cs, q⟩) : H.loadN b o n = seg cs o n := by unfold AH.loadN; rw [h]; rfl
theorem store_bk {H : AH} {b o : Nat} {vs cs : List AV} (h : H.bk b = some ⟨cs, true⟩) (hl : o + vs.length ≤ cs.length) : H.store b o vs = some (H.put b (some ⟨splice cs o vs, true⟩)) := store_of h hl

theorem push_old {H : AH} {cs b o} (hb : b < H.n) (e : H.bk b = o) : (H.push cs).bk b = o := by simp only [push_bk]; rw [if_neg (by omega)]; exact e
theorem push_new {H : AH} {cs} : (H.push cs).bk H.n = some ⟨cs, true⟩ := by simp only [push_bk, if_true]
theorem put_same {H : AH} {b o} : (H.put b o).bk b = o := by simp
theorem put_other {H : AH} {b b' o o'} (hb : ¬ b = b') (e : H.bk b = o) : (H.put b' o').bk b = o := by simp [hb]; exact e
theorem SeesZ.off {H : AH} {l : List Int} {cap : ACap} {b o : Nat} {q : Bool} (hl : l.length ≤ 8589934592) (hb : b < H.n) (h : H.bk b = some ⟨Ints l, q⟩) (ho : o ≤ l.length) : SeesZ H (.sl b o (l.drop o).length cap) (l.drop o) :=
  ⟨rfl, by rw [List.length_drop]; omega, fun i x hx => ⟨b, o, rfl, hb, by rw [load_bk h]; rw [List.getElem?_drop] at hx; simp [Ints, hx]⟩⟩
section
variable {H : AH} {K : AV → AH → Prop} {n p : Int} {r : Nat} {w : Fk K}
def MemS (base : Nat) (no : List Nat) (G : AH) (v : AV) (l : List Int) : Prop := ∃ b cap, v = .sl b 0 l.length cap ∧ base ≤ b ∧ b ∉ no ∧ b < G.n ∧ G.bk b = some ⟨Ints l, true⟩ ∧ (cap = .ex l.length ∨ cap = .lb l.length 1)
theorem seg_all {l : List Int} : seg (Ints l) 0 (l.length * 1) = some (Ints l) := by
  unfold seg; rw [Ints_len, if_pos (by omega), List.drop_zero, List.take_of_length_le (by rw [Ints_len]; omega)]
theorem MemS.app {base no} {G : AH} {v : AV} {l : List Int} {x : Int} (h : MemS base no G v l) (hl : l.length < 1000) (hn : ∀ y ∈ no, y < G.n) (hb : base ≤ G.n) :
    ∃ v' G', aapp G 1 v 1 [.I x] = some (v', G') ∧ MemS base no G' v' (l ++ [x]) ∧ G.n ≤ G'.n ∧ (∀ y, y < G.n → (y < base ∨ y ∈ no) → G'.bk y = G.bk y) ∧ v'.flat = true := by
  obtain ⟨b, cap, rfl, h1, h2, h3, h4, h5⟩ := h
  have e1 : Ints l ++ [.I x] = Ints (l ++ [x]) := by simp [Ints]
  have nn : G.n ∉ no := fun hm => by have := hn _ hm; omega
  rcases h5 with rfl | rfl
  · refine ⟨.sl G.n 0 (l.length + 1) (.lb (l.length + 1) 1), G.push (Ints l ++ [.I x]), ?_, ⟨G.n, .lb (l.length + 1) 1, by simp, hb, nn, Nat.lt_succ_self _, by rw [e1]; simp, .inr (by simp)⟩, Nat.le_succ _, fun y hy _ => ?_, rfl⟩
    · unfold aapp
      simp only
      rw [if_neg (show ¬ 1 = 0 by omega), if_neg (show ¬ big < l.length + 1 by unfold big; omega), if_neg (show ¬ l.length + 1 ≤ l.length by omega), loadN_bk h4, seg_all]
    · simp only [push_bk]; rw [if_neg (by omega)]
  · refine ⟨.sl G.n 0 (l.length + 1) (.lb (l.length + 1) 1), (G.put b none).push (Ints l ++ [.I x]), ?_, ⟨G.n, .lb (l.length + 1) 1, by simp, hb, nn, Nat.lt_succ_self _, by rw [e1]; simp, .inr (by simp)⟩, Nat.le_succ _, fun y hy hq => ?_, rfl⟩
    · unfold aapp
      simp only
      rw [if_neg (show ¬ 1 = 0 by omega), if_neg (show ¬ big < l.length + 1 by unfold big; omega), if_neg (show ¬ (1 ≠ 1) by omega), if_neg (show ¬ l.length + 1 ≤ l.length by omega), h4, loadN_bk h4, seg_all]
      simp
    · have hy' : ¬ y = (G.put b none).n := Nat.ne_of_lt hy
      simp only [push_bk, put_bk]; rw [if_neg hy', if_neg]; rintro rfl; rcases hq with hq | hq
      · omega
      · exact h2 hq
theorem flat_cells {v : AV} (h : v.flat = true) : v.cells = [v] := by cases v <;> first | rfl | cases h
theorem flat_tup {v : AV} (h : v.flat = true) : v.isTup = false := by cases v <;> first | rfl | cases h
theorem Rdx.same {m : Int} {G G' : AH} (h : Rdx G r m) (hn : G.n ≤ G'.n) (k : ∀ b, b ≤ r → G'.bk b = G.bk b) : Rdx G' r m := by
  obtain ⟨p, h1, h2, h3, s, l, h4, h5⟩ := h
  refine ⟨p, h1, h2, by omega, s, l, (k r (Nat.le_refl _)).trans h4, h5.1, h5.2.1, fun i x hx => ?_⟩
  obtain ⟨q1, b', o', q2, q3, q4, q5⟩ := h5.2.2 i x hx
  exact ⟨q1, b', o', q2, q3, by omega, by rw [k b' (by omega)]; exact q5⟩
theorem MemS.sees {base no} {G : AH} {v : AV} {l : List Int} (h : MemS base no G v l) (hl : l.length ≤ 8589934592) : SeesZ G v l := by
  obtain ⟨b, cap, rfl, h1, h2, h3, h4, h5⟩ := h
  exact SeesZ.of hl h3 h4
def Regs (base : Nat) (c : List AV) (m : Mach) : Prop := ∃ b o e, c = [.sl b o m.regs.length (.ex m.regs.length), .I m.pc, e] ∧ base ≤ b ∧ ∀ b' o' n', asSl e = some (b', o', n') → base ≤ b'
theorem SeesZ.put {H : AH} {v l b o} (h : SeesZ H v l) (k : ∀ b' o' n', asSl v = some (b', o', n') → b' ≠ b) : SeesZ (H.put b o) v l :=
  ⟨h.1, h.2.1, fun i x hx => let ⟨b1, o1, h1, h2, h3⟩ := h.2.2 i x hx; ⟨b1, o1, h1, h2, by unfold AH.load at h3 ⊢; simp only [put_bk]; rw [if_neg (k _ _ _ h1)]; exact h3⟩⟩
def Src (H : AH) (v : AV) (l : List Int) : Prop := l.length ≤ 8589934592 ∧ ((v = .nils ∧ l = []) ∨ (v = .esl ∧ l = []) ∨ ∃ b o c, v = .sl b o l.length c ∧ b < H.n ∧ H.loadN b o l.length = some (Ints l))
theorem Src.sees {H : AH} {v : AV} {l : List Int} (h : Src H v l) : SeesZ H v l := by
  obtain ⟨h0, h | h | ⟨b, o, c, rfl, hb, hl⟩⟩ := h
  · obtain ⟨rfl, rfl⟩ := h; exact SeesZ.nil rfl
  · obtain ⟨rfl, rfl⟩ := h; exact SeesZ.nil rfl
  · refine ⟨rfl, h0, fun i x hx => ⟨b, o, rfl, hb, ?_⟩⟩
    have hi := (List.getElem?_eq_some_iff.1 hx).1
    rw [loadN_at hl hi]; simp [Ints, hx]
theorem Src.flat {H : AH} {v : AV} {l : List Int} (h : Src H v l) : v.flat = true := by
  obtain ⟨h0, h | h | ⟨b, o, c, rfl, hb, hl⟩⟩ := h
  · rw [h.1]; rfl
  · rw [h.1]; rfl
  · rfl
theorem Src.elems {H : AH} {v : AV} {l : List Int} (h : Src H v l) : elems H 1 v = some (Ints l) := by
  obtain ⟨h0, h | h | ⟨b, o, c, rfl, hb, hl⟩⟩ := h
  · obtain ⟨rfl, rfl⟩ := h; rfl
  · obtain ⟨rfl, rfl⟩ := h; rfl
  · simpa [AM.elems] using hl
theorem Src.same {H H' : AH} {v : AV} {l : List Int} (h : Src H v l) (hn : H.n ≤ H'.n) (k : ∀ b o n, asSl v = some (b, o, n) → b < H.n → H'.bk b = H.bk b) : Src H' v l := by
  obtain ⟨h0, h | h | ⟨b, o, c, rfl, hb, hl⟩⟩ := h
  · exact ⟨h0, .inl h⟩
  · exact ⟨h0, .inr (.inl h)⟩
  · refine ⟨h0, .inr (.inr ⟨b, o, c, rfl, Nat.lt_of_lt_of_le hb hn, ?_⟩)⟩
    unfold AH.loadN at hl ⊢
    rw [k _ _ _ rfl hb]; exact hl
theorem Src.ext {H H' : AH} {v : AV} {l : List Int} (h : Src H v l) (k : Ext H H') : Src H' v l := h.same k.1 fun b o n _ hb => k.2 b hb
def SrcM (H : AH) (c : List AV) (m : Mach) : Prop := ∃ r e, c = [r, .I m.pc, e] ∧ Src H r m.regs ∧ Src H e m.mem
theorem SrcM.sees {H : AH} {c m} (h : SrcM H c m) : SeesM H c m := let ⟨r, e, h1, h2, h3⟩ := h; ⟨r, e, h1, h2.sees, h3.sees, h2.flat, h3.flat⟩
theorem SrcM.ext {H H' : AH} {c m} (h : SrcM H c m) (k : Ext H H') : SrcM H' c m := let ⟨r, e, h1, h2, h3⟩ := h; ⟨r, e, h1, h2.ext k, h3.ext k⟩
theorem MemS.src {base no} {G : AH} {v : AV} {l : List Int} (h : MemS base no G v l) (hl : l.length ≤ 8589934592) : Src G v l := by
  obtain ⟨b, cap, rfl, h1, h2, h3, h4, h5⟩ := h
  refine ⟨hl, .inr (.inr ⟨b, 0, cap, rfl, h3, ?_⟩)⟩
  rw [loadN_bk h4]; have := @seg_all l; simpa using this
theorem Src.off {H : AH} {l : List Int} {cap : ACap} {b o n : Nat} {q : Bool} (hl : l.length ≤ 8589934592) (hn : n = (l.drop o).length) (hb : b < H.n) (h : H.bk b = some ⟨Ints l, q⟩) (ho : o ≤ l.length) : Src H (.sl b o n cap) (l.drop o) := by
  subst hn
  refine ⟨by rw [List.length_drop]; omega, .inr (.inr ⟨b, o, cap, rfl, hb, ?_⟩)⟩
  rw [loadN_bk h]
  unfold seg
  rw [if_pos (by rw [Ints_len, List.length_drop]; omega)]
  congr 1
  unfold Ints
  rw [List.map_drop, List.take_of_length_le (by simp)]
theorem Regs.put {base b : Nat} {o} {H : AH} {c : List AV} {m : Mach} (h : Regs base c m) (k : SrcM H c m) (hb : b < base) : SrcM (H.put b o) c m := by
  obtain ⟨b1, o1, e, rfl, h1, h2⟩ := h
  obtain ⟨r', e', hc, k1, k2⟩ := k
  simp only [List.cons.injEq, and_true, true_and] at hc
  obtain ⟨rfl, rfl⟩ := hc
  exact ⟨_, _, rfl, k1.same (Nat.le_refl _) (fun b' o' n' q _ => by simp at q; simp only [put_bk]; rw [if_neg (by omega)]), k2.same (Nat.le_refl _) (fun b' o' n' q _ => by have := h2 _ _ _ q; simp only [put_bk]; rw [if_neg (by omega)])⟩
end
end Go.Proofs.YtcibjklpaljadaaGreat.AM
namespace Go.Proofs.YtcibjklpaljadaaGreat.AM
set_option linter.unusedSimpArgs false
set_option linter.unusedVariables false
open Go

theorem SlI.ext {H H' : AH} {k : IntKind} {v : AV} {zs : List Int} (h : SlI H k v zs) (e : Ext H H') : SlI H' k v zs := by
  rcases h with ⟨rfl, rfl⟩ | ⟨rfl, rfl⟩ | ⟨b, rest, hb, rfl, h⟩
  · exact .inl ⟨rfl, rfl⟩
  · exact .inr (.inl ⟨rfl, rfl⟩)
  · exact .inr (.inr ⟨b, rest, Nat.lt_of_lt_of_le hb e.1, rfl, (e.2 b hb).trans h⟩)
theorem SeesZ.loadN {H : AH} {b o n : Nat} {cap : ACap} {l : List Int} (h : SeesZ H (.sl b o n cap) l) (hn : n = l.length) (hl : 0 < l.length) : H.loadN b o n = some (Ints l) := by
  have q : ∀ i (hi : i < l.length), H.load b (o + i) = some (.I l[i]) := fun i hi => by
    obtain ⟨b1, o1, q1, q2, q3⟩ := h.at hi
    simp at q1
    obtain ⟨rfl, rfl, _⟩ := q1
    exact q3
  unfold AH.loadN AH.load at *
  cases hb : H.bk b with
  | none => have := q 0 hl; rw [hb] at this; cases this
  | some k =>
    rw [hb] at q
    simp only [Option.bind_some] at q ⊢
    have q1 := q (l.length - 1) (by omega)
    have q2 := (List.getElem?_eq_some_iff.1 q1).1
    unfold seg
    rw [if_pos (by omega), hn]
    congr 1
    apply List.ext_getElem?
    intro i
    by_cases hi : i < l.length
    · rw [List.getElem?_take, if_pos hi, List.getElem?_drop, q i hi]; simp [Ints, hi]
    · rw [List.getElem?_take, if_neg hi, List.getElem?_eq_none (by rw [Ints_len]; omega)]
section
variable {H : AH} {K : AV → AH → Prop} {w : Fk K}
end
end Go.Proofs.YtcibjklpaljadaaGreat.AM
namespace Go.Proofs.YtcibjklpaljadaaGreat.AM
set_option linter.unusedSimpArgs false
set_option linter.unusedVariables false
open Go

section
variable {x y : Int}
end

def threeM (op : Int) : Int := ([0, 0, 0, 4, 6, 7, 6, 4, 1, 5, 2, 0, 3, 2, 0, 2, 0, 1, 0, 0, 0] : List Int).getD (op - 1).toNat 0
def sevenM (op : Int) : Int := ([0, 32, 1, 1, 1, 0, 0, 0, 0, 32, 0] : List Int).getD (op - 1).toNat 0
def opcM (op : Int) : Int := ([51, 51, 51, 51, 51, 51, 51, 51, 51, 51, 51, 19, 19, 3, 103, 35, 99, 99, 55, 111, 115] : List Int).getD (op - 1).toNat 0
theorem bits_lt {u lo many : Int} : 0 ≤ bitsM u lo many ∧ bitsM u lo many < 2 ^ many.toNat := by
  unfold bitsM
  split
  · exact mod_pow_lt
  · exact ⟨Int.le_refl _, pow_pos2⟩
end Go.Proofs.YtcibjklpaljadaaGreat.AM
namespace Go.Proofs.YtcibjklpaljadaaGreat.AM
set_option linter.unusedSimpArgs false
set_option linter.unusedVariables false
open Go

theorem b5 {u lo : Int} : 0 ≤ bitsM u lo 5 ∧ bitsM u lo 5 < 32 := bits_lt
theorem b1 {u lo : Int} : 0 ≤ bitsM u lo 1 ∧ bitsM u lo 1 < 2 := bits_lt
theorem b3 {u lo : Int} : 0 ≤ bitsM u lo 3 ∧ bitsM u lo 3 < 8 := bits_lt
theorem b4 {u lo : Int} : 0 ≤ bitsM u lo 4 ∧ bitsM u lo 4 < 16 := bits_lt
theorem b6 {u lo : Int} : 0 ≤ bitsM u lo 6 ∧ bitsM u lo 6 < 64 := bits_lt
theorem b7 {u lo : Int} : 0 ≤ bitsM u lo 7 ∧ bitsM u lo 7 < 128 := bits_lt
end Go.Proofs.YtcibjklpaljadaaGreat.AM
namespace Go.Proofs.YtcibjklpaljadaaGreat.AM
set_option linter.unusedSimpArgs false
set_option linter.unusedVariables false
open Go

section
variable {H : AH} {K : AV → AH → Prop} {n a b : Int} {w : Fk K}
end
end Go.Proofs.YtcibjklpaljadaaGreat.AM
namespace Go.Proofs.YtcibjklpaljadaaGreat.AM
set_option linter.unusedSimpArgs false
set_option linter.unusedVariables false
set_option maxRecDepth 10000
open Go

theorem B1 {u lo : Int} : 0 ≤ bitsM u lo 1 ∧ bitsM u lo 1 < 2 := bits_lt
theorem B4 {u lo : Int} : 0 ≤ bitsM u lo 4 ∧ bitsM u lo 4 < 16 := bits_lt
def tabRows (ns : Nat → ByteArray) : List (List AV) := (List.range 21).map fun j => [.str (ns j), .I (opcM ((j : Int) + 1)), .I (threeM ((j : Int) + 1)), .I (sevenM ((j : Int) + 1))]
def mops : List Int := [8, 9, 10, 11, 12, 3, 1, 2, 6, 7, 5]
def Glob (H : AH) : Prop := 2 ≤ H.n ∧ (∃ ns q, H.bk 0 = some ⟨(tabRows ns).flatten, q⟩) ∧ ∃ q, H.bk 1 = some ⟨Ints mops, q⟩
theorem Glob.ext {H H' : AH} (h : Glob H) (e : Ext H H') : Glob H' := by
  obtain ⟨h0, ⟨ns, q, h1⟩, q', h2⟩ := h
  exact ⟨Nat.le_trans h0 e.1, ⟨ns, q, (e.2 0 (by omega)).trans h1⟩, q', (e.2 1 (by omega)).trans h2⟩
theorem Glob.row {H : AH} (h : Glob H) {op : Int} (ho : 1 ≤ op ∧ op ≤ 21) : ∃ s, H.loadN 0 ((op.toNat - 1) * 4) 4 = some [.str s, .I (opcM op), .I (threeM op), .I (sevenM op)] := by
  obtain ⟨_, ⟨ns, q, h1⟩, _⟩ := h
  refine ⟨ns (op.toNat - 1), ?_⟩
  rw [loadN_bk h1]
  refine seg_flatten (fun x hx => ?_) ?_
  · simp only [tabRows, List.mem_map] at hx
    obtain ⟨j, _, rfl⟩ := hx
    rfl
  · have e : ((op.toNat - 1 : Nat) : Int) + 1 = op := by omega
    simp only [tabRows, List.getElem?_map]
    rw [List.getElem?_range (by omega)]
    simp only [Option.map_some, e]
section
variable {H : AH} {K : AV → AH → Prop} {n a b op u : Int} {w : Fk K}
theorem cs0 {i : Ins} : i.cs[0]? = some (.I i.op) := rfl
theorem cs1 {i : Ins} : i.cs[1]? = some (.I i.rd) := rfl
theorem cs2 {i : Ins} : i.cs[2]? = some (.I i.rs) := rfl
theorem cs3 {i : Ins} : i.cs[3]? = some (.I i.rt) := rfl
theorem cs4 {i : Ins} : i.cs[4]? = some (.I i.imm) := rfl
attribute [simp] cs0 cs1 cs2 cs3 cs4
end
end Go.Proofs.YtcibjklpaljadaaGreat.AM
namespace Go.Proofs.YtcibjklpaljadaaGreat.AM
set_option linter.unusedSimpArgs false
set_option linter.unusedVariables false
open Go

def ibitsV (f : BitVec 64 → BitVec 64 → BitVec 64) (x y : Int) : Int := (f (BitVec.ofInt 64 x) (BitVec.ofInt 64 y)).toInt
theorem wrap_toNat {v : BitVec 64} : IntKind.i64.wrap (v.toNat : Int) = v.toInt := by
  rw [BitVec.toInt_eq_toNat_cond]
  have := v.isLt
  unfold IntKind.wrap
  simp [IntKind.bits, IntKind.signed]
  split <;> split <;> omega
theorem ibits_V {f : BitVec 64 → BitVec 64 → BitVec 64} {x y : Int} : ibits .i64 f x y = some (.I (ibitsV f x y)) := by
  unfold ibits ibitsV
  exact congrArg (fun z => some (AV.I z)) wrap_toNat
theorem ibits_orV {x y : Int} : ibits .i64 (· ||| ·) x y = some (.I (ibitsV (· ||| ·) x y)) := ibits_V
theorem ibits_andV {x y : Int} : ibits .i64 (· &&& ·) x y = some (.I (ibitsV (· &&& ·) x y)) := ibits_V
theorem ibits_xorV {x y : Int} : ibits .i64 (· ^^^ ·) x y = some (.I (ibitsV (· ^^^ ·) x y)) := ibits_V
theorem ofInt_sign {a : Int} (h : -2147483648 ≤ a ∧ a ≤ 2147483647) : BitVec.ofInt 64 a = (BitVec.ofInt 32 a).signExtend 64 := by
  apply BitVec.eq_of_toInt_eq
  rw [BitVec.toInt_signExtend_of_le (by omega)]
  simp [BitVec.toInt_ofInt, Int.bmod_def]
  omega
theorem sext_lt {v : BitVec 32} : -2147483648 ≤ (v.signExtend 64).toInt ∧ (v.signExtend 64).toInt ≤ 2147483647 := by
  rw [BitVec.toInt_signExtend_of_le (by omega)]
  have h1 := BitVec.le_toInt v
  have h2 := @BitVec.toInt_lt 32 v
  simp at h1 h2
  omega
section
variable {a b : Int}
theorem or_W (ha : -2147483648 ≤ a ∧ a ≤ 2147483647) (hb : -2147483648 ≤ b ∧ b ≤ 2147483647) : -2147483648 ≤ ibitsV (· ||| ·) a b ∧ ibitsV (· ||| ·) a b ≤ 2147483647 := by
  unfold ibitsV; dsimp only; rw [ofInt_sign ha, ofInt_sign hb, ← BitVec.signExtend_or]; exact sext_lt
theorem and_W (ha : -2147483648 ≤ a ∧ a ≤ 2147483647) (hb : -2147483648 ≤ b ∧ b ≤ 2147483647) : -2147483648 ≤ ibitsV (· &&& ·) a b ∧ ibitsV (· &&& ·) a b ≤ 2147483647 := by
  unfold ibitsV; dsimp only; rw [ofInt_sign ha, ofInt_sign hb, ← BitVec.signExtend_and]; exact sext_lt
theorem xor_W (ha : -2147483648 ≤ a ∧ a ≤ 2147483647) (hb : -2147483648 ≤ b ∧ b ≤ 2147483647) : -2147483648 ≤ ibitsV (· ^^^ ·) a b ∧ ibitsV (· ^^^ ·) a b ≤ 2147483647 := by
  unfold ibitsV; dsimp only; rw [ofInt_sign ha, ofInt_sign hb, ← BitVec.signExtend_xor]; exact sext_lt
theorem and_31 (ha : -2147483648 ≤ a ∧ a ≤ 2147483647) : ibitsV (· &&& ·) a 31 = a % 32 := by
  unfold ibitsV
  dsimp only
  have e : (BitVec.ofInt 64 a &&& BitVec.ofInt 64 31).toNat = (a % 32).toNat := by
    rw [BitVec.toNat_and]
    have h31 : (BitVec.ofInt 64 31).toNat = 2 ^ 5 - 1 := by decide
    rw [h31, Nat.and_two_pow_sub_one_eq_mod, BitVec.toNat_ofInt]
    omega
  rw [BitVec.toInt_eq_toNat_cond, e]
  split <;> omega
end
def applyM (op a b : Int) : Int :=
  if op = 1 then ibitsV (· ||| ·) a b
  else if op = 2 then ibitsV (· ^^^ ·) a b
  else if op = 3 then ibitsV (· &&& ·) a b
  else if op = 4 then (if a = b then 1 else 0)
  else if op = 5 then (if a < b then 1 else 0)
  else if op = 6 then wrapM (IntKind.i64.wrap (a * 2 ^ (b % 32).toNat))
  else if op = 7 then a / 2 ^ (b % 32).toNat
  else if op = 8 then wrapM (a + b)
  else if op = 9 then wrapM (a - b)
  else if op = 10 then wrapM (IntKind.i64.wrap (a * b))
  else if op = 11 then (if b = 0 then -1 else wrapM (IntKind.i64.wrap (a.tdiv b)))
  else if b = 0 then a else a.tmod b
theorem iteW {c : Prop} [Decidable c] {x y : Int} (h1 : c → -2147483648 ≤ x ∧ x ≤ 2147483647) (h2 : ¬c → -2147483648 ≤ y ∧ y ≤ 2147483647) : -2147483648 ≤ (if c then x else y) ∧ (if c then x else y) ≤ 2147483647 := by
  by_cases h : c
  · rw [if_pos h]; exact h1 h
  · rw [if_neg h]; exact h2 h
theorem apply_W {op a b : Int} (ha : -2147483648 ≤ a ∧ a ≤ 2147483647) (hb : -2147483648 ≤ b ∧ b ≤ 2147483647) : -2147483648 ≤ applyM op a b ∧ applyM op a b ≤ 2147483647 := by
  have w1 := @wrapM_lt (IntKind.i64.wrap (a * 2 ^ (b % 32).toNat))
  have w2 := @wrapM_lt (a + b)
  have w3 := @wrapM_lt (a - b)
  have w4 := @wrapM_lt (IntKind.i64.wrap (a * b))
  have w5 := @wrapM_lt (IntKind.i64.wrap (a.tdiv b))
  have o1 := or_W ha hb
  have o2 := xor_W ha hb
  have o3 := and_W ha hb
  have hshr : -2147483648 ≤ a / 2 ^ (b % 32).toNat ∧ a / 2 ^ (b % 32).toNat ≤ 2147483647 := by
    have hp := @pow_pos2 (b % 32).toNat
    generalize (2 : Int) ^ (b % 32).toNat = c at *
    clear w1 w2 w3 w4 w5 o1 o2 o3
    by_cases h : 0 ≤ a
    · have h1 := Int.ediv_nonneg h (Int.le_of_lt hp)
      have h2 := Int.ediv_le_self c h
      omega
    · have h1 : a ≤ a / c := by
        rw [Int.le_ediv_iff_mul_le hp]
        have : a * c ≤ a * 1 := Int.mul_le_mul_of_nonpos_left (by omega) (by omega)
        omega
      have h2 : a / c < 0 := Int.ediv_neg_of_neg_of_pos (by omega) hp
      omega
  have htm : b ≠ 0 → -2147483648 ≤ a.tmod b ∧ a.tmod b ≤ 2147483647 := by
    intro hb0
    clear w1 w2 w3 w4 w5 o1 o2 o3 hshr
    have h := Int.natAbs_tmod a b
    have h2 : a.natAbs % b.natAbs ≤ a.natAbs := Nat.mod_le _ _
    have h3 : a.natAbs % b.natAbs < b.natAbs := Nat.mod_lt _ (by omega)
    generalize a.tmod b = t at *
    generalize a.natAbs % b.natAbs = r at *
    by_cases hs : 0 ≤ a
    · omega
    · omega
  unfold applyM
  refine iteW (fun _ => o1) fun _ => iteW (fun _ => o2) fun _ => iteW (fun _ => o3) fun _ => iteW (fun _ => iteW (fun _ => by omega) fun _ => by omega) fun _ => iteW (fun _ => iteW (fun _ => by omega) fun _ => by omega) fun _ =>
    iteW (fun _ => w1) fun _ => iteW (fun _ => hshr) fun _ => iteW (fun _ => w2) fun _ => iteW (fun _ => w3) fun _ => iteW (fun _ => w4) fun _ => iteW (fun _ => iteW (fun _ => by omega) fun _ => w5) fun _ => iteW (fun _ => ha) fun h => htm h
section
variable {H : AH} {K : AV → AH → Prop} {op a b : Int} {w : Fk K}
theorem K_itruth {x : Bool} : CallF Cd f_itruth [.b x] H K w = K (.I (if x = true then 1 else 0)) H := by
  rw [CallF_eq e_itruth rfl]
  cases x <;> simp
theorem K_sl2Flag {x : Bool} : CallF Cd f_sl2Flag [.b x] H K w = K (.I (if x = true then 1 else 0)) H := by
  rw [CallF_eq e_sl2Flag rfl]
  cases x <;> simp
theorem K_iapply (ha : -2147483648 ≤ a ∧ a ≤ 2147483647) (hb : -2147483648 ≤ b ∧ b ≤ 2147483647) : CallF Cd f_iapply [.I op, .I a, .I b] H K w = K (.I (applyM op a b)) H := by
  rw [CallF_eq e_iapply rfl]
  have h31 := and_31 hb
  simp
  repeat' (refine cnd_iff (fun h => ?_) (fun h => ?_) <;> try simp (disch := omega) [h, ibits_orV, ibits_andV, ibits_xorV, K_itruth, h31, K_iWrap])
  all_goals (refine Ki_fin ?_; simp [applyM, *])
theorem K_sl2Shift {x : Bool} (ha : -2147483648 ≤ a ∧ a ≤ 2147483647) (hb : -2147483648 ≤ b ∧ b ≤ 2147483647) : CallF Cd f_sl2Shift [.I a, .I b, .b x] H K w = K (.I (if x = true then a / 2 ^ (b % 32).toNat else wrapM (IntKind.i64.wrap (a * 2 ^ (b % 32).toNat)))) H := by
  rw [CallF_eq e_sl2Shift rfl]
  have h31 := and_31 hb
  cases x <;> simp (disch := omega) [ibits_orV, ibits_andV, ibits_xorV, h31, K_sWrap]
theorem K_sl2Divide : CallF Cd f_sl2Divide [.I a, .I b] H K w = K (.I (if b = 0 then -1 else wrapM (IntKind.i64.wrap (a.tdiv b)))) H := by
  rw [CallF_eq e_sl2Divide rfl]
  simp
  refine cnd_iff (fun h => ?_) (fun h => ?_)
  · simp [h]
  · simp (disch := omega) [h, K_sWrap]
theorem K_sl2Remain : CallF Cd f_sl2Remain [.I a, .I b] H K w = K (.I (if b = 0 then a else a.tmod b)) H := by
  rw [CallF_eq e_sl2Remain rfl]
  simp
  refine cnd_iff (fun h => ?_) (fun h => ?_)
  · simp [h]
  · simp (disch := omega) [h]
theorem Kt_fin {x y : Int} {z : AV} (h : x = y) : K (.tup [.I x, z]) H ↔ K (.tup [.I y, z]) H := by rw [h]
theorem K_sApply (ho : 1 ≤ op ∧ op ≤ 12) (ha : -2147483648 ≤ a ∧ a ≤ 2147483647) (hb : -2147483648 ≤ b ∧ b ≤ 2147483647) : CallF Cd f_sApply [.I op, .I a, .I b] H K w = K (.tup [.I (applyM op a b), .b true]) H := by
  rw [CallF_eq e_sApply rfl]
  have wa : isW a = true := by simp [isW]; omega
  have wb : isW b = true := by simp [isW]; omega
  have eo : ∀ (K : AV → AH → Prop) (w : Fk K), CallF Cd f_sOpValid [.I op] H K w = K (.b true) H := fun K w => by
    rw [CallF_eq e_sOpValid rfl]; simp [K_sl6In, ho]
  simp [eo, K_sWordValid, wa, wb]
  repeat' (refine cnd_iff (fun h => ?_) (fun h => ?_) <;> try simp (disch := omega) [h, ibits_orV, ibits_andV, ibits_xorV, K_sl2Flag, K_sl2Shift, K_sl2Divide, K_sl2Remain, K_sWrap])
  all_goals (refine Kt_fin ?_; simp [applyM, *])
end
end Go.Proofs.YtcibjklpaljadaaGreat.AM
namespace Go.Proofs.YtcibjklpaljadaaGreat.AM
set_option linter.unusedSimpArgs false
set_option linter.unusedVariables false
set_option maxRecDepth 10000
open Go

def Own (H : AH) (v : AV) (b : Nat) (l : List Int) : Prop := l.length ≤ 8589934592 ∧ ((v = .nils ∧ l = []) ∨ ∃ c, v = .sl b 0 l.length c ∧ H.bk b = some ⟨Ints l, true⟩ ∧ b < H.n)
theorem Own.only {H H' : AH} {v b l bs} (h : Own H v b l) (k : Only bs H H') (hb : b ∉ bs) : Own H' v b l := by
  obtain ⟨h0, h | ⟨c, rfl, h1, h2⟩⟩ := h
  · exact ⟨h0, .inl h⟩
  · exact ⟨h0, .inr ⟨c, rfl, k.bk h2 hb h1, Nat.lt_of_lt_of_le h2 k.1⟩⟩
theorem Ext.only {H H' bs} (h : Ext H H') : Only bs H H' := ⟨h.1, fun b hb _ => h.2 b hb⟩
theorem Own.ext {H H' : AH} {v b l} (h : Own H v b l) (k : Ext H H') : Own H' v b l := h.only (bs := []) k.only (by simp)
theorem Own.src {H : AH} {v b l} (h : Own H v b l) : Src H v l := by
  obtain ⟨h0, ⟨rfl, rfl⟩ | ⟨c, rfl, h1, h2⟩⟩ := h
  · exact ⟨h0, .inl ⟨rfl, rfl⟩⟩
  · refine ⟨h0, .inr (.inr ⟨b, 0, c, rfl, h2, ?_⟩)⟩
    rw [loadN_bk h1]; have := @seg_all l; simpa using this
theorem Own.flat {H : AH} {v b l} (h : Own H v b l) : v.flat = true := h.src.flat
theorem Own.len {H : AH} {v b l} (h : Own H v b l) : alen v = some l.length := h.src.sees.1
structure MAt (H : AH) (P rb mb : Nat) (c1 : ACap) (e : AV) (m : Mach) : Prop where
  p : H.bk P = some ⟨[.sl rb 0 32 c1, .I m.pc, e], true⟩
  r : H.bk rb = some ⟨Ints m.regs, true⟩
  rl : m.regs.length = 32
  own : Own H e mb m.mem
  mp : mb ≠ P
  mr : mb ≠ rb
  pr : P ≠ rb
  pn : P < H.n
  rn : rb < H.n
  ml : m.mem.length ≤ 10000
theorem MAt.only {H H' : AH} {P rb mb c1 e m bs} (h : MAt H P rb mb c1 e m) (k : Only bs H H') (hb : P ∉ bs ∧ rb ∉ bs ∧ mb ∉ bs) : MAt H' P rb mb c1 e m :=
  ⟨k.bk h.pn hb.1 h.p, k.bk h.rn hb.2.1 h.r, h.rl, h.own.only k hb.2.2, h.mp, h.mr, h.pr, Nat.lt_of_lt_of_le h.pn k.1, Nat.lt_of_lt_of_le h.rn k.1, h.ml⟩
theorem MAt.ext {H H' : AH} {P rb mb c1 e m} (h : MAt H P rb mb c1 e m) (k : Ext H H') : MAt H' P rb mb c1 e m := h.only (bs := []) k.only (by simp)
theorem MAt.setPc {H : AH} {P rb mb c1 e m} (h : MAt H P rb mb c1 e m) (x : Int) : MAt (H.put P (some ⟨[.sl rb 0 32 c1, .I x, e], true⟩)) P rb mb c1 e ⟨m.regs, x, m.mem⟩ :=
  ⟨put_same, put_other h.pr.symm h.r, h.rl, h.own.only (bs := [P]) (Only.refl.put (by simp)) (by simpa using h.mp), h.mp, h.mr, h.pr, h.pn, h.rn, h.ml⟩
section
variable {H : AH} {K : AV → AH → Prop} {a x rd : Int} {w : Fk K} {P rb mb : Nat} {c1 : ACap} {e : AV} {m : Mach}
end
end Go.Proofs.YtcibjklpaljadaaGreat.AM
namespace Go.Proofs.YtcibjklpaljadaaGreat.AM
set_option linter.unusedSimpArgs false
set_option linter.unusedVariables false
set_option maxRecDepth 10000
open Go

section
variable {H : AH} {K : AV → AH → Prop} {w : Fk K} {P rb mb : Nat} {c1 : ACap} {e : AV} {m : Mach}
end
end Go.Proofs.YtcibjklpaljadaaGreat.AM
namespace Go.Proofs.YtcibjklpaljadaaGreat.AM
set_option linter.unusedSimpArgs false
set_option linter.unusedVariables false
set_option maxRecDepth 10000
open Go

section
variable {H : AH} {K : AV → AH → Prop} {w : Fk K} {P rb mb : Nat} {c1 : ACap} {e : AV} {m : Mach} {i : Ins}
end
end Go.Proofs.YtcibjklpaljadaaGreat.AM
namespace Go.Proofs.YtcibjklpaljadaaGreat.AM
set_option linter.unusedSimpArgs false
set_option linter.unusedVariables false
set_option maxRecDepth 10000
open Go

def OwnM (base : Nat) (H : AH) (c : List AV) (rb mb : Nat) (m : Mach) : Prop := ∃ r e, c = [r, .I m.pc, e] ∧ Own H r rb m.regs ∧ Own H e mb m.mem ∧ base ≤ rb ∧ base ≤ mb ∧ rb ≠ mb
theorem OwnM.src {base H c rb mb m} (h : OwnM base H c rb mb m) : SrcM H c m := let ⟨r, e, h1, h2, h3, _⟩ := h; ⟨r, e, h1, h2.src, h3.src⟩
theorem OwnM.ext {base H H' c rb mb m} (h : OwnM base H c rb mb m) (k : Ext H H') : OwnM base H' c rb mb m := let ⟨r, e, h1, h2, h3, h4⟩ := h; ⟨r, e, h1, h2.ext k, h3.ext k, h4⟩
section
variable {H : AH} {K : AV → AH → Prop} {w : Fk K} {m : Mach}
end
end Go.Proofs.YtcibjklpaljadaaGreat.AM
namespace Go.Proofs.YtcibjklpaljadaaGreat.AM
set_option linter.unusedSimpArgs false
set_option linter.unusedVariables false
set_option maxRecDepth 10000
open Go

def nums (k : Int) (n : Nat) : List Int := (List.range n).map fun (i : Nat) => k + i
theorem nums_len {k : Int} {n : Nat} : (nums k n).length = n := by simp [nums]
section
variable {H : AH} {K : AV → AH → Prop} {w : Fk K} {m : Mach} {c : List AV}
theorem K_wheldIntS_l {v : AV} {l : List Int} {k : Int} (h : SeesZ H v (nums k l.length)) (hk : 0 ≤ k ∧ k ≤ 1099511627776) {Q : Out → Env → AH → Prop} (n i : Nat) (hn : i + n = l.length)
    (h1 : ∀ e, Q (.brk 0) ([(0, v), (1, .I (k + l.length))] ++ e) H) :
    W Cd (.loop c_wheldIntS_l0) [(0, v), (1, .I (k + i)), (5, .I i)] H Q := by
  have hl := h.2.1
  have al := h.1
  rw [nums_len] at hl al
  induction n generalizing i with
  | zero =>
    rw [W_loop_as c_wheldIntS_l0.eq_1]
    have hi : i = l.length := by omega
    subst hi
    simp [al]
    exact h1 [(5, .I l.length), (9, .b false)]
  | succ n ih =>
    rw [W_loop_as c_wheldIntS_l0.eq_1]
    have hi : i < l.length := by omega
    have hlt : (i : Int) < l.length := by omega
    obtain ⟨b, o, s1, _, l1⟩ := h.at (i := i) (by rw [nums_len]; exact hi)
    rw [nums_len] at s1
    have hx : (nums k l.length)[i]'(by rw [nums_len]; exact hi) = k + i := by simp [nums]
    rw [hx] at l1
    have hr := ih (i + 1) (by omega)
    simp (disch := omega) [hlt, al, s1, l1]
    rw [show k + (i : Int) + 1 = k + ((i + 1 : Nat) : Int) by omega]
    simpa using hr
theorem K_wheldIntS {v : AV} {l : List Int} {k : Int} (h : SeesZ H v (nums k l.length)) (hk : 0 ≤ k ∧ k ≤ 1099511627776) (h1 : K (.I (k + l.length)) H) : CallF Cd f_wheldIntS [v, .I k] H K w := by
  rw [CallF_eq e_wheldIntS rfl]
  simp
  have := K_wheldIntS_l h hk (Q := blockK 0 (seqK Cd (.keep [1]) (seqK Cd (((AC.ops [o1 20 (.mv (.t 1)), o1 4 (.mv (.t 20))]).seq (.keep [4])).seq .ret) (retK [.t 4] K)))) l.length 0 (by omega) (fun e => by simp; exact h1)
  simpa using this
theorem Own.lt {v : AV} {b : Nat} {l : List Int} (h : Own H v b l) : (v = .nils ∧ l = []) ∨ b < H.n := by
  obtain ⟨_, h | ⟨_, _, _, h⟩⟩ := h
  · exact .inl h
  · exact .inr h
end
end Go.Proofs.YtcibjklpaljadaaGreat.AM
namespace Go.Proofs.YtcibjklpaljadaaGreat.AM
set_option linter.unusedSimpArgs false
set_option linter.unusedVariables false
open Go

inductive Exs where
  | nil
  | cons (op n : Int) (args rest : Exs)
deriving DecidableEq, Inhabited
structure Ex where
  op : Int
  n : Int
  args : Exs
deriving DecidableEq, Inhabited
@[simp] def Exs.list : Exs → List Ex
  | .nil => []
  | .cons op n a r => ⟨op, n, a⟩ :: r.list
@[simp] def Exs.of : List Ex → Exs
  | [] => .nil
  | e :: l => .cons e.op e.n e.args (Exs.of l)
theorem Exs.list_of : ∀ l : List Ex, (Exs.of l).list = l
  | [] => rfl
  | e :: l => by simp [Exs.list_of l]
theorem Exs.of_list : ∀ l : Exs, Exs.of l.list = l
  | .nil => rfl
  | .cons op n a r => by simp [Exs.of_list r]
theorem Exs.both {Q : Exs → Prop} (h : ∀ a : Exs, (∀ e ∈ a.list, Q e.args) → Q a) : ∀ a : Exs, Q a ∧ ∀ e ∈ a.list, Q e.args
  | .nil => ⟨h _ (by simp), by simp⟩
  | .cons op n a r => by
    have h1 := (Exs.both h a).1
    have h2 := (Exs.both h r).2
    have h3 : ∀ e ∈ (Exs.cons op n a r).list, Q e.args := by
      intro e he
      rcases List.mem_cons.1 he with rfl | he
      · exact h1
      · exact h2 e he
    exact ⟨h _ h3, h3⟩
theorem Exs.ind {Q : Exs → Prop} (h : ∀ a : Exs, (∀ e ∈ a.list, Q e.args) → Q a) (a : Exs) : Q a := (Exs.both h a).1

inductive Sts where
  | nil
  | cons (k v b : Int) (e : Ex) (body els rest : Sts)
deriving DecidableEq, Inhabited
structure St1 where
  k : Int
  v : Int
  b : Int
  e : Ex
  body : Sts
  els : Sts
deriving DecidableEq, Inhabited
@[simp] def Sts.list : Sts → List St1
  | .nil => []
  | .cons k v b e y z r => ⟨k, v, b, e, y, z⟩ :: r.list
@[simp] def Sts.of : List St1 → Sts
  | [] => .nil
  | s :: l => .cons s.k s.v s.b s.e s.body s.els (Sts.of l)
theorem Sts.list_of : ∀ l : List St1, (Sts.of l).list = l
  | [] => rfl
  | e :: l => by simp [Sts.list_of l]
theorem Sts.of_list : ∀ l : Sts, Sts.of l.list = l
  | .nil => rfl
  | .cons k v b e y z r => by simp [Sts.of_list r]
theorem Sts.both {Q : Sts → Prop} (h : ∀ a : Sts, (∀ s ∈ a.list, Q s.body ∧ Q s.els) → Q a) : ∀ a : Sts, Q a ∧ ∀ s ∈ a.list, Q s.body ∧ Q s.els
  | .nil => ⟨h _ (by simp), by simp⟩
  | .cons k v b e y z r => by
    have h1 := (Sts.both h y).1
    have h1' := (Sts.both h z).1
    have h2 := (Sts.both h r).2
    have h3 : ∀ s ∈ (Sts.cons k v b e y z r).list, Q s.body ∧ Q s.els := by
      intro e he
      rcases List.mem_cons.1 he with rfl | he
      · exact ⟨h1, h1'⟩
      · exact h2 e he
    exact ⟨h _ h3, h3⟩
theorem Sts.ind {Q : Sts → Prop} (h : ∀ a : Sts, (∀ s ∈ a.list, Q s.body ∧ Q s.els) → Q a) (a : Sts) : Q a := (Sts.both h a).1

def capOk (n sz : Nat) : ACap → Prop
  | .ex c => n ≤ c
  | .lb c z => n ≤ c ∧ z = sz
  | .ro => True
def SlC (ok : Nat → Prop) (H : AH) (v : AV) (n sz : Nat) (cs : List AV) : Prop :=
  n ≤ 8589934592 ∧ cs.length = n * sz ∧ ((n = 0 ∧ (v = .nils ∨ v = .esl)) ∨ ∃ b o cap, v = .sl b o n cap ∧ (ok b ∧ capOk n sz cap) ∧ b < H.n ∧ H.loadN b o (n * sz) = some cs)
theorem SlC.flat {ok H v n sz cs} (h : SlC ok H v n sz cs) : v.flat = true := by
  obtain ⟨_, _, ⟨_, rfl | rfl⟩ | ⟨b, o, c, rfl, _⟩⟩ := h <;> rfl
theorem SlC.alen {ok H v n sz cs} (h : SlC ok H v n sz cs) : alen v = some n := by
  obtain ⟨_, _, ⟨rfl, rfl | rfl⟩ | ⟨b, o, c, rfl, _⟩⟩ := h <;> rfl
theorem SlC.mono {ok ok' : Nat → Prop} {H H' v n sz cs} (h : SlC ok H v n sz cs) (hn : H.n ≤ H'.n) (hk : ∀ b, ok b → b < H.n → H'.bk b = H.bk b) (ho : ∀ b, ok b → b < H.n → ok' b) : SlC ok' H' v n sz cs := by
  refine ⟨h.1, h.2.1, ?_⟩
  rcases h.2.2 with q | ⟨b, o, cap, h1, h2, h3, h4⟩
  · exact .inl q
  · exact .inr ⟨b, o, cap, h1, ⟨ho b h2.1 h3, h2.2⟩, Nat.lt_of_lt_of_le h3 hn, by unfold AH.loadN at h4 ⊢; rw [hk b h2.1 h3]; exact h4⟩
theorem SlC.elems {ok H v n sz cs} (h : SlC ok H v n sz cs) : AM.elems H sz v = some cs := by
  obtain ⟨h1, h2, ⟨rfl, rfl | rfl⟩ | ⟨b, o, c, rfl, _, _, h3⟩⟩ := h
  · have : cs = [] := List.eq_nil_of_length_eq_zero (by omega)
    subst this; rfl
  · have : cs = [] := List.eq_nil_of_length_eq_zero (by omega)
    subst this; rfl
  · exact h3
theorem seg_seg {cs c1 : List AV} {o n o1 n1 : Nat} (h : seg cs o n = some c1) (h1 : o1 + n1 ≤ n) : seg cs (o + o1) n1 = seg c1 o1 n1 := by
  unfold seg at h ⊢
  split at h
  · rename_i hl
    simp only [Option.some.injEq] at h
    subst h
    rw [if_pos (by omega), if_pos (by simp; omega), List.drop_take, List.drop_drop, List.take_take]
    congr 2; omega
  · cases h
theorem SlC.at {ok H v n sz cs} (h : SlC ok H v n sz cs) {i : Nat} (hi : i < n) : ∃ b o cap, v = .sl b o n cap ∧ ok b ∧ b < H.n ∧ ∀ j m, j + m ≤ n * sz → H.loadN b (o + j) m = seg cs j m := by
  obtain ⟨h1, h2, ⟨rfl, _⟩ | ⟨b, o, c, rfl, h3, h4, h5⟩⟩ := h
  · omega
  · refine ⟨b, o, c, rfl, h3.1, h4, fun j m hj => ?_⟩
    unfold AH.loadN at h5 ⊢
    obtain ⟨k, hk, hs⟩ := Option.bind_eq_some_iff.1 h5
    rw [hk]; exact seg_seg hs hj

theorem drop3 {a b c : AV} {l : List AV} {n : Nat} : (a :: b :: c :: l).drop (n + 3) = l.drop n := rfl
theorem drop8 {a b c d e f g h : AV} {l : List AV} {n : Nat} : (a :: b :: c :: d :: e :: f :: g :: h :: l).drop (n + 8) = l.drop n := rfl
def EF (ok : Nat → Prop) (H : AH) : Exs → List AV → Prop
  | .nil, cs => cs = []
  | .cons op n a r, cs => ∃ v ca cr, cs = .I op :: .I n :: v :: cr ∧ SlC ok H v a.list.length 3 ca ∧ EF ok H a ca ∧ EF ok H r cr
def EV (ok : Nat → Prop) (H : AH) (v : AV) (a : Exs) : Prop := ∃ ca, SlC ok H v a.list.length 3 ca ∧ EF ok H a ca
theorem EF.mono {ok ok' : Nat → Prop} {H H' : AH} (hn : H.n ≤ H'.n) (hk : ∀ b, ok b → b < H.n → H'.bk b = H.bk b) (ho : ∀ b, ok b → b < H.n → ok' b) : ∀ {f cs}, EF ok H f cs → EF ok' H' f cs
  | .nil, _, h => h
  | .cons _ _ _ _, _, ⟨v, ca, cr, h1, h2, h3, h4⟩ => ⟨v, ca, cr, h1, h2.mono hn hk ho, EF.mono hn hk ho h3, EF.mono hn hk ho h4⟩
theorem EV.mono {ok ok' : Nat → Prop} {H H' : AH} {v f} (h : EV ok H v f) (hn : H.n ≤ H'.n) (hk : ∀ b, ok b → b < H.n → H'.bk b = H.bk b) (ho : ∀ b, ok b → b < H.n → ok' b) : EV ok' H' v f := let ⟨ca, h1, h2⟩ := h; ⟨ca, h1.mono hn hk ho, h2.mono hn hk ho⟩
theorem EV.ext {ok H H' v f} (h : EV ok H v f) (k : Ext H H') : EV ok H' v f := h.mono k.1 (fun b _ hb => k.2 b hb) (fun _ h _ => h)
theorem EF.ext {ok H H' v f} (h : EF ok H v f) (k : Ext H H') : EF ok H' v f := h.mono k.1 (fun b _ hb => k.2 b hb) (fun _ h _ => h)
theorem EF.len {ok H} : ∀ {f cs}, EF ok H f cs → cs.length = f.list.length * 3
  | .nil, _, h => by cases h; rfl
  | .cons _ _ _ _, _, ⟨v, ca, cr, h1, h2, h3, h4⟩ => by subst h1; have := h4.len; simp; omega
theorem EF.get {ok H} : ∀ {f cs}, EF ok H f cs → ∀ {i e}, f.list[i]? = some e → ∃ v, seg cs (i * 3) 3 = some [.I e.op, .I e.n, v] ∧ EV ok H v e.args
  | .nil, _, _, i, e, hi => by simp at hi
  | .cons op n a r, _, ⟨v, ca, cr, h1, h2, h3, h4⟩, i, e, hi => by
    subst h1
    cases i with
    | zero =>
      simp at hi; subst hi
      exact ⟨v, by simp [seg], ca, h2, h3⟩
    | succ i =>
      obtain ⟨v', h5, h6⟩ := h4.get (i := i) (e := e) (by simpa using hi)
      refine ⟨v', ?_, h6⟩
      rw [← h5]
      unfold seg
      have : (i + 1) * 3 = i * 3 + 3 := by omega
      rw [this]
      rw [drop3]
      simp only [List.length_cons]
      by_cases hq : i * 3 + 3 ≤ cr.length
      · rw [if_pos (by omega), if_pos hq]
      · rw [if_neg (by omega), if_neg hq]
theorem EF.app {ok H} : ∀ {f cs} {g : Exs} {cg}, EF ok H f cs → EF ok H g cg → EF ok H (Exs.of (f.list ++ g.list)) (cs ++ cg)
  | .nil, _, g, cg, h, k => by cases h; simpa [Exs.of_list] using k
  | .cons _ _ _ _, _, g, cg, ⟨v, ca, cr, h1, h2, h3, h4⟩, k => by
    subst h1
    exact ⟨v, ca, cr ++ cg, by simp, h2, h3, EF.app h4 k⟩
theorem EF.one {ok H} {e : Ex} {v} (h : EV ok H v e.args) : EF ok H (.cons e.op e.n e.args .nil) [.I e.op, .I e.n, v] := let ⟨ca, h1, h2⟩ := h; ⟨v, ca, [], rfl, h1, h2, rfl⟩

def SF (ok : Nat → Prop) (H : AH) : Sts → List AV → Prop
  | .nil, cs => cs = []
  | .cons k v b e y z r, cs => ∃ va vy vz cy cz cr, cs = .I k :: .I v :: .I b :: .I e.op :: .I e.n :: va :: vy :: vz :: cr ∧ EV ok H va e.args ∧ SlC ok H vy y.list.length 8 cy ∧ SF ok H y cy ∧ SlC ok H vz z.list.length 8 cz ∧ SF ok H z cz ∧ SF ok H r cr
def SV (ok : Nat → Prop) (H : AH) (v : AV) (a : Sts) : Prop := ∃ ca, SlC ok H v a.list.length 8 ca ∧ SF ok H a ca
def S1 (ok : Nat → Prop) (H : AH) (c : List AV) (s : St1) : Prop := ∃ va vy vz, c = [.I s.k, .I s.v, .I s.b, .I s.e.op, .I s.e.n, va, vy, vz] ∧ EV ok H va s.e.args ∧ SV ok H vy s.body ∧ SV ok H vz s.els
theorem SF.mono {ok ok' : Nat → Prop} {H H' : AH} (hn : H.n ≤ H'.n) (hk : ∀ b, ok b → b < H.n → H'.bk b = H.bk b) (ho : ∀ b, ok b → b < H.n → ok' b) : ∀ {f cs}, SF ok H f cs → SF ok' H' f cs
  | .nil, _, h => h
  | .cons _ _ _ _ _ _ _, _, ⟨va, vy, vz, cy, cz, cr, h1, h2, h3, h4, h5, h6, h7⟩ => ⟨va, vy, vz, cy, cz, cr, h1, h2.mono hn hk ho, h3.mono hn hk ho, SF.mono hn hk ho h4, h5.mono hn hk ho, SF.mono hn hk ho h6, SF.mono hn hk ho h7⟩
theorem SV.mono {ok ok' : Nat → Prop} {H H' : AH} {v f} (h : SV ok H v f) (hn : H.n ≤ H'.n) (hk : ∀ b, ok b → b < H.n → H'.bk b = H.bk b) (ho : ∀ b, ok b → b < H.n → ok' b) : SV ok' H' v f := let ⟨ca, h1, h2⟩ := h; ⟨ca, h1.mono hn hk ho, h2.mono hn hk ho⟩
theorem S1.mono {ok ok' : Nat → Prop} {H H' : AH} {v f} (h : S1 ok H v f) (hn : H.n ≤ H'.n) (hk : ∀ b, ok b → b < H.n → H'.bk b = H.bk b) (ho : ∀ b, ok b → b < H.n → ok' b) : S1 ok' H' v f :=
  let ⟨va, vy, vz, h0, h1, h2, h3⟩ := h; ⟨va, vy, vz, h0, h1.mono hn hk ho, h2.mono hn hk ho, h3.mono hn hk ho⟩
theorem SV.ext {ok H H' v f} (h : SV ok H v f) (k : Ext H H') : SV ok H' v f := h.mono k.1 (fun b _ hb => k.2 b hb) (fun _ h _ => h)
theorem S1.ext {ok H H' v f} (h : S1 ok H v f) (k : Ext H H') : S1 ok H' v f := h.mono k.1 (fun b _ hb => k.2 b hb) (fun _ h _ => h)
theorem SF.ext {ok H H' v f} (h : SF ok H v f) (k : Ext H H') : SF ok H' v f := h.mono k.1 (fun b _ hb => k.2 b hb) (fun _ h _ => h)
theorem SF.len {ok H} : ∀ {f cs}, SF ok H f cs → cs.length = f.list.length * 8
  | .nil, _, h => by cases h; rfl
  | .cons _ _ _ _ _ _ _, _, ⟨va, vy, vz, cy, cz, cr, h1, h2, h3, h4, h5, h6, h7⟩ => by subst h1; have := h7.len; simp; omega
theorem SF.get {ok H} : ∀ {f cs}, SF ok H f cs → ∀ {i s}, f.list[i]? = some s → ∃ c, seg cs (i * 8) 8 = some c ∧ S1 ok H c s
  | .nil, _, _, i, e, hi => by simp at hi
  | .cons k v b e y z r, _, ⟨va, vy, vz, cy, cz, cr, h1, h2, h3, h4, h5, h6, h7⟩, i, s, hi => by
    subst h1
    cases i with
    | zero =>
      simp at hi; subst hi
      exact ⟨[.I k, .I v, .I b, .I e.op, .I e.n, va, vy, vz], by simp [seg], va, vy, vz, rfl, h2, ⟨cy, h3, h4⟩, cz, h5, h6⟩
    | succ i =>
      obtain ⟨v', h5, h6⟩ := h7.get (i := i) (s := s) (by simpa using hi)
      refine ⟨v', ?_, h6⟩
      rw [← h5]
      unfold seg
      have : (i + 1) * 8 = i * 8 + 8 := by omega
      rw [this]
      rw [drop8]
      simp only [List.length_cons]
      by_cases hq : i * 8 + 8 ≤ cr.length
      · rw [if_pos (by omega), if_pos hq]
      · rw [if_neg (by omega), if_neg hq]
theorem SF.app {ok H} : ∀ {f cs} {g : Sts} {cg}, SF ok H f cs → SF ok H g cg → SF ok H (Sts.of (f.list ++ g.list)) (cs ++ cg)
  | .nil, _, g, cg, h, k => by cases h; simpa [Sts.of_list] using k
  | .cons _ _ _ _ _ _ _, _, g, cg, ⟨va, vy, vz, cy, cz, cr, h1, h2, h3, h4, h5, h6, h7⟩, k => by
    subst h1
    exact ⟨va, vy, vz, cy, cz, cr ++ cg, by simp, h2, h3, h4, h5, h6, SF.app h7 k⟩
theorem S1.one {ok H c s} (h : S1 ok H c s) : SF ok H (Sts.of [s]) c := by
  obtain ⟨va, vy, vz, h0, h1, ⟨cy, h2, h2'⟩, cz, h3, h3'⟩ := h
  exact ⟨va, vy, vz, cy, cz, [], h0, h1, h2, h2', h3, h3', rfl⟩
theorem S1.len {ok H c s} (h : S1 ok H c s) : c.length = 8 := by
  obtain ⟨va, vy, vz, rfl, _⟩ := h; rfl
theorem SV.at {ok H v f} (h : SV ok H v f) {i : Nat} {s : St1} (hi : f.list[i]? = some s) : ∃ b o cap c, v = .sl b o f.list.length cap ∧ ok b ∧ b < H.n ∧ H.loadN b (o + i * 8) 8 = some c ∧ S1 ok H c s := by
  obtain ⟨ca, h1, h2⟩ := h
  have hl := (List.getElem?_eq_some_iff.1 hi).1
  obtain ⟨b, o, cap, e1, e2, e3, e4⟩ := h1.at hl
  obtain ⟨c, e5, e6⟩ := h2.get hi
  exact ⟨b, o, cap, c, e1, e2, e3, by rw [e4 _ _ (by omega)]; exact e5, e6⟩
theorem EV.at {ok H v f} (h : EV ok H v f) {i : Nat} {e : Ex} (hi : f.list[i]? = some e) : ∃ b o cap va, v = .sl b o f.list.length cap ∧ ok b ∧ b < H.n ∧ H.loadN b (o + i * 3) 3 = some [.I e.op, .I e.n, va] ∧ EV ok H va e.args := by
  obtain ⟨ca, h1, h2⟩ := h
  have hl := (List.getElem?_eq_some_iff.1 hi).1
  obtain ⟨b, o, cap, e1, e2, e3, e4⟩ := h1.at hl
  obtain ⟨c, e5, e6⟩ := h2.get hi
  exact ⟨b, o, cap, c, e1, e2, e3, by rw [e4 _ _ (by omega)]; exact e5, e6⟩
theorem EV.flat {ok H v f} (h : EV ok H v f) : v.flat = true := let ⟨_, h1, _⟩ := h; h1.flat
theorem SV.flat {ok H v f} (h : SV ok H v f) : v.flat = true := let ⟨_, h1, _⟩ := h; h1.flat
theorem EV.alen {ok H v f} (h : EV ok H v f) : alen v = some f.list.length := let ⟨_, h1, _⟩ := h; h1.alen
theorem SV.alen {ok H v f} (h : SV ok H v f) : alen v = some f.list.length := let ⟨_, h1, _⟩ := h; h1.alen
theorem EV.big {ok H v f} (h : EV ok H v f) : f.list.length ≤ 8589934592 := let ⟨_, h1, _⟩ := h; h1.1
theorem SV.big {ok H v f} (h : SV ok H v f) : f.list.length ≤ 8589934592 := let ⟨_, h1, _⟩ := h; h1.1
theorem EV.nil {ok H v} (h : v = .nils ∨ v = .esl) : EV ok H v .nil := ⟨[], ⟨by simp, rfl, .inl ⟨rfl, h⟩⟩, rfl⟩
theorem SV.nil {ok H v} (h : v = .nils ∨ v = .esl) : SV ok H v .nil := ⟨[], ⟨by simp, rfl, .inl ⟨rfl, h⟩⟩, rfl⟩

def okE1 (d op n : Int) (k : Nat) (sub : Bool) : Bool :=
  if op = 0 then decide (0 ≤ n ∧ n ≤ 99999 ∧ k = 0 ∧ 0 < d) else if op = 13 then decide (0 ≤ n ∧ n < 4 ∧ k = 0 ∧ 0 < d)
  else decide (1 ≤ op ∧ op ≤ 12 ∧ n = 0 ∧ k = 2 ∧ 1 < d) && sub
def okF : Int → Exs → Bool
  | _, .nil => true
  | d, .cons op n a r => okE1 d op n a.list.length (okF (d - 1) a) && okF d r
def okE (d : Int) (e : Ex) : Bool := okE1 d e.op e.n e.args.list.length (okF (d - 1) e.args)
theorem okF_mem {d : Int} : ∀ {f : Exs}, okF d f = f.list.all (okE d)
  | .nil => rfl
  | .cons op n a r => by simp only [okF, Exs.list, List.all_cons, okF_mem (f := r)]; rfl
def evE1 (vars : List Int) (op n : Int) (xs : List Int) : Int :=
  if op = 0 then n else if op = 13 then vars.getD n.toNat 0 else applyM op (xs.getD 0 0) (xs.getD 1 0)
def evF (vars : List Int) : Exs → List Int
  | .nil => []
  | .cons op n a r => evE1 vars op n (evF vars a) :: evF vars r
def evE (vars : List Int) (e : Ex) : Int := evE1 vars e.op e.n (evF vars e.args)
theorem evF_map {vars : List Int} : ∀ {f : Exs}, evF vars f = f.list.map (evE vars)
  | .nil => rfl
  | .cons op n a r => by simp only [evF, Exs.list, List.map_cons, evF_map (f := r)]; rfl
def cpE1 (n : Int) (k : Nat) (sub : Bool) : Bool := decide (k = 0) || (decide (k = 2 ∧ n = 0) && sub)
def cpF : Exs → Bool
  | .nil => true
  | .cons _ n a r => cpE1 n a.list.length (cpF a) && cpF r
def cpE (e : Ex) : Bool := cpE1 e.n e.args.list.length (cpF e.args)
theorem cp_of_ok : ∀ {f : Exs} {d : Int}, okF d f = true → cpF f = true
  | .nil, _, _ => rfl
  | .cons op n a r, d, h => by
    simp only [okF, Bool.and_eq_true] at h
    simp only [cpF, Bool.and_eq_true]
    refine ⟨?_, cp_of_ok h.2⟩
    have h1 := h.1
    unfold okE1 at h1; unfold cpE1
    split at h1
    · simp at h1; simp [h1]
    · split at h1
      · simp at h1; simp [h1]
      · simp at h1; simp [h1, cp_of_ok h1.2]
theorem cpE_of_ok {e : Ex} {d : Int} (h : okE d e = true) : cpE e = true := by
  have := cp_of_ok (f := .cons e.op e.n e.args .nil) (d := d) (by simp [okF]; exact h)
  simp only [cpF, Bool.and_true] at this
  exact this
end Go.Proofs.YtcibjklpaljadaaGreat.AM
namespace Go.Proofs.YtcibjklpaljadaaGreat.AM
set_option linter.unusedSimpArgs false
set_option linter.unusedVariables false
open Go

theorem two_of {α : Type} {l : List α} (h : l.length = 2) : ∃ a b, l = [a, b] := by
  match l, h with
  | [a, b], _ => exact ⟨a, b, rfl⟩
theorem loadN_extE {H H' : AH} {b o n : Nat} {cs : List AV} (h : H.loadN b o n = some cs) (k : Ext H H') (hb : b < H.n) : H'.loadN b o n = some cs := by
  unfold AH.loadN at h ⊢; rw [k.2 b hb]; exact h
theorem loadN_get {H : AH} {b o n : Nat} {cs : List AV} (h : H.loadN b o n = some cs) {i : Nat} (hi : i < n) : H.load b (o + i) = cs[i]? := by
  unfold AH.loadN at h; unfold AH.load
  obtain ⟨k, hk, hs⟩ := Option.bind_eq_some_iff.1 h
  rw [hk]
  unfold seg at hs
  split at hs
  · simp only [Option.some.injEq] at hs
    subst hs
    simp [List.getElem?_take, hi]
  · cases hs
section
variable {H : AH} {K : AV → AH → Prop} {w : Fk K} {n : Int}
theorem K_iOpValid : CallF Cd f_iOpValid [.I n] H K w = K (.b (decide (1 ≤ n ∧ n ≤ 12))) H := by
  rw [CallF_eq e_iOpValid rfl]
  by_cases h : 1 ≤ n <;> simp [h]
theorem K_sOpValid : CallF Cd f_sOpValid [.I n] H K w = K (.b (decide (1 ≤ n ∧ n ≤ 12))) H := by
  apply propext
  rw [CallF_eq e_sOpValid rfl]
  simp [K_sl6In]
end
section
variable {H : AH} {K : AV → AH → Prop} {w : Fk K} {e : Ex} {v : AV} {ok : Nat → Prop}
end
theorem isW_iff {n : Int} : isW n = true ↔ -2147483648 ≤ n ∧ n ≤ 2147483647 := by unfold isW; simp
theorem okE1_op {d op n : Int} {k : Nat} {sub : Bool} (h : okE1 d op n k sub = true) (h0 : ¬ op = 0) (h1 : ¬ op = 13) : (1 ≤ op ∧ op ≤ 12) ∧ n = 0 ∧ k = 2 ∧ sub = true := by
  unfold okE1 at h
  rw [if_neg h0, if_neg h1] at h
  simp at h
  exact ⟨⟨h.1.1, h.1.2.1⟩, h.1.2.2.1, h.1.2.2.2.1, h.2⟩
theorem evE_word {vars : List Int} (hv : vars.all isW = true) (a : Exs) : ∀ {d op n : Int}, okE1 d op n a.list.length (okF (d - 1) a) = true → isW (evE1 vars op n (evF vars a)) = true := by
  induction a using Exs.ind with
  | h a ih =>
  intro d op n h
  by_cases h0 : op = 0
  · unfold okE1 at h
    unfold evE1
    rw [if_pos h0] at h ⊢
    simp at h
    rw [isW_iff]; omega
  by_cases h1 : op = 13
  · unfold evE1
    rw [if_neg h0, if_pos h1]
    rw [List.getD_eq_getElem?_getD]
    cases hx : vars[n.toNat]? with
    | none => rfl
    | some x => exact List.all_eq_true.1 hv x (List.mem_of_getElem? hx)
  obtain ⟨c0, c1, c2, c3⟩ := okE1_op h h0 h1
  obtain ⟨x, y, hxy⟩ := two_of c2
  rw [okF_mem, hxy] at c3
  simp at c3
  have wx := ih x (by rw [hxy]; simp) (d := d - 1) (op := x.op) (n := x.n) c3.1
  have wy := ih y (by rw [hxy]; simp) (d := d - 1) (op := y.op) (n := y.n) c3.2
  unfold evE1
  rw [if_neg h0, if_neg h1, evF_map, hxy]
  exact isW_iff.2 (apply_W (isW_iff.1 wx) (isW_iff.1 wy))
end Go.Proofs.YtcibjklpaljadaaGreat.AM
namespace Go.Proofs.YtcibjklpaljadaaGreat.AM
set_option linter.unusedSimpArgs false
set_option linter.unusedVariables false
open Go

def GrS (base : Nat) (G : AH) (v : AV) (n sz : Nat) (cs : List AV) (B : Nat) : Prop :=
  n ≤ 100000000 ∧ cs.length = n * sz ∧ ((v = .nils ∧ n = 0) ∨ (base ≤ B ∧ B < G.n ∧ ((v = .sl B 0 n (.ex n) ∧ G.bk B = some ⟨cs, true⟩) ∨
    ∃ c ex, v = .sl B 0 n (.lb c sz) ∧ n ≤ c ∧ ex.length = (c - n) * sz ∧ G.bk B = some ⟨cs ++ ex, true⟩)))
theorem GrS.flat {base G v n sz cs B} (h : GrS base G v n sz cs B) : v.flat = true := by
  obtain ⟨_, _, ⟨rfl, _⟩ | ⟨_, _, ⟨rfl, _⟩ | ⟨c, ex, rfl, _⟩⟩⟩ := h <;> rfl
theorem GrS.alen {base G v n sz cs B} (h : GrS base G v n sz cs B) : alen v = some n := by
  obtain ⟨_, _, ⟨rfl, rfl⟩ | ⟨_, _, ⟨rfl, _⟩ | ⟨c, ex, rfl, _⟩⟩⟩ := h <;> rfl
theorem GrS.nils {base G sz B} : GrS base G .nils 0 sz [] B := ⟨by omega, by simp, .inl ⟨rfl, rfl⟩⟩
theorem GrS.new {base : Nat} {G : AH} {n sz cs} (hb : base ≤ G.n) (hn : n ≤ 100000000) (hc : cs.length = n * sz) : GrS base (G.push cs) (.sl G.n 0 n (.ex n)) n sz cs G.n :=
  ⟨hn, hc, .inr ⟨hb, Nat.lt_succ_self _, .inl ⟨rfl, push_new⟩⟩⟩
theorem seg_app {cs ex : List AV} {n : Nat} (h : cs.length = n) : seg (cs ++ ex) 0 n = some cs := by
  unfold seg; rw [if_pos (by simp; omega)]; simp [← h]
theorem seg_self {cs : List AV} {n : Nat} (h : cs.length = n) : seg cs 0 n = some cs := by simpa using seg_app (ex := []) h
theorem GrS.slc {base G v n sz cs B} (h : GrS base G v n sz cs B) : SlC (fun b => base ≤ b) G v n sz cs := by
  obtain ⟨h1, h2, h3⟩ := h
  refine ⟨by omega, h2, ?_⟩
  rcases h3 with ⟨rfl, h4⟩ | ⟨h4, h5, ⟨rfl, h6⟩ | ⟨c, ex, rfl, h7, h8, h9⟩⟩
  · exact .inl ⟨h4, .inl rfl⟩
  · exact .inr ⟨B, 0, _, rfl, ⟨h4, Nat.le_refl _⟩, h5, by rw [loadN_bk h6]; exact seg_self h2⟩
  · exact .inr ⟨B, 0, _, rfl, ⟨h4, h7, rfl⟩, h5, by rw [loadN_bk h9]; exact seg_app h2⟩
theorem GrS.elems {base G v n sz cs B} (h : GrS base G v n sz cs B) : AM.elems G sz v = some cs := h.slc.elems
theorem GrS.only {base G G' v n sz cs B bs} (h : GrS base G v n sz cs B) (k : Only bs G G') (hb : ∀ b ∈ bs, b < base ∨ b ≠ B) : GrS base G' v n sz cs B := by
  obtain ⟨h1, h2, h3⟩ := h
  refine ⟨h1, h2, ?_⟩
  rcases h3 with h4 | ⟨h4, h5, h6⟩
  · exact .inl h4
  · have e : G'.bk B = G.bk B := k.2 B h5 (fun hm => by
      rcases hb B hm with q | q
      · omega
      · exact q rfl)
    rw [← e] at h6
    exact .inr ⟨h4, Nat.lt_of_lt_of_le h5 k.1, h6⟩
theorem GrS.ext {base G G' v n sz cs B} (h : GrS base G v n sz cs B) (k : Ext G G') : GrS base G' v n sz cs B := h.only (bs := []) ⟨k.1, fun b hb _ => k.2 b hb⟩ (by simp)
def grB : AV → Nat → List Nat
  | .nils, _ => []
  | _, B => [B]
theorem GrS.mem {base G v n sz cs B} (h : GrS base G v n sz cs B) {b : Nat} (hb : b ∈ grB v B) : b = B ∧ base ≤ B ∧ B < G.n := by
  obtain ⟨_, _, ⟨rfl, _⟩ | ⟨h1, h2, ⟨rfl, _⟩ | ⟨c, ex, rfl, _⟩⟩⟩ := h <;> simp [grB] at hb
  · exact ⟨hb, h1, h2⟩
  · exact ⟨hb, h1, h2⟩
theorem GrS.app {base G v n sz cs B} (h : GrS base G v n sz cs B) (hb : base ≤ G.n) {k : Nat} {new : List AV} (hk : new.length = k * sz) (hn : n + k ≤ 100000000) :
    ∃ v' G' B', aapp G sz v k new = some (v', G') ∧ GrS base G' v' (n + k) sz (cs ++ new) B' ∧ ((B' = B ∧ B ∈ grB v B) ∨ B' = G.n) ∧ Only (grB v B) G G' := by
  by_cases h0 : k = 0
  · subst h0
    have : new = [] := List.eq_nil_of_length_eq_zero (by omega)
    subst this
    have ha : aapp G sz v 0 [] = some (v, G) := by
      obtain ⟨_, _, ⟨rfl, _⟩ | ⟨_, _, ⟨rfl, _⟩ | ⟨c, ex, rfl, _⟩⟩⟩ := h <;> simp [aapp]
    have h' := h
    obtain ⟨q1, q2, ⟨rfl, rfl⟩ | ⟨q3, q4, q5⟩⟩ := h'
    · exact ⟨.nils, G, G.n, ha, ⟨by omega, by simpa using q2, .inl ⟨rfl, rfl⟩⟩, .inr rfl, Only.refl⟩
    · exact ⟨v, G, B, ha, by simpa using h, .inl ⟨rfl, by rcases q5 with q5 | ⟨c, ex, q5⟩ <;> (rw [q5.1]; simp [grB])⟩, Only.refl⟩
  obtain ⟨h1, h2, h3⟩ := h
  have e0 : (cs ++ new).length = (n + k) * sz := by simp [h2, hk, Nat.add_mul]
  have fresh : ∀ (G' : AH) v', G' = (G.put B none).push (cs ++ new) ∨ G' = G.push (cs ++ new) → v' = .sl G.n 0 (n + k) (.lb (n + k) sz) → GrS base G' v' (n + k) sz (cs ++ new) G.n ∧ Only [B] G G' ∧ (G' = G.push (cs ++ new) → Ext G G') := by
    rintro G' v' hG rfl
    refine ⟨⟨by omega, e0, .inr ⟨hb, ?_, .inr ⟨n + k, [], rfl, by omega, by simp, ?_⟩⟩⟩, ?_⟩
    · rcases hG with rfl | rfl <;> exact Nat.lt_succ_self _
    · rcases hG with rfl | rfl
      · rw [List.append_nil]; exact push_new (H := G.put B none)
      · rw [List.append_nil]; exact push_new
    · refine ⟨?_, fun h => h ▸ Ext.push _ _⟩
      rcases hG with rfl | rfl
      · exact (Only.refl.put (by simp)).push
      · exact Only.refl.push
  rcases h3 with ⟨rfl, rfl⟩ | ⟨h4, h5, ⟨rfl, h6⟩ | ⟨c, ex, rfl, h7, h8, h9⟩⟩
  · have : cs = [] := List.eq_nil_of_length_eq_zero (by omega)
    subst this
    obtain ⟨f1, f2, f3⟩ := fresh (G.push new) _ (.inr (by simp)) rfl
    refine ⟨_, _, G.n, ?_, f1, .inr rfl, ⟨f2.1, fun b hb _ => (f3 (by simp)).2 b hb⟩⟩
    unfold aapp
    simp only [if_neg h0, Nat.zero_add]
    rw [if_pos (show k ≤ big by unfold big; omega)]
  · obtain ⟨f1, f2, _⟩ := fresh _ _ (.inr rfl) rfl
    refine ⟨_, _, G.n, ?_, f1, .inr rfl, f2⟩
    unfold aapp
    simp only [if_neg h0, Nat.zero_add]
    rw [if_neg (show ¬ big < n + k by unfold big; omega), if_neg (show ¬ n + k ≤ n by omega)]
    have e1 : G.loadN B 0 (n * sz) = some cs := by rw [loadN_bk h6]; exact seg_self h2
    rw [e1]
  · by_cases hc : n + k ≤ c
    · have e2 : splice (cs ++ ex) (n * sz) new = (cs ++ new) ++ ex.drop (k * sz) := by
        unfold splice
        rw [← h2, List.take_left, List.drop_append]
        rw [List.drop_of_length_le (by omega), List.nil_append]
        congr 2; omega
      have e3 := store_bk (o := n * sz) (vs := new) h9 (by
        simp only [List.length_append, h2, h8, hk]
        have := Nat.mul_le_mul_right sz (show k ≤ c - n by omega)
        omega)
      rw [e2] at e3
      refine ⟨.sl B 0 (n + k) (.lb c sz), _, B, ?_, ⟨by omega, e0, .inr ⟨h4, ?_, .inr ⟨c, ex.drop (k * sz), rfl, hc, ?_, put_same⟩⟩⟩, .inl ⟨rfl, by simp [grB]⟩, Only.refl.put (by simp [grB])⟩
      · unfold aapp
        simp only [if_neg h0, Nat.zero_add]
        rw [if_neg (show ¬ big < n + k by unfold big; omega), if_neg (show ¬ (sz ≠ sz) by simp), if_pos hc, e3]; rfl
      · exact h5
      · rw [List.length_drop, h8, ← Nat.sub_mul]; congr 1; omega
    · obtain ⟨f1, f2, _⟩ := fresh _ _ (.inl rfl) rfl
      refine ⟨_, _, G.n, ?_, f1, .inr rfl, f2⟩
      unfold aapp
      simp only [if_neg h0, Nat.zero_add]
      have e1 : G.loadN B 0 (n * sz) = some cs := by rw [loadN_bk h9]; exact seg_app h2
      rw [if_neg (show ¬ big < n + k by unfold big; omega), if_neg (show ¬ (sz ≠ sz) by simp), if_neg hc, h9, e1]; simp

def DE (base : Nat) (H : AH) (v : AV) (a : Exs) : Prop := ∃ B cs, v = .sl B 0 a.list.length (.ex a.list.length) ∧ base ≤ B ∧ B < H.n ∧ H.bk B = some ⟨cs, true⟩ ∧ a.list.length ≤ 1000 ∧ EF (fun b => base ≤ b) H a cs
theorem DE.ev {base H v a} (h : DE base H v a) : EV (fun b => base ≤ b) H v a := by
  obtain ⟨B, cs, rfl, h1, h2, h3, h4, h5⟩ := h
  exact ⟨cs, ⟨by omega, h5.len, .inr ⟨B, 0, _, rfl, ⟨h1, Nat.le_refl _⟩, h2, by rw [loadN_bk h3]; exact seg_self h5.len⟩⟩, h5⟩
theorem DE.mono {base base' H H' v a} (h : DE base H v a) (hn : H.n ≤ H'.n) (hk : ∀ b, base ≤ b → b < H.n → H'.bk b = H.bk b) (hb : base' ≤ base) : DE base' H' v a := by
  obtain ⟨B, cs, rfl, h1, h2, h3, h4, h5⟩ := h
  exact ⟨B, cs, rfl, by omega, by omega, (hk B h1 h2).trans h3, h4, h5.mono hn hk (fun b hb' _ => by omega)⟩
theorem DE.ext {base H H' v a} (h : DE base H v a) (k : Ext H H') : DE base H' v a := h.mono k.1 (fun b _ hb => k.2 b hb) (Nat.le_refl _)
theorem EV.up {base base' H v a} (h : EV (fun b => base ≤ b) H v a) (hb : base' ≤ base) : EV (fun b => base' ≤ b) H v a := h.mono (Nat.le_refl _) (fun _ _ _ => rfl) (fun b h _ => by omega)
section
variable {H : AH} {K : AV → AH → Prop} {w : Fk K} {op n : Int}
end
end Go.Proofs.YtcibjklpaljadaaGreat.AM
namespace Go.Proofs.YtcibjklpaljadaaGreat.AM
set_option linter.unusedSimpArgs false
set_option linter.unusedVariables false
open Go

theorem take_snoc {α : Type} {l : List α} {i : Nat} {x : α} (h : l[i]? = some x) : l.take (i + 1) = l.take i ++ [x] := by
  obtain ⟨hi, hx⟩ := List.getElem?_eq_some_iff.1 h
  rw [List.take_succ_eq_append_getElem hi, hx]
end Go.Proofs.YtcibjklpaljadaaGreat.AM
namespace Go.Proofs.YtcibjklpaljadaaGreat.AM
set_option linter.unusedSimpArgs false
set_option linter.unusedVariables false
open Go

def stV (boxes k v b : Int) (eok epl : Bool) (ny nz : Nat) : Bool :=
  if k = 1 then decide (0 ≤ v ∧ v < 4 ∧ b = 0 ∧ ny = 0 ∧ nz = 0) && eok
  else if k = 2 then decide (v = 0 ∧ b = 0) && eok
  else if k = 3 then decide (v = 0 ∧ b = 0 ∧ nz = 0) && eok
  else if k = 4 then decide (v = 0 ∧ 0 ≤ b ∧ b < boxes ∧ ny = 0 ∧ nz = 0) && eok
  else if k = 5 then decide (0 ≤ v ∧ v < 4 ∧ 0 ≤ b ∧ b < boxes ∧ ny = 0 ∧ nz = 0) && epl
  else if k = 6 then decide (v = 0 ∧ b = 0 ∧ ny = 0 ∧ nz = 0) && epl
  else if k = 7 then decide (v = 0 ∧ b = 0 ∧ ny = 0 ∧ nz = 0) && eok
  else false
def plE (e : Ex) : Bool := decide (e.op = 0 ∧ e.n = 0 ∧ e.args.list.length = 0)
def okS1 (boxes nest k v b : Int) (e : Ex) (ny nz : Nat) (sy sz : Bool) : Bool :=
  stV boxes k v b (okE 5 e) (plE e) ny nz && (decide (k ≠ 2 ∧ k ≠ 3) || (decide (1 ≤ nest) && sy && sz))
def okS (boxes : Int) : Int → Sts → Bool
  | _, .nil => true
  | nest, .cons k v b e y z r => okS1 boxes nest k v b e y.list.length z.list.length (okS boxes (nest - 1) y) (okS boxes (nest - 1) z) && okS boxes nest r
def okT (boxes nest : Int) (s : St1) : Bool := okS1 boxes nest s.k s.v s.b s.e s.body.list.length s.els.list.length (okS boxes (nest - 1) s.body) (okS boxes (nest - 1) s.els)
theorem okS_mem {boxes nest : Int} : ∀ {f : Sts}, okS boxes nest f = f.list.all (okT boxes nest)
  | .nil => rfl
  | .cons k v b e y z r => by simp only [okS, Sts.list, List.all_cons, okS_mem (f := r)]; rfl
def ctS : Sts → Nat
  | .nil => 0
  | .cons k v b e y z r => 1 + ctS y + ctS z + ctS r
def ctT (s : St1) : Nat := 1 + ctS s.body + ctS s.els
theorem ctS_sum : ∀ {f : Sts}, ctS f = (f.list.map ctT).sum
  | .nil => rfl
  | .cons k v b e y z r => by simp only [ctS, Sts.list, List.map_cons, List.sum_cons, ctS_sum (f := r)]; rfl
theorem ctS_of {l : List St1} : ctS (Sts.of l) = (l.map ctT).sum := by rw [ctS_sum, Sts.list_of]
theorem len_ctS : ∀ {f : Sts}, f.list.length ≤ ctS f
  | .nil => by simp
  | .cons k v b e y z r => by have := len_ctS (f := r); simp [ctS]; omega
theorem sum_mem {l : List St1} {s : St1} (h : s ∈ l) : ctT s ≤ (l.map ctT).sum := by
  induction l with
  | nil => simp at h
  | cons a l ih =>
    rcases List.mem_cons.1 h with rfl | h
    · simp
    · have := ih h; simp; omega
theorem ctS_mem {f : Sts} {s : St1} (h : s ∈ f.list) : 1 + ctS s.body + ctS s.els ≤ ctS f := by
  have := sum_mem h; rw [← ctS_sum] at this; exact this
section
variable {H : AH} {K : AV → AH → Prop} {w : Fk K} {k v b op n : Int} {va vy vz : AV} {u : Bool}
end
section
variable {ok : Nat → Prop} {H : AH} {K : AV → AH → Prop} {w : Fk K} {v : AV} {f : Sts}
def vaS (boxes : Int) (f : Sts) : Bool := okS boxes 3 f && decide (ctS f ≤ 16)
end
end Go.Proofs.YtcibjklpaljadaaGreat.AM
namespace Go.Proofs.YtcibjklpaljadaaGreat.AM
set_option linter.unusedSimpArgs false
set_option linter.unusedVariables false
set_option maxRecDepth 100000
set_option maxHeartbeats 2000000
open Go
section
variable {H : AH} {K : AV → AH → Prop} {w : Fk K} {n lim : Int} {u : Bool}
end
end Go.Proofs.YtcibjklpaljadaaGreat.AM
namespace Go.Proofs.YtcibjklpaljadaaGreat.AM
set_option linter.unusedSimpArgs false
set_option linter.unusedVariables false
open Go
theorem SV.only {bs : List Nat} {H H' : AH} {v f} {ok : Nat → Prop} (h : SV ok H v f) (k : Only bs H H') (hb : ∀ b, ok b → b ∉ bs) : SV ok H' v f := h.mono k.1 (fun b h1 h2 => k.2 b h2 (hb b h1)) (fun _ h _ => h)
theorem stV_leaf {boxes k v b : Int} {x p : Bool} {ny nz : Nat} (h : stV boxes k v b x p ny nz = true) (h2 : k ≠ 2) (h3 : k ≠ 3) : ny = 0 ∧ nz = 0 := by
  unfold stV at h
  by_cases k1 : k = 1
  · simp [k1] at h; omega
  by_cases k4 : k = 4
  · simp [k4] at h; omega
  by_cases k5 : k = 5
  · simp [k5] at h; omega
  by_cases k6 : k = 6
  · simp [k6] at h; omega
  by_cases k7 : k = 7
  · simp [k7] at h; omega
  simp [h2, h3, k1, k4, k5, k6, k7] at h
section
variable {ok : Nat → Prop} {H : AH} {K : AV → AH → Prop} {w : Fk K} {v : AV} {f : Sts} {boxes : Int}
end
end Go.Proofs.YtcibjklpaljadaaGreat.AM
namespace Go.Proofs.YtcibjklpaljadaaGreat.AM
set_option linter.unusedSimpArgs false
set_option linter.unusedVariables false
open Go
def LF {α : Type} (sz : Nat) (E : List AV → α → Prop) : List α → List AV → Prop
  | [], cs => cs = []
  | a :: l, cs => ∃ c cr, cs = c ++ cr ∧ c.length = sz ∧ E c a ∧ LF sz E l cr
theorem LF.len {α sz} {E : List AV → α → Prop} : ∀ {l cs}, LF sz E l cs → cs.length = l.length * sz
  | [], _, h => by cases h; simp
  | a :: l, _, ⟨c, cr, h1, h2, h3, h4⟩ => by subst h1; have := h4.len; simp [h2, this, Nat.add_mul]; omega
theorem LF.imp {α sz} {E F : List AV → α → Prop} (h : ∀ c a, E c a → F c a) : ∀ {l cs}, LF sz E l cs → LF sz F l cs
  | [], _, h => h
  | a :: l, _, ⟨c, cr, h1, h2, h3, h4⟩ => ⟨c, cr, h1, h2, h _ _ h3, LF.imp h h4⟩
theorem LF.drop {α sz} {E : List AV → α → Prop} : ∀ {l cs}, LF sz E l cs → ∀ i, LF sz E (l.drop i) (cs.drop (i * sz))
  | [], _, h, i => by cases h; simp [LF]
  | a :: l, _, h, 0 => by simpa using h
  | a :: l, _, ⟨c, cr, h1, h2, h3, h4⟩, i + 1 => by
    subst h1
    have := h4.drop i
    rw [show (i + 1) * sz = c.length + i * sz by rw [h2, Nat.add_mul]; omega, ← List.drop_drop (i := i * sz) (j := c.length), List.drop_left, List.drop_succ_cons]
    exact this
theorem LF.take {α sz} {E : List AV → α → Prop} : ∀ {l cs}, LF sz E l cs → ∀ i, LF sz E (l.take i) (cs.take (i * sz))
  | [], _, h, i => by cases h; simp [LF]
  | a :: l, _, h, 0 => by simp [LF]
  | a :: l, _, ⟨c, cr, h1, h2, h3, h4⟩, i + 1 => by
    subst h1
    have := h4.take i
    rw [show (i + 1) * sz = c.length + i * sz by rw [h2, Nat.add_mul]; omega, List.take_length_add_append]
    exact ⟨c, _, rfl, h2, h3, this⟩
theorem LF.app {α sz} {E : List AV → α → Prop} : ∀ {l cs} {l' : List α} {cs'}, LF sz E l cs → LF sz E l' cs' → LF sz E (l ++ l') (cs ++ cs')
  | [], _, l', cs', h, k => by cases h; simpa using k
  | a :: l, _, l', cs', ⟨c, cr, h1, h2, h3, h4⟩, k => ⟨c, cr ++ cs', by simp [h1], h2, h3, h4.app k⟩
theorem LF.one {α sz} {E : List AV → α → Prop} {c : List AV} {a : α} (h : E c a) (hc : c.length = sz) : LF sz E [a] c := ⟨c, [], by simp, hc, h, rfl⟩
theorem LF.get {α sz} {E : List AV → α → Prop} : ∀ {l cs}, LF sz E l cs → ∀ {i a}, l[i]? = some a → ∃ c, seg cs (i * sz) sz = some c ∧ E c a
  | [], _, _, i, a, hi => by simp at hi
  | x :: l, _, ⟨c, cr, h1, h2, h3, h4⟩, i, a, hi => by
    subst h1
    cases i with
    | zero =>
      simp at hi; subst hi
      exact ⟨c, by unfold seg; rw [if_pos (by simp; omega)]; simp [← h2], h3⟩
    | succ i =>
      obtain ⟨c', h5, h6⟩ := h4.get (i := i) (a := a) (by simpa using hi)
      refine ⟨c', ?_, h6⟩
      rw [← h5]
      unfold seg
      rw [show (i + 1) * sz = c.length + i * sz by rw [h2, Nat.add_mul]; omega, ← List.drop_drop, List.drop_left]
      simp only [List.length_append]
      by_cases hq : i * sz + sz ≤ cr.length
      · rw [if_pos (by omega), if_pos hq]
      · rw [if_neg (by omega), if_neg hq]
theorem LF.set {α sz} {E : List AV → α → Prop} : ∀ {l cs}, LF sz E l cs → ∀ {i a c}, i < l.length → E c a → c.length = sz → LF sz E (l.set i a) (splice cs (i * sz) c)
  | [], _, _, i, a, c, hi, _, _ => by simp at hi
  | x :: l, _, ⟨c0, cr, h1, h2, h3, h4⟩, i, a, c, hi, he, hc => by
    subst h1
    cases i with
    | zero => exact ⟨c, cr, by unfold splice; simp [hc, ← h2], hc, he, h4⟩
    | succ i =>
      have := h4.set (i := i) (by simpa using hi) he hc
      refine ⟨c0, _, ?_, h2, h3, this⟩
      unfold splice
      rw [show (i + 1) * sz = c0.length + i * sz by rw [h2, Nat.add_mul]; omega, List.take_length_add_append, show c0.length + i * sz + c.length = c0.length + (i * sz + c.length) by omega, ← List.drop_drop (i := i * sz + c.length), List.drop_left]
      simp
theorem SF_LF {ok H} : ∀ {f cs}, SF ok H f cs ↔ LF 8 (S1 ok H) f.list cs
  | .nil, _ => Iff.rfl
  | .cons k v b e y z r, cs => by
    constructor
    · rintro ⟨va, vy, vz, cy, cz, cr, h1, h2, h3, h4, h5, h6, h7⟩
      exact ⟨[.I k, .I v, .I b, .I e.op, .I e.n, va, vy, vz], cr, by simp [h1], rfl, ⟨va, vy, vz, rfl, h2, ⟨cy, h3, h4⟩, cz, h5, h6⟩, SF_LF.1 h7⟩
    · rintro ⟨c, cr, h1, h2, ⟨va, vy, vz, rfl, h3, ⟨cy, h4, h5⟩, cz, h6, h7⟩, h8⟩
      exact ⟨va, vy, vz, cy, cz, cr, by simp [h1], h3, h4, h5, h6, h7, SF_LF.2 h8⟩
theorem SF_of {ok H} {l : List St1} {cs} : SF ok H (Sts.of l) cs ↔ LF 8 (S1 ok H) l cs := by rw [SF_LF, Sts.list_of]
theorem SlC.part {ok H v n sz cs} (h : SlC ok H v n sz cs) {i j : Nat} (hij : i ≤ j) (hj : j ≤ n) (hz : 0 < sz) {lo hi : Option AV} (h1 : bnd 0 lo = some i) (h2 : bnd n hi = some j) :
    ∃ v', aslice sz v lo hi none = some v' ∧ SlC ok H v' (j - i) sz ((cs.drop (i * sz)).take ((j - i) * sz)) ∧ v'.flat = true := by
  have hlen : ((cs.drop (i * sz)).take ((j - i) * sz)).length = (j - i) * sz := by
    have := Nat.mul_le_mul_right sz hj
    have e : (j - i) * sz = j * sz - i * sz := Nat.sub_mul _ _ _
    have := Nat.mul_le_mul_right sz hij
    simp [h.2.1]; omega
  have hn := h.1
  rcases h.2.2 with ⟨rfl, rfl | rfl⟩ | ⟨b, o, cap, rfl, ⟨q1, q2⟩, q3, q4⟩
  · have : j = 0 := by omega
    subst this
    have : i = 0 := by omega
    subst this
    have h2' : bnd 0 hi = some 0 := h2
    exact ⟨.nils, by simp only [aslice, h1, h2'], ⟨by omega, hlen, .inl ⟨rfl, .inl rfl⟩⟩, rfl⟩
  · have : j = 0 := by omega
    subst this
    have : i = 0 := by omega
    subst this
    have h2' : bnd 0 hi = some 0 := h2
    exact ⟨.esl, by simp only [aslice, h1, h2'], ⟨by omega, hlen, .inl ⟨rfl, .inr rfl⟩⟩, rfl⟩
  · have hL : ∀ o', (o' = o + i * sz ∨ j = i ∧ o' = o) → H.loadN b o' ((j - i) * sz) = some ((cs.drop (i * sz)).take ((j - i) * sz)) := by
      intro o' ho
      unfold AH.loadN at q4 ⊢
      obtain ⟨kk, hk, hs⟩ := Option.bind_eq_some_iff.1 q4
      rw [hk]
      show seg _ _ _ = _
      have hm1 := Nat.mul_le_mul_right sz hj
      have hm2 := Nat.mul_le_mul_right sz hij
      have e : (j - i) * sz = j * sz - i * sz := Nat.sub_mul _ _ _
      rcases ho with rfl | ⟨rfl, rfl⟩
      · rw [seg_seg hs (by omega)]
        unfold seg
        rw [if_pos (by rw [h.2.1]; omega)]
      · rw [Nat.sub_self, Nat.zero_mul]
        unfold seg at hs ⊢
        split at hs
        · rw [if_pos (by omega)]; simp
        · cases hs
    have fin : ∀ v', (∃ o' cap', v' = .sl b o' (j - i) cap' ∧ capOk (j - i) sz cap' ∧ (o' = o + i * sz ∨ j = i ∧ o' = o)) → SlC ok H v' (j - i) sz ((cs.drop (i * sz)).take ((j - i) * sz)) ∧ v'.flat = true := by
      rintro v' ⟨o', cap', rfl, g1, g2⟩
      exact ⟨⟨by omega, hlen, .inr ⟨b, o', cap', rfl, ⟨q1, g1⟩, q3, hL o' g2⟩⟩, rfl⟩
    cases cap with
    | ex c =>
      have q2' : n ≤ c := q2
      refine ⟨.sl b (if c = i then o else o + i * sz) (j - i) (.ex (c - i)), by simp only [aslice, h1, h2]; rw [if_pos ⟨hij, hj⟩], fin _ ⟨_, _, rfl, ?_, ?_⟩⟩
      · show j - i ≤ c - i; omega
      · by_cases hc : c = i
        · rw [if_pos hc]; right; omega
        · rw [if_neg hc]; exact .inl rfl
    | lb c z =>
      obtain ⟨g1, rfl⟩ := q2
      by_cases hi0 : i = 0
      · subst hi0
        refine ⟨.sl b o j (.lb c z), by simp only [aslice, h1, h2]; rw [if_pos ⟨hij, hj⟩]; simp, ?_⟩
        have := fin (.sl b o j (.lb c z)) ⟨o, .lb c z, by simp, ⟨by omega, rfl⟩, .inl (by simp)⟩
        exact this
      · by_cases hil : i < n
        · exact ⟨.sl b (o + i * z) (j - i) (.lb (c - i) z), by simp only [aslice, h1, h2]; rw [if_pos ⟨hij, hj⟩]; simp [hi0, hil], fin _ ⟨_, _, rfl, ⟨by omega, rfl⟩, .inl rfl⟩⟩
        · refine ⟨.esl, by simp only [aslice, h1, h2]; rw [if_pos ⟨hij, hj⟩]; simp [hi0, hil], ⟨by omega, hlen, .inl ⟨by omega, .inr rfl⟩⟩, rfl⟩
    | ro =>
      by_cases hi0 : i = 0
      · subst hi0
        refine ⟨.sl b o j .ro, by simp only [aslice, h1, h2]; rw [if_pos ⟨hij, hj⟩]; simp, ?_⟩
        have := fin (.sl b o j .ro) ⟨o, .ro, by simp, trivial, .inl (by simp)⟩
        exact this
      · by_cases hil : i < n
        · exact ⟨.sl b (o + i * sz) (j - i) .ro, by simp only [aslice, h1, h2]; rw [if_pos ⟨hij, hj⟩]; simp [hi0, hil], fin _ ⟨_, _, rfl, trivial, .inl rfl⟩⟩
        · refine ⟨.esl, by simp only [aslice, h1, h2]; rw [if_pos ⟨hij, hj⟩]; simp [hi0, hil], ⟨by omega, hlen, .inl ⟨by omega, .inr rfl⟩⟩, rfl⟩
theorem SV.part {ok H v f} (h : SV ok H v f) {i j : Nat} (hij : i ≤ j) (hj : j ≤ f.list.length) {lo hi : Option AV} (h1 : bnd 0 lo = some i) (h2 : bnd f.list.length hi = some j) :
    ∃ v', aslice 8 v lo hi none = some v' ∧ SV ok H v' (Sts.of ((f.list.drop i).take (j - i))) ∧ v'.flat = true := by
  obtain ⟨ca, a1, a2⟩ := h
  obtain ⟨v', b1, b2, b3⟩ := a1.part hij hj (by omega) h1 h2
  have hl : ((f.list.drop i).take (j - i)).length = j - i := by simp; omega
  refine ⟨v', b1, ⟨_, ?_, SF_of.2 ((SF_LF.1 a2).drop i |>.take (j - i))⟩, b3⟩
  rw [Sts.list_of, hl]; exact b2

def IV (ok : Nat → Prop) (H : AH) (v : AV) (l : List Int) : Prop := SlC ok H v l.length 1 (Ints l)
theorem IV.src {ok H v l} (h : IV ok H v l) : Src H v l := by
  refine ⟨h.1, ?_⟩
  rcases h.2.2 with ⟨h1, h2 | h2⟩ | ⟨b, o, c, rfl, h1, h2, h3⟩
  · exact .inl ⟨h2, List.eq_nil_of_length_eq_zero h1⟩
  · exact .inr (.inl ⟨h2, List.eq_nil_of_length_eq_zero h1⟩)
  · exact .inr (.inr ⟨b, o, c, rfl, h2, by simpa using h3⟩)
theorem IV.sees {ok H v l} (h : IV ok H v l) : SeesZ H v l := h.src.sees
theorem IV.mono {ok ok' : Nat → Prop} {H H' v l} (h : IV ok H v l) (hn : H.n ≤ H'.n) (hk : ∀ b, ok b → b < H.n → H'.bk b = H.bk b) (ho : ∀ b, ok b → b < H.n → ok' b) : IV ok' H' v l := SlC.mono h hn hk ho
theorem IV.ext {ok H H' v l} (h : IV ok H v l) (k : Ext H H') : IV ok H' v l := h.mono k.1 (fun b _ hb => k.2 b hb) (fun _ h _ => h)
theorem SlC.ext {ok H H' v n sz cs} (h : SlC ok H v n sz cs) (k : Ext H H') : SlC ok H' v n sz cs := h.mono k.1 (fun b _ hb => k.2 b hb) (fun _ h _ => h)
structure Tk where
  vars : List Int
  rest : Sts
deriving DecidableEq, Inhabited
def TC (ok : Nat → Prop) (H : AH) (c : List AV) (t : Tk) : Prop := ∃ vv vr, c = [vv, vr] ∧ IV ok H vv t.vars ∧ SV ok H vr t.rest
theorem TC.mono {ok ok' : Nat → Prop} {H H' c t} (h : TC ok H c t) (hn : H.n ≤ H'.n) (hk : ∀ b, ok b → b < H.n → H'.bk b = H.bk b) (ho : ∀ b, ok b → b < H.n → ok' b) : TC ok' H' c t := let ⟨a, b, h0, h1, h2⟩ := h; ⟨a, b, h0, h1.mono hn hk ho, h2.mono hn hk ho⟩
theorem TC.ext {ok H H' c t} (h : TC ok H c t) (k : Ext H H') : TC ok H' c t := h.mono k.1 (fun b _ hb => k.2 b hb) (fun _ h _ => h)
structure Bx where
  room : Int
  items : List Int
deriving DecidableEq, Inhabited
def BC (ok : Nat → Prop) (H : AH) (c : List AV) (b : Bx) : Prop := ∃ vi, c = [.I b.room, vi] ∧ IV ok H vi b.items
theorem BC.mono {ok ok' : Nat → Prop} {H H' c t} (h : BC ok H c t) (hn : H.n ≤ H'.n) (hk : ∀ b, ok b → b < H.n → H'.bk b = H.bk b) (ho : ∀ b, ok b → b < H.n → ok' b) : BC ok' H' c t := let ⟨a, h0, h1⟩ := h; ⟨a, h0, h1.mono hn hk ho⟩
theorem BC.ext {ok H H' c t} (h : BC ok H c t) (k : Ext H H') : BC ok H' c t := h.mono k.1 (fun b _ hb => k.2 b hb) (fun _ h _ => h)
def BV (ok : Nat → Prop) (H : AH) (v : AV) (l : List Bx) : Prop := ∃ ca, SlC ok H v l.length 2 ca ∧ LF 2 (BC ok H) l ca
theorem BV.mono {ok ok' : Nat → Prop} {H H' v l} (h : BV ok H v l) (hn : H.n ≤ H'.n) (hk : ∀ b, ok b → b < H.n → H'.bk b = H.bk b) (ho : ∀ b, ok b → b < H.n → ok' b) : BV ok' H' v l := let ⟨a, h0, h1⟩ := h; ⟨a, h0.mono hn hk ho, h1.imp (fun _ _ h => h.mono hn hk ho)⟩
theorem BV.ext {ok H H' c t} (h : BV ok H c t) (k : Ext H H') : BV ok H' c t := h.mono k.1 (fun b _ hb => k.2 b hb) (fun _ h _ => h)
theorem BV.alen {ok H v l} (h : BV ok H v l) : alen v = some l.length := let ⟨_, h1, _⟩ := h; h1.alen
theorem BV.flat {ok H v l} (h : BV ok H v l) : v.flat = true := let ⟨_, h1, _⟩ := h; h1.flat
theorem BV.big {ok H v l} (h : BV ok H v l) : l.length ≤ 8589934592 := let ⟨_, h1, _⟩ := h; h1.1
theorem BV.at {ok H v l} (h : BV ok H v l) {i : Nat} {x : Bx} (hi : l[i]? = some x) : ∃ b o cap vi, v = .sl b o l.length cap ∧ ok b ∧ b < H.n ∧ H.loadN b (o + i * 2) 2 = some [.I x.room, vi] ∧ IV ok H vi x.items := by
  obtain ⟨ca, h1, h2⟩ := h
  have hl := (List.getElem?_eq_some_iff.1 hi).1
  obtain ⟨b, o, cap, e1, e2, e3, e4⟩ := h1.at hl
  obtain ⟨c, e5, vi, rfl, e6⟩ := h2.get hi
  exact ⟨b, o, cap, vi, e1, e2, e3, by rw [e4 _ _ (by omega)]; exact e5, e6⟩
def vaB (b : Bx) : Bool := decide (1 ≤ b.room ∧ b.room ≤ 4 ∧ b.items.length ≤ b.room) && b.items.all isW
def vaBs (l : List Bx) : Bool := l.all vaB && decide (l.length ≤ 3)
def vaT (boxes : Int) (t : Tk) : Bool := decide (t.vars.length = 4) && t.vars.all isW && t.rest.list.all fun s => vaS boxes (Sts.of [s])
section
variable {ok : Nat → Prop} {H : AH} {K : AV → AH → Prop} {w : Fk K} {c : List AV} {x : Bx}
theorem K_iBoxValid (h : BC ok H c x) (k : K (.b (vaB x)) (H.push c)) : CallF Cd f_iBoxValid [.agg c] H K w := by
  obtain ⟨vi, rfl, h1⟩ := h
  rw [CallF_eq e_iBoxValid rfl]
  have ha := h1.alen
  have hb := h1.1
  have hw := (h1.ext (Ext.push H [.I x.room, vi])).sees
  unfold vaB at k
  generalize x.items.length = m at *
  by_cases c1 : 1 ≤ x.room <;> by_cases c2 : x.room ≤ 4 <;> by_cases c3 : (m : Int) ≤ x.room <;> simp (disch := omega) [load_push, ha, c1, c2, c3, K_iareWords hw] <;> simpa [c1, c2, c3] using k
theorem K_sBoxValid (h : BC ok H c x) (k : K (.b (vaB x)) (H.push c)) : CallF Cd f_sBoxValid [.agg c] H K w := by
  obtain ⟨vi, rfl, h1⟩ := h
  rw [CallF_eq e_sBoxValid rfl]
  have ha := h1.alen
  have hb := h1.1
  have hw := (h1.ext (Ext.push H [.I x.room, vi])).sees
  unfold vaB at k
  have hww := fun (K : AV → AH → Prop) (w : Fk K) => K_sl4Words (K := K) (w := w) (n := x.items.length) hw
  simp at hww
  generalize x.items.length = m at *
  by_cases c1 : 1 ≤ x.room <;> by_cases c2 : x.room ≤ 4 <;> by_cases c3 : (m : Int) ≤ x.room <;> simp (disch := omega) [load_push, ha, c1, c2, c3, hww, K_sl6In] <;> simpa [c1, c2, c3] using k
end
end Go.Proofs.YtcibjklpaljadaaGreat.AM
namespace Go.Proofs.YtcibjklpaljadaaGreat.AM
set_option linter.unusedSimpArgs false
set_option linter.unusedVariables false
set_option maxRecDepth 100000
set_option maxHeartbeats 2000000
open Go
def cpS : Sts → Bool
  | .nil => true
  | .cons _ _ _ e y z r => cpE e && cpS y && cpS z && cpS r
theorem cpE_of_pl {e : Ex} (h : plE e = true) : cpE e = true := by
  unfold plE at h
  simp at h
  unfold cpE cpE1
  simp [h]
theorem cpE_of_st {boxes nest k v b : Int} {e : Ex} {ny nz : Nat} {sy sz : Bool} (h : okS1 boxes nest k v b e ny nz sy sz = true) : cpE e = true := by
  unfold okS1 at h
  simp only [Bool.and_eq_true] at h
  have h := h.1
  unfold stV at h
  have a1 : okE 5 e = true → cpE e = true := cpE_of_ok
  have a2 : plE e = true → cpE e = true := cpE_of_pl
  by_cases k1 : k = 1
  · simp [k1] at h; exact a1 h.2
  by_cases k2 : k = 2
  · simp [k2] at h; exact a1 h.2
  by_cases k3 : k = 3
  · simp [k3] at h; exact a1 h.2
  by_cases k4 : k = 4
  · simp [k4] at h; exact a1 h.2
  by_cases k5 : k = 5
  · simp [k5] at h; exact a2 h.2
  by_cases k6 : k = 6
  · simp [k6] at h; exact a2 h.2
  by_cases k7 : k = 7
  · simp [k7] at h; exact a1 h.2
  simp [k1, k2, k3, k4, k5, k6, k7] at h
theorem cp_of_okS {boxes : Int} : ∀ {f : Sts} {nest : Int}, okS boxes nest f = true → cpS f = true
  | .nil, _, _ => rfl
  | .cons k v b e y z r, nest, h => by
    simp only [okS, Bool.and_eq_true] at h
    have h1 := cpE_of_st h.1
    have h2 := cp_of_okS h.2
    have h3 := h.1
    unfold okS1 at h3
    simp only [Bool.and_eq_true, Bool.or_eq_true, decide_eq_true_eq] at h3
    simp only [cpS, Bool.and_eq_true]
    rcases h3.2 with q | q
    · have := stV_leaf h3.1 q.1 q.2
      have e1 : y = .nil := by rw [← Sts.of_list y, List.eq_nil_of_length_eq_zero this.1]; rfl
      have e2 : z = .nil := by rw [← Sts.of_list z, List.eq_nil_of_length_eq_zero this.2]; rfl
      subst e1 e2
      exact ⟨⟨⟨h1, rfl⟩, rfl⟩, h2⟩
    · exact ⟨⟨⟨h1, cp_of_okS q.1.2⟩, cp_of_okS q.2⟩, h2⟩
theorem GrS.sl {base G v n sz cs B} (h : GrS base G v n sz cs B) : SlC (fun b => base ≤ b) G v n sz cs := h.slc
theorem GrS.sv {base G v cs B} {f : Sts} (h : GrS base G v f.list.length 8 cs B) (k : SF (fun b => base ≤ b ∧ b ≠ B) G f cs) : SV (fun b => base ≤ b) G v f :=
  ⟨cs, h.slc, k.mono (Nat.le_refl _) (fun _ _ _ => rfl) (fun _ h _ => h.1)⟩
theorem LF.snoc {α : Type} {sz : Nat} {E : (Nat → Prop) → AH → List AV → α → Prop} (mono : ∀ {ok ok' : Nat → Prop} {H H' : AH} {c a}, E ok H c a → H.n ≤ H'.n → (∀ b, ok b → b < H.n → H'.bk b = H.bk b) → (∀ b, ok b → b < H.n → ok' b) → E ok' H' c a)
    {base B : Nat} {G G1 : AH} {g : AV} {l : List α} {i : Nat} {x : α} {cs c : List AV} (hs : l[i]? = some x) (hg : GrS base G g i sz cs B) (he : LF sz (E (fun b => base ≤ b ∧ b ≠ B) G) (l.take i) cs)
    (hb : base ≤ G.n) (x1 : Ext G G1) (hc : c.length = sz) (hx : E (fun b => G.n ≤ b) G1 c x) (hi : i < 100000000) :
    ∃ g' G' B', aapp G1 sz g 1 c = some (g', G') ∧ GrS base G' g' (i + 1) sz (cs ++ c) B' ∧ LF sz (E (fun b => base ≤ b ∧ b ≠ B') G') (l.take (i + 1)) (cs ++ c) ∧ (∀ b, b < base → G'.bk b = G.bk b) ∧ G1.n ≤ G'.n ∧ g'.flat = true := by
  obtain ⟨g', G', B', a1, a2, a3, a4⟩ := (hg.ext x1).app (k := 1) (new := c) (by have := x1.1; omega) (by omega) (by omega)
  have hm : ∀ b, b ∈ grB g B → b = B ∧ base ≤ B ∧ B < G.n := fun b hb => hg.mem hb
  have hB : (B' = B ∧ base ≤ B ∧ B < G.n) ∨ G1.n = B' := by
    rcases a3 with q | q
    · exact .inl ⟨q.1, (hm _ q.2).2⟩
    · exact .inr q.symm
  have n1 := x1.1
  refine ⟨g', G', B', a1, a2, ?_, fun b hb' => ?_, a4.1, a2.flat⟩
  · rw [take_snoc hs]
    refine LF.app (he.imp fun c a h => mono h (by have := a4.1; omega) (fun b hb' h1 => ?_) (fun b hb' h1 => ⟨hb'.1, by omega⟩)) (LF.one (mono hx a4.1 (fun b hb' h1 => a4.2 b h1 (fun hm' => by have := hm b hm'; omega)) (fun b hb' h1 => by omega)) hc)
    rw [a4.2 b (by omega) (fun hm' => hb'.2 (hm b hm').1), x1.2 b h1]
  · rw [a4.2 b (by omega) (fun hm' => by have := hm b hm'; omega), x1.2 b (by omega)]
end Go.Proofs.YtcibjklpaljadaaGreat.AM
namespace Go.Proofs.YtcibjklpaljadaaGreat.AM
set_option linter.unusedSimpArgs false
set_option linter.unusedVariables false
set_option maxRecDepth 100000
set_option maxHeartbeats 2000000
open Go
def CopyB (g : FuncId) (l : List Bx) : Prop := ∀ {ok : Nat → Prop} {H : AH} {K : AV → AH → Prop} {w : Fk K} {v : AV}, BV ok H v l → l.length ≤ 1000 →
    (∀ v' H' cs B, GrS H.n H' v' l.length 2 cs B → LF 2 (BC (fun b => H.n ≤ b ∧ b ≠ B) H') l cs → Ext H H' → K v' H') → CallF Cd g [v] H K w
theorem app_newG {H : AH} {b : Nat} {l : List Int} (hb : H.bk b = some ⟨[], true⟩) (hbn : b < H.n) {base : Nat} (hbb : base ≤ b) (hl : l.length ≤ 100000000) : ∃ v H' B, aapp H 1 (.sl b 0 0 (.ex 0)) l.length (Ints l) = some (v, H') ∧ Ext H H' ∧ GrS base H' v l.length 1 (Ints l) B ∧ v.flat = true ∧ (B = b ∨ B = H.n) := by
  by_cases h0 : l.length = 0
  · have : l = [] := List.eq_nil_of_length_eq_zero h0
    subst this
    exact ⟨.sl b 0 0 (.ex 0), H, b, by simp [aapp], Ext.refl _, ⟨by simp, rfl, .inr ⟨hbb, hbn, .inl ⟨rfl, hb⟩⟩⟩, rfl, .inl rfl⟩
  · refine ⟨.sl H.n 0 l.length (.lb l.length 1), H.push (Ints l), H.n, ?_, Ext.push _ _, ⟨hl, by rw [Ints_len]; omega, .inr ⟨by omega, Nat.lt_succ_self _, .inr ⟨l.length, [], rfl, Nat.le_refl _, by simp, by rw [List.append_nil]; exact push_new⟩⟩⟩, rfl, .inr rfl⟩
    unfold aapp
    simp only [if_neg h0, Nat.zero_add, Nat.zero_mul]
    rw [if_neg (show ¬ big < l.length by unfold big; omega)]
    have hs : H.loadN b 0 0 = some [] := by rw [loadN_bk hb]; rfl
    simp only [hs, List.nil_append]
    rw [if_neg (by omega)]
theorem GrS.iv {base G v l B} (h : GrS base G v l.length 1 (Ints l) B) : IV (fun b => base ≤ b) G v l := h.slc
theorem GrS.ivB {base G v n sz cs B} (h : GrS base G v n sz cs B) {ok : Nat → Prop} (hok : base ≤ B → B < G.n → ok B) : SlC ok G v n sz cs := by
  obtain ⟨h1, h2, h3⟩ := h
  refine ⟨by omega, h2, ?_⟩
  rcases h3 with ⟨rfl, h4⟩ | ⟨h4, h5, ⟨rfl, h6⟩ | ⟨c, ex, rfl, h7, h8, h9⟩⟩
  · exact .inl ⟨h4, .inl rfl⟩
  · exact .inr ⟨B, 0, _, rfl, ⟨hok h4 h5, Nat.le_refl _⟩, h5, by rw [loadN_bk h6]; exact seg_self h2⟩
  · exact .inr ⟨B, 0, _, rfl, ⟨hok h4 h5, h7, rfl⟩, h5, by rw [loadN_bk h9]; exact seg_app h2⟩
theorem K_cloneG {H : AH} {K : AV → AH → Prop} {w : Fk K} {v : AV} {l : List Int} (h : Src H v l) (hl : l.length ≤ 100000000) (k : ∀ v' H' B, GrS H.n H' v' l.length 1 (Ints l) B → Ext H H' → K v' H') : CallF Cd f_slices_Clone_int_int [v] H K w := by
  rw [CallF_eq e_slices_Clone_int_int rfl]
  have e1 := (h.ext (Ext.push H [])).elems
  have e2 := h.sees.1
  obtain ⟨h0, ⟨rfl, rfl⟩ | h'⟩ := h
  · simp
    exact k _ H 0 GrS.nils (Ext.refl _)
  · obtain ⟨v', H', B, a1, a2, a3, a4, _⟩ := app_newG (l := l) (push_new (H := H) (cs := [])) (Nat.lt_succ_self _) (Nat.le_refl _) hl
    rcases h' with ⟨rfl, rfl⟩ | ⟨b1, o1, c1, rfl, _⟩
    · simp only [List.length_nil] at a1
      simp [-AM.elems, e1, e2, a1]
      exact k _ _ B a3 ((Ext.push _ _).trans a2)
    · simp [-AM.elems, e1, e2, a1]
      exact k _ _ B a3 ((Ext.push _ _).trans a2)
theorem K_sl15BoxesCopy_l {l : List Bx} (hll : l.length ≤ 1000) (hit : ∀ x ∈ l, x.items.length ≤ 100000000) {base : Nat} {v : AV}
    {Q : Out → Env → AH → Prop} (m i : Nat) (him : i + m = l.length) {G : AH} {g : AV} {cs : List AV} {B : Nat} (hb : base ≤ G.n) (hv : BV (fun b => b < base) G v l) (hg : GrS base G g i 2 cs B)
    (he : LF 2 (BC (fun b => base ≤ b ∧ b ≠ B) G) (l.take i) cs)
    (hQ : ∀ G' g' cs' B', GrS base G' g' l.length 2 cs' B' → LF 2 (BC (fun b => base ≤ b ∧ b ≠ B') G') l cs' → (∀ b, b < base → G'.bk b = G.bk b) → G.n ≤ G'.n → Q (.brk 0) [(0, v), (3, g'), (4, .I l.length), (9, .b false)] G') :
    W Cd (.loop c_sl15BoxesCopy_l0) [(0, v), (3, g), (4, .I i)] G Q := by
  induction m generalizing i G g cs B with
  | zero =>
    rw [W_loop_as c_sl15BoxesCopy_l0.eq_1]
    have hi : i = l.length := by omega
    subst hi
    have := hv.big
    simp [hv.alen]
    rw [List.take_length] at he
    exact hQ G g cs B hg he (fun _ _ => rfl) (Nat.le_refl _)
  | succ m ihm =>
    rw [W_loop_as c_sl15BoxesCopy_l0.eq_1]
    have hi : i < l.length := by omega
    obtain ⟨s, hs⟩ : ∃ s, l[i]? = some s := ⟨_, List.getElem?_eq_getElem hi⟩
    have hmem := List.mem_of_getElem? hs
    obtain ⟨b, o, cap, vi, rfl, ob, hbn, l1, iv⟩ := hv.at hs
    generalize hL : l.length = L at *
    have hlt : (i : Int) < L := by omega
    have x0 := Ext.push G []
    have g0 := loadN_get l1 (i := 0) (by omega)
    have g1 := loadN_get (loadN_extE l1 x0 hbn) (i := 1) (by omega)
    simp at g0 g1
    obtain ⟨v', H1, B1, b1, x1, g2, f1, _⟩ := app_newG (l := s.items) (push_new (H := G) (cs := [])) (Nat.lt_succ_self _) (Nat.le_refl _) (hit s hmem)
    have x7 := Ext.push H1 [.I s.room, v']
    have e1 := (iv.ext x0).src.elems
    have e2 := iv.sees.1
    have fl := iv.src.flat
    obtain ⟨g', G', B', a1, a2, a3, a4, a5, a6⟩ := LF.snoc (E := BC) (fun h => h.mono) hs hg he hb ((x0.trans x1).trans x7) rfl
      (show BC (fun b => G.n ≤ b) (H1.push [.I s.room, v']) [.I s.room, v'] s from ⟨v', rfl, IV.ext g2.iv x7⟩) (by omega)
    have n1 := x1.1
    simp only [push_n] at n1 a5
    simp (disch := omega) [-AM.elems, hlt, g0, g1, e1, e2, b1, x1, flat_cells f1, flat_tup f1]
    simp (disch := omega) [loadN_push, a1]
    have := ihm (i + 1) (by omega) (G := G') (by omega) (hv.mono (by omega) (fun b hb' _ => a4 b hb') (fun _ h _ => h)) a2 a3 (fun G2 g2 cs2 B2 u1 u2 u3 u4 => hQ G2 g2 cs2 B2 u1 u2 (fun b hb' => (u3 b hb').trans (a4 b hb')) (by omega))
    simpa using this
theorem K_sl15BoxesCopy (l : List Bx) (hit : ∀ x ∈ l, x.items.length ≤ 100000000) : CopyB f_sl15BoxesCopy l := by
  intro ok H K w v h hl k
  rw [CallF_eq e_sl15BoxesCopy rfl]
  simp
  have x0 := Ext.push H []
  have := K_sl15BoxesCopy_l hl hit (Q := ?_) l.length 0 (by omega) (base := H.n) (G := H.push []) (g := .sl H.n 0 0 (.ex 0)) (cs := []) (B := H.n) (v := v) (by simp)
    (h.mono (by simp) (fun b _ hb => x0.2 b hb) (fun b _ hb => hb)) (GrS.new (Nat.le_refl _) (by omega) (by simp)) rfl ?_
  · simpa using this
  · intro G g cs B u1 u2 u3 u4
    simp
    exact k g G cs B u1 u2 ⟨by simp at u4; omega, fun b hb => (u3 b hb).trans (x0.2 b hb)⟩
end Go.Proofs.YtcibjklpaljadaaGreat.AM
namespace Go.Proofs.YtcibjklpaljadaaGreat.AM
set_option linter.unusedSimpArgs false
set_option linter.unusedVariables false
set_option maxRecDepth 100000
set_option maxHeartbeats 2000000
open Go
theorem all_dropB {α : Type} {l : List α} {p : α → Bool} {i : Nat} {s : α} (h : l[i]? = some s) : (l.drop i).all p = (p s && (l.drop (i + 1)).all p) := by
  obtain ⟨hi, rfl⟩ := List.getElem?_eq_some_iff.1 h
  rw [List.drop_eq_getElem_cons hi, List.all_cons]
theorem K_iboxesValid_l {l : List Bx} {ok : Nat → Prop} {K : AV → AH → Prop} {v : AV} {Q : Out → Env → AH → Prop} (h1 : ∀ G, BV ok G v l → Q (.brk 0) [(8, .b false), (0, v), (5, v), (6, .I l.length), (7, .I l.length)] G = K (.b (decide (l.length ≤ 3))) G) (h2 : ∀ e H, Q .ret e H = bindO (get e 2) fun v => K v H)
    (m i : Nat) (hm : i + m = l.length) {H : AH} (h : BV ok H v l) (k : ∀ H', Ext H H' → K (.b ((l.drop i).all vaB && decide (l.length ≤ 3))) H') :
    W Cd (.loop c_iboxesValid_l0) [(0, v), (5, v), (6, .I l.length), (7, .I i)] H Q := by
  induction m generalizing i H with
  | zero =>
    rw [W_loop_as c_iboxesValid_l0.eq_1]
    have hi : i = l.length := by omega
    subst hi
    have := k H (Ext.refl _)
    rw [List.drop_length] at this
    simp
    rw [h1 H h]
    simpa using this
  | succ m ihm =>
    rw [W_loop_as c_iboxesValid_l0.eq_1]
    have hi : i < l.length := by omega
    obtain ⟨s, hs⟩ : ∃ s, l[i]? = some s := ⟨_, List.getElem?_eq_getElem hi⟩
    have hbig := h.big
    obtain ⟨b, o, cap, vi, rfl, ob, hbn, l1, iv⟩ := h.at hs
    rw [all_dropB hs] at k
    generalize hL : l.length = L at *
    have hlt : (i : Int) < L := by omega
    have x0 := Ext.push H [.I s.room, vi]
    simp (disch := omega) [hlt, l1, AH.store, push_put, loadN_push]
    refine K_iBoxValid (x := s) ⟨vi, rfl, iv.ext x0⟩ ?_
    have x1 := x0.trans (Ext.push (H.push [.I s.room, vi]) [.I s.room, vi])
    cases hok : vaB s with
    | false =>
      simp [h2]
      rw [hok] at k
      exact k _ x1
    | true =>
      rw [hok, Bool.true_and] at k
      simp (disch := omega)
      have := ihm (i + 1) (by omega) (h.ext x1) (fun H' x => k H' (x1.trans x))
      simpa using this
theorem K_sl15Boxes_l {l : List Bx} {ok : Nat → Prop} {K : AV → AH → Prop} {v : AV} {Q : Out → Env → AH → Prop} (h1 : ∀ G, BV ok G v l → Q (.brk 0) [(0, v), (3, .I l.length), (7, .b false)] G = K (.b (decide (l.length ≤ 3))) G) (h2 : ∀ e H, Q .ret e H = bindO (get e 2) fun v => K v H)
    (m i : Nat) (hm : i + m = l.length) {H : AH} (h : BV ok H v l) (k : ∀ H', Ext H H' → K (.b ((l.drop i).all vaB && decide (l.length ≤ 3))) H') :
    W Cd (.loop c_sl15Boxes_l0) [(0, v), (3, .I i)] H Q := by
  induction m generalizing i H with
  | zero =>
    rw [W_loop_as c_sl15Boxes_l0.eq_1]
    have hi : i = l.length := by omega
    subst hi
    have := k H (Ext.refl _)
    rw [List.drop_length] at this
    have hbig := h.big
    simp [h.alen]
    rw [h1 H h]
    simpa using this
  | succ m ihm =>
    rw [W_loop_as c_sl15Boxes_l0.eq_1]
    have hi : i < l.length := by omega
    obtain ⟨s, hs⟩ : ∃ s, l[i]? = some s := ⟨_, List.getElem?_eq_getElem hi⟩
    have hbig := h.big
    obtain ⟨b, o, cap, vi, rfl, ob, hbn, l1, iv⟩ := h.at hs
    rw [all_dropB hs] at k
    generalize hL : l.length = L at *
    have hlt : (i : Int) < L := by omega
    have x1 := Ext.push H [.I s.room, vi]
    simp (disch := omega) [hlt, l1]
    refine K_sBoxValid (x := s) ⟨vi, rfl, iv⟩ ?_
    cases hok : vaB s with
    | false =>
      simp [h2]
      rw [hok] at k
      exact k _ x1
    | true =>
      rw [hok, Bool.true_and] at k
      simp (disch := omega)
      have := ihm (i + 1) (by omega) (h.ext x1) (fun H' x => k H' (x1.trans x))
      simpa using this
theorem dec_nat3 {n : Nat} : decide ((n : Int) ≤ 3) = decide (n ≤ 3) := by
  by_cases h : n ≤ 3
  · have : (n : Int) ≤ 3 := by omega
    simp [h, this]
  · have : ¬ (n : Int) ≤ 3 := by omega
    simp [h, this]
section
variable {ok : Nat → Prop} {H : AH} {K : AV → AH → Prop} {w : Fk K} {v : AV} {l : List Bx}
theorem K_iboxesValid (h : BV ok H v l) (k : ∀ H', Ext H H' → K (.b (vaBs l)) H') : CallF Cd f_iboxesValid [v] H K w := by
  rw [CallF_eq e_iboxesValid rfl]
  have hbig := h.big
  simp (disch := omega) [h.alen]
  have := K_iboxesValid_l (K := K) (l := l) (Q := ?_) ?_ ?_ l.length 0 (by omega) h k
  · simpa using this
  · intro G hG; simp [hG.alen, dec_nat3]
  · intros; simp
theorem K_sl15Boxes (h : BV ok H v l) (k : ∀ H', Ext H H' → K (.b (vaBs l)) H') : CallF Cd f_sl15Boxes [v] H K w := by
  rw [CallF_eq e_sl15Boxes rfl]
  have hbig := h.big
  simp (disch := omega) [h.alen]
  have := K_sl15Boxes_l (K := K) (l := l) (Q := ?_) ?_ ?_ l.length 0 (by omega) h k
  · simpa using this
  · intro G hG; simp [hG.alen, dec_nat3]
  · intros; simp
end
section
variable {ok : Nat → Prop} {H : AH} {K : AV → AH → Prop} {w : Fk K} {c : List AV} {t : Tk} {boxes : Int}
end
end Go.Proofs.YtcibjklpaljadaaGreat.AM
namespace Go.Proofs.YtcibjklpaljadaaGreat.AM
set_option linter.unusedSimpArgs false
set_option linter.unusedVariables false
set_option maxRecDepth 100000
set_option maxHeartbeats 2000000
open Go
theorem GrS.store {base G v n sz cs B} (h : GrS base G v n sz cs B) {i : Nat} (hi : i < n) {c : List AV} (hc : c.length = sz) :
    ∃ cap G', v = .sl B 0 n cap ∧ G.store B (i * sz) c = some G' ∧ GrS base G' v n sz (splice cs (i * sz) c) B ∧ Only [B] G G' ∧ base ≤ B ∧ B < G.n := by
  obtain ⟨h1, h2, h3⟩ := h
  have hm : (i + 1) * sz ≤ n * sz := Nat.mul_le_mul_right sz hi
  rw [Nat.add_mul] at hm
  have hl : (splice cs (i * sz) c).length = n * sz := by unfold splice; rw [List.length_append, List.length_append, List.length_take, List.length_drop, h2, hc]; omega
  rcases h3 with ⟨rfl, rfl⟩ | ⟨h4, h5, ⟨rfl, h6⟩ | ⟨cc, ex, rfl, h7, h8, h9⟩⟩
  · omega
  · have st := store_bk (o := i * sz) (vs := c) h6 (by omega)
    exact ⟨_, _, rfl, st, ⟨h1, hl, .inr ⟨h4, h5, .inl ⟨rfl, put_same⟩⟩⟩, Only.refl.put (by simp), h4, h5⟩
  · have st := store_bk (o := i * sz) (vs := c) h9 (by simp; omega)
    refine ⟨_, _, rfl, st, ⟨h1, hl, .inr ⟨h4, h5, .inr ⟨cc, ex, rfl, h7, h8, ?_⟩⟩⟩, Only.refl.put (by simp), h4, h5⟩
    rw [put_same]
    have : splice (cs ++ ex) (i * sz) c = splice cs (i * sz) c ++ ex := by
      unfold splice
      rw [List.take_append_of_le_length (by omega), List.drop_append_of_le_length (by omega)]; simp
    rw [this]
theorem Ints_snoc {l : List Int} {x : Int} : Ints l ++ [.I x] = Ints (l ++ [x]) := by simp [Ints]
section
variable {ok : Nat → Prop} {H : AH} {K : AV → AH → Prop} {w : Fk K} {c : List AV} {b : Bx} {x : Int}
theorem K_sBoxPut (h : BC ok H c b) (hv : vaB b = true) (hx : isW x = true)
    (k1 : b.items.length < b.room → ∀ c' H', BC (fun b => H.n ≤ b) H' c' ⟨b.room, b.items ++ [x]⟩ → Ext H H' → K (.tup [.agg c', .b true]) H')
    (k2 : ¬ b.items.length < b.room → ∀ H', Ext H H' → K (.tup [.agg [.I 0, .nils], .b false]) H') : CallF Cd f_sBoxPut [.agg c, .I x] H K w := by
  have h' := h
  obtain ⟨vi, rfl, h1⟩ := h'
  rw [CallF_eq e_sBoxPut rfl]
  have x0 : Ext H ((H.push [.I b.room, vi]).push [.I 0, .nils]) := (Ext.push _ _).trans (Ext.push _ _)
  have x1 : Ext H (((H.push [.I b.room, vi]).push [.I 0, .nils]).push [.I b.room, vi]) := x0.trans (Ext.push _ _)
  have hal := h1.alen
  have hbg := h1.1
  have hv' := hv
  unfold vaB at hv'
  simp at hv'
  obtain ⟨⟨r1, r2, r3⟩, r4⟩ := hv'
  simp (disch := omega) [loadN_push]
  refine K_sBoxValid (h.ext x0) ?_
  rw [hv]
  simp (disch := omega) [K_sWordValid, hx, load_push, hal]
  have q1 : (((H.push [.I b.room, vi]).push [.I 0, .nils]).push [.I b.room, vi]).bk (H.n + 1) = some ⟨[.I 0, .nils], true⟩ := push_old (by simp) push_new
  by_cases hl : b.items.length < b.room
  · have hl' : ¬ b.room ≤ b.items.length := by omega
    simp (disch := omega) [-AM.elems, hl', load_push]
    have x2 := x1.trans (Ext.push _ [])
    obtain ⟨v', H1, B1, b1, x3, g1, f1, _⟩ := app_newG (l := b.items) (H := (((H.push [.I b.room, vi]).push [.I 0, .nils]).push [.I b.room, vi]).push []) (push_new (cs := [])) (Nat.lt_succ_self _) (base := H.n + 2) (by simp) (by omega)
    have e1 := (h1.ext x2).src.elems
    have n1 := x3.1
    simp only [push_n] at n1 b1
    simp (disch := omega) [-AM.elems, hal, e1, b1, x3]
    obtain ⟨v2, H2, B2, c1, c2, c3, c4⟩ := (g1.ext (Ext.push H1 [.I x])).app (k := 1) (new := [.I x]) (by simp; omega) (by simp) (by omega)
    have n2 := c4.1
    simp only [push_n] at n2 c3
    have hm : ∀ b, b ∈ grB v' B1 → H.n + 2 ≤ b := fun b hb => by have := g1.mem hb; omega
    have o2 : ∀ b, b < H.n + 2 → H2.bk b = H1.bk b := fun b hb => by
      rw [c4.2 b (by simp; omega) (fun hm' => by have := hm b hm'; omega), push_old (by omega) rfl]
    have hne : ¬ H.n = H1.n := by omega
    have q0 : H2.bk H.n = H1.bk H.n := o2 _ (by omega)
    have q2 : H2.bk (H.n + 1) = some ⟨[.I 0, .nils], true⟩ := (o2 _ (by omega)).trans ((x3.2 _ (by simp)).trans (push_old (by simp) q1))
    have f2 := c2.flat
    have st : H2.store (H.n + 1) 0 [.I b.room, v2] = some (H2.put (H.n + 1) (some ⟨[.I b.room, v2], true⟩)) := store_bk q2 (by simp)
    simp (disch := omega) [loadN_push, c1, hne, q0, flat_cells f2, flat_tup f2, st, loadN_bk put_same]
    have x4 : Ext H H2 := ⟨by omega, fun b hb => (o2 b (by omega)).trans ((x2.trans x3).2 b hb)⟩
    have c5 := c2.only (bs := [H.n + 1]) (G' := H2.put (H.n + 1) (some ⟨[.I b.room, v2], true⟩)) (Only.refl.put (by simp)) (by simp)
    rw [Ints_snoc] at c5
    exact k1 hl _ _ ⟨v2, rfl, SlC.mono (by simpa [IV] using c5.slc) (Nat.le_refl _) (fun _ _ _ => rfl) (fun b hb _ => by omega)⟩ (x4.put (by omega))
  · have hl' : b.room ≤ b.items.length := by omega
    have st := store_bk (o := 0) (vs := [.I 0, .nils]) q1 (by simp)
    simp (disch := omega) [hl', load_push, st, loadN_bk put_same]
    exact k2 (by omega) _ (x1.put (by omega))
theorem K_sBoxTake (h : BC ok H c b) (hv : vaB b = true)
    (k1 : ∀ y r, b.items = y :: r → ∀ c' H', BC (fun b => H.n ≤ b) H' c' ⟨b.room, r⟩ → Ext H H' → K (.tup [.agg c', .I y, .b true]) H')
    (k2 : b.items = [] → ∀ H', Ext H H' → K (.tup [.agg [.I 0, .nils], .I 0, .b false]) H') : CallF Cd f_sBoxTake [.agg c] H K w := by
  have h' := h
  obtain ⟨vi, rfl, h1⟩ := h'
  rw [CallF_eq e_sBoxTake rfl]
  have x0 : Ext H ((H.push [.I b.room, vi]).push [.I 0, .nils]) := (Ext.push _ _).trans (Ext.push _ _)
  have x1 : Ext H (((H.push [.I b.room, vi]).push [.I 0, .nils]).push [.I b.room, vi]) := x0.trans (Ext.push _ _)
  have hal := h1.alen
  have hbg := h1.1
  have hv' := hv
  unfold vaB at hv'
  simp at hv'
  obtain ⟨⟨r1, r2, r3⟩, r4⟩ := hv'
  simp (disch := omega) [loadN_push]
  refine K_sBoxValid (h.ext x0) ?_
  rw [hv]
  have q1 : (((H.push [.I b.room, vi]).push [.I 0, .nils]).push [.I b.room, vi]).bk (H.n + 1) = some ⟨[.I 0, .nils], true⟩ := push_old (by simp) push_new
  cases hit : b.items with
  | nil =>
    rw [hit] at hal
    have hal' : alen vi = some 0 := hal
    have st := store_bk (o := 0) (vs := [.I 0, .nils]) q1 (by simp)
    simp (disch := omega) [load_push, hal', st, loadN_bk put_same]
    exact k2 hit _ (x1.put (by omega))
  | cons y r =>
    have hal' : alen vi = some (r.length + 1) := by rw [hal, hit]; rfl
    have hpos : ¬ ((r.length : Int) + 1) = 0 := by omega
    have hne : ¬ ((r.length + 1 : Nat) : Int) = 0 := by omega
    have hlb : b.items.length = r.length + 1 := by rw [hit]; rfl
    simp (disch := omega) [-AM.elems, load_push, hal', hpos, hne]
    have x2 := x1.trans (Ext.push _ [])
    obtain ⟨vp, a1, a2, a3⟩ := SlC.part (h1.ext x2) (i := 1) (j := b.items.length) (lo := some (.I 1)) (hi := none) (by omega) (by omega) (by omega) (by simp [bnd, aint]) rfl
    have ep : ((Ints b.items).drop (1 * 1)).take ((b.items.length - 1) * 1) = Ints r := by rw [hit]; simp [Ints]; exact List.take_of_length_le (by simp)
    rw [ep, hlb, Nat.add_sub_cancel] at a2
    have ip : IV ok _ vp r := a2
    obtain ⟨v', H1, B1, b1, x3, g1, f1, _⟩ := app_newG (l := r) (H := (((H.push [.I b.room, vi]).push [.I 0, .nils]).push [.I b.room, vi]).push []) (push_new (cs := [])) (Nat.lt_succ_self _) (base := H.n + 2) (by simp) (by omega)
    have e1 := ip.src.elems
    have e2 := ip.sees.1
    have n1 := x3.1
    simp only [push_n] at n1 b1
    have q0 : H1.bk H.n = some ⟨[.I b.room, vi], true⟩ := (x3.2 _ (by simp; omega)).trans (push_old (by simp; omega) (push_old (by simp; omega) (push_old (by simp) push_new)))
    have q2 : H1.bk (H.n + 1) = some ⟨[.I 0, .nils], true⟩ := (x3.2 _ (by simp)).trans (push_old (by simp) q1)
    obtain ⟨bv, ov, s1, s2, s3⟩ := h1.sees.at (i := 0) (by omega)
    have ey : b.items[0]'(by omega) = y := by simp [hit]
    rw [ey, Nat.add_zero, ← load_ext (x2.trans x3) s2] at s3
    rw [hlb] at s1
    have hb1 : ¬ bv = H.n + 1 := by omega
    have st : H1.store (H.n + 1) 0 [.I b.room, v'] = some (H1.put (H.n + 1) (some ⟨[.I b.room, v'], true⟩)) := store_bk q2 (by simp)
    simp (disch := omega) [-AM.elems, a1, e1, e2, b1, x3, load_bk q0, s1, s3, hb1, flat_cells f1, flat_tup f1, st, loadN_bk put_same]
    have g2 := g1.only (bs := [H.n + 1]) (G' := H1.put (H.n + 1) (some ⟨[.I b.room, v'], true⟩)) (Only.refl.put (by simp)) (by simp)
    exact k1 y r hit _ _ ⟨v', rfl, IV.mono g2.iv (Nat.le_refl _) (fun _ _ _ => rfl) (fun b hb _ => by omega)⟩ ((x2.trans x3).put (by omega))
end
end Go.Proofs.YtcibjklpaljadaaGreat.AM
namespace Go.Proofs.YtcibjklpaljadaaGreat.AM
set_option linter.unusedSimpArgs false
set_option linter.unusedVariables false
set_option maxRecDepth 100000
set_option maxHeartbeats 2000000
open Go
theorem SV.tail {ok H v f} (h : SV ok H v f) {s : St1} {r : List St1} (hr : f.list = s :: r) : ∃ v', aslice 8 v (some (.I 1)) none none = some v' ∧ SV ok H v' (Sts.of r) ∧ v'.flat = true := by
  obtain ⟨v', a1, a2, a3⟩ := h.part (i := 1) (j := f.list.length) (lo := some (.I 1)) (hi := none) (by rw [hr]; simp) (Nat.le_refl _) (by simp [bnd, aint]) rfl
  refine ⟨v', a1, ?_, a3⟩
  rw [hr] at a2
  simpa using a2
section
variable {ok : Nat → Prop} {H : AH} {K : AV → AH → Prop} {w : Fk K} {c : List AV} {t : Tk} {s : St1} {r : List St1}
end
def rdT (t : Tk) (many : Nat) : Bool :=
  match t.rest.list with
  | [] => true
  | s :: _ => decide (s.k ≠ 4 ∧ s.k ≠ 5) || decide (s.b < many)
section
variable {ok : Nat → Prop} {H : AH} {K : AV → AH → Prop} {w : Fk K} {c : List AV} {t : Tk} {s : St1} {r : List St1}
end
end Go.Proofs.YtcibjklpaljadaaGreat.AM
namespace Go.Proofs.YtcibjklpaljadaaGreat.AM
set_option linter.unusedSimpArgs false
set_option linter.unusedVariables false
set_option maxRecDepth 100000
set_option maxHeartbeats 2000000
open Go
def blkR (s : St1) (r : List St1) (x : Int) : Sts :=
  if s.k = 2 then Sts.of ((if x ≠ 0 then s.body else s.els).list ++ r) else if x ≠ 0 then Sts.of (s.body.list ++ (s :: r)) else Sts.of r
section
variable {ok : Nat → Prop} {H : AH} {K : AV → AH → Prop} {w : Fk K} {c : List AV} {t : Tk} {s : St1} {r : List St1}
end
end Go.Proofs.YtcibjklpaljadaaGreat.AM
namespace Go.Proofs.YtcibjklpaljadaaGreat.AM
set_option linter.unusedSimpArgs false
set_option linter.unusedVariables false
set_option maxRecDepth 100000
set_option maxHeartbeats 2000000
open Go
def talkP (t : Tk) (bs : List Bx) (s : St1) (r : List St1) : Tk × List Bx × Int :=
  match bs[s.b.toNat]? with
  | none => (t, bs, 3)
  | some b =>
    if s.k = 4 then
      if b.items.length < b.room then (⟨t.vars, Sts.of r⟩, bs.set s.b.toNat ⟨b.room, b.items ++ [evE t.vars s.e]⟩, 1) else (t, bs, 3)
    else match b.items with
      | [] => (t, bs, 3)
      | y :: q => (⟨t.vars.set s.v.toNat y, Sts.of r⟩, bs.set s.b.toNat ⟨b.room, q⟩, 1)
theorem GrS.bv {base G v l cs B} (h : GrS base G v l.length 2 cs B) (k : LF 2 (BC (fun b => base ≤ b ∧ b ≠ B) G) l cs) : BV (fun b => base ≤ b) G v l :=
  ⟨cs, h.slc, k.imp fun _ _ h => h.mono (Nat.le_refl _) (fun _ _ _ => rfl) (fun _ h _ => h.1)⟩
theorem GrS.bv' {base base' G v l cs B} (h : GrS base G v l.length 2 cs B) (k : LF 2 (BC (fun b => base' ≤ b ∧ b ≠ B) G) l cs) (hb : base ≤ base' := by omega) : BV (fun b => base ≤ b) G v l :=
  ⟨cs, h.slc, k.imp fun _ _ h => h.mono (Nat.le_refl _) (fun _ _ _ => rfl) (fun _ h _ => by omega)⟩
section
variable {ok : Nat → Prop} {H : AH} {K : AV → AH → Prop} {w : Fk K} {c : List AV} {t : Tk} {s : St1} {r : List St1} {bs : List Bx} {vb : AV}
end
end Go.Proofs.YtcibjklpaljadaaGreat.AM
namespace Go.Proofs.YtcibjklpaljadaaGreat.AM
set_option linter.unusedSimpArgs false
set_option linter.unusedVariables false
set_option maxRecDepth 100000
set_option maxHeartbeats 2000000
open Go
def stepP (t : Tk) (bs : List Bx) : Tk × List Bx × List Int × Int :=
  match t.rest.list with
  | [] => (t, bs, [], 4)
  | s :: r =>
    if s.k = 4 ∨ s.k = 5 then ((talkP t bs s r).1, (talkP t bs s r).2.1, [], (talkP t bs s r).2.2)
    else if s.k = 2 ∨ s.k = 3 then (⟨t.vars, blkR s r (evE t.vars s.e)⟩, bs, [], 1)
    else if s.k = 1 then (⟨t.vars.set s.v.toNat (evE t.vars s.e), Sts.of r⟩, bs, [], 1)
    else if s.k = 6 then (⟨t.vars, Sts.of r⟩, bs, [], 2)
    else (⟨t.vars, Sts.of r⟩, bs, [evE t.vars s.e], 1)
theorem vaS_one {boxes : Int} {s : St1} (h : vaS boxes (Sts.of [s]) = true) : okT boxes 3 s = true ∧ ctT s ≤ 16 := by
  unfold vaS at h
  rw [okS_mem, Sts.list_of, ctS_of] at h
  simp at h
  exact h
theorem okT_facts {boxes nest : Int} {s : St1} (h : okT boxes nest s = true) : (1 ≤ s.k ∧ s.k ≤ 7) ∧ (s.k ≠ 5 → s.k ≠ 6 → okE 5 s.e = true) ∧ (s.k = 1 ∨ s.k = 5 → 0 ≤ s.v ∧ s.v < 4) ∧ (s.k = 4 ∨ s.k = 5 → 0 ≤ s.b ∧ s.b < boxes) ∧ (s.k = 4 → s.v = 0) := by
  unfold okT okS1 at h
  simp only [Bool.and_eq_true] at h
  have h := h.1
  unfold stV at h
  by_cases k1 : s.k = 1
  · simp [k1] at h ⊢; exact ⟨h.2, by omega⟩
  by_cases k2 : s.k = 2
  · simp [k2] at h ⊢; exact h.2
  by_cases k3 : s.k = 3
  · simp [k3] at h ⊢; exact h.2
  by_cases k4 : s.k = 4
  · simp [k4] at h ⊢; exact ⟨h.2, by omega⟩
  by_cases k5 : s.k = 5
  · simp [k5] at h ⊢; omega
  by_cases k6 : s.k = 6
  · simp [k6] at h ⊢
  by_cases k7 : s.k = 7
  · simp [k7] at h ⊢; exact h.2
  simp [k1, k2, k3, k4, k5, k6, k7] at h
theorem vaT_facts {boxes : Int} {t : Tk} (h : vaT boxes t = true) : t.vars.length = 4 ∧ t.vars.all isW = true ∧ (∀ s ∈ t.rest.list, okT boxes 3 s = true ∧ ctT s ≤ 16) ∧ cpS t.rest = true := by
  unfold vaT at h
  simp only [Bool.and_eq_true, decide_eq_true_eq] at h
  have h3 : ∀ s ∈ t.rest.list, okT boxes 3 s = true ∧ ctT s ≤ 16 := fun s hs => vaS_one (List.all_eq_true.1 h.2 s hs)
  refine ⟨h.1.1, h.1.2, h3, ?_⟩
  refine cp_of_okS (boxes := boxes) (nest := 3) ?_
  rw [okS_mem, List.all_eq_true]
  exact fun s hs => (h3 s hs).1
theorem IV.nilp {ok H v} (h : v = .nils ∨ v = .esl) : IV ok H v [] := ⟨by simp, rfl, .inl ⟨rfl, h⟩⟩
section
variable {ok : Nat → Prop} {H : AH} {K : AV → AH → Prop} {w : Fk K} {c : List AV} {t : Tk} {s : St1} {r : List St1} {bs : List Bx} {vb : AV}
end
end Go.Proofs.YtcibjklpaljadaaGreat.AM
namespace Go.Proofs.YtcibjklpaljadaaGreat.AM
set_option linter.unusedSimpArgs false
set_option linter.unusedVariables false
set_option maxRecDepth 100000
set_option maxHeartbeats 2000000
open Go
section
variable {H : AH} {K : AV → AH → Prop} {w : Fk K}
end
section
variable {H : AH} {K : AV → AH → Prop} {w : Fk K} {o1 o2 : Nat → Prop}
end
end Go.Proofs.YtcibjklpaljadaaGreat.AM
namespace Go.Proofs.YtcibjklpaljadaaGreat.AM
set_option linter.unusedSimpArgs false
set_option linter.unusedVariables false
set_option maxRecDepth 100000
set_option maxHeartbeats 2000000
open Go
theorem Ext.st {r : Nat} {H H' : AH} (h : Ext H H') : St r H H' := ⟨h.1, fun b hb _ => h.2 b hb⟩
theorem Rdx.ext {H H' : AH} {r : Nat} {m : Int} (h : Rdx H r m) (k : Ext H H') : Rdx H' r m := h.same k.1 fun b hb => k.2 b (by have := h.lt; omega)
theorem DE.st {base r : Nat} {H H' : AH} {v a} (h : DE base H v a) (k : St r H H') (hr : r < base) : DE base H' v a := h.mono k.1 (fun b hb hb2 => k.2 b hb2 (by omega)) (Nat.le_refl _)
theorem EV.st {base r : Nat} {H H' : AH} {v a} (h : EV (fun b => base ≤ b) H v a) (k : St r H H') (hr : r < base) : EV (fun b => base ≤ b) H' v a := h.mono k.1 (fun b hb hb2 => k.2 b hb2 (by omega)) (fun _ h _ => h)
section
variable {H : AH} {K : AV → AH → Prop} {r : Nat} {w : Fk K} {m : Int}
end
end Go.Proofs.YtcibjklpaljadaaGreat.AM
namespace Go.Proofs.YtcibjklpaljadaaGreat.AM
set_option linter.unusedSimpArgs false
set_option linter.unusedVariables false
set_option maxRecDepth 100000
set_option maxHeartbeats 2000000
open Go
theorem S1.st {base r : Nat} {H H' : AH} {v a} (h : S1 (fun b => base ≤ b) H v a) (k : St r H H') (hr : r < base) : S1 (fun b => base ≤ b) H' v a := h.mono k.1 (fun b hb hb2 => k.2 b hb2 (by omega)) (fun _ h _ => h)
theorem S1.up {base base' : Nat} {H : AH} {v a} (h : S1 (fun b => base ≤ b) H v a) (hb : base' ≤ base) : S1 (fun b => base' ≤ b) H v a := h.mono (Nat.le_refl _) (fun _ _ _ => rfl) (fun b h _ => by omega)
theorem SV.st {base r : Nat} {H H' : AH} {v a} (h : SV (fun b => base ≤ b) H v a) (k : St r H H') (hr : r < base) : SV (fun b => base ≤ b) H' v a := h.mono k.1 (fun b hb hb2 => k.2 b hb2 (by omega)) (fun _ h _ => h)
theorem SV.up {base base' : Nat} {H : AH} {v a} (h : SV (fun b => base ≤ b) H v a) (hb : base' ≤ base) : SV (fun b => base' ≤ b) H v a := h.mono (Nat.le_refl _) (fun _ _ _ => rfl) (fun b h _ => by omega)
theorem S1.put {base b : Nat} {H : AH} {v a o} (h : S1 (fun b => base ≤ b) H v a) (hb : b < base) : S1 (fun b => base ≤ b) (H.put b o) v a := h.mono (Nat.le_refl _) (fun x hx _ => by rw [put_bk, if_neg (by omega)]) (fun _ h _ => h)
section
variable {H : AH} {K : AV → AH → Prop} {r : Nat} {w : Fk K} {m : Int}
end
end Go.Proofs.YtcibjklpaljadaaGreat.AM
namespace Go.Proofs.YtcibjklpaljadaaGreat.AM
set_option linter.unusedSimpArgs false
set_option linter.unusedVariables false
set_option maxRecDepth 100000
set_option maxHeartbeats 2000000
open Go
theorem GrS.app_lb {base G v n sz cs B} (h : GrS base G v n sz cs B) {k : Nat} {new : List AV} {v' : AV} {G' : AH} (ha : aapp G sz v k new = some (v', G')) (hk : 0 < k) : ∃ b c, v' = .sl b 0 (n + k) (.lb c sz) := by
  have h0 : ¬ k = 0 := by omega
  obtain ⟨h1, h2, ⟨rfl, rfl⟩ | ⟨h4, h5, ⟨rfl, h6⟩ | ⟨c, ex, rfl, h7, h8, h9⟩⟩⟩ := h
  · unfold aapp at ha
    simp only [if_neg h0] at ha
    split at ha
    · simp only [Option.some.injEq, Prod.mk.injEq] at ha
      exact ⟨_, _, by rw [← ha.1, Nat.zero_add]⟩
    · cases ha
  · unfold aapp at ha
    simp only [if_neg h0] at ha
    rw [if_neg (show ¬ n + k ≤ n by omega)] at ha
    split at ha
    · cases ha
    · split at ha
      · simp only [Option.some.injEq, Prod.mk.injEq] at ha
        exact ⟨_, _, ha.1.symm⟩
      · cases ha
  · unfold aapp at ha
    simp only [if_neg h0] at ha
    rw [if_neg (show ¬ (sz ≠ sz) by simp)] at ha
    split at ha
    · cases ha
    · split at ha
      · obtain ⟨G2, _, e⟩ := map_some ha
        simp only [Prod.mk.injEq] at e
        exact ⟨_, _, e.1.symm⟩
      · split at ha
        · split at ha
          · simp only [Option.some.injEq, Prod.mk.injEq] at ha
            exact ⟨_, _, ha.1.symm⟩
          · cases ha
        · cases ha
end Go.Proofs.YtcibjklpaljadaaGreat.AM
namespace Go.Proofs.YtcibjklpaljadaaGreat.AM
set_option linter.unusedSimpArgs false
set_option linter.unusedVariables false
set_option maxRecDepth 100000
set_option maxHeartbeats 2000000
open Go
section
variable {H : AH} {K : AV → AH → Prop} {r : Nat} {w : Fk K} {m boxes : Int} {lp : Bool} {nest : Nat}
theorem GrS.st {base r : Nat} {G G' : AH} {v : AV} {n sz : Nat} {cs : List AV} {B : Nat} (h : GrS base G v n sz cs B) (k : St r G G') (hr : r < base) : GrS base G' v n sz cs B :=
  h.only (bs := [r]) ⟨k.1, fun b hb hr => k.2 b hb (by simpa using hr)⟩ (by simp; omega)
end
end Go.Proofs.YtcibjklpaljadaaGreat.AM
namespace Go.Proofs.YtcibjklpaljadaaGreat.AM
set_option linter.unusedSimpArgs false
set_option linter.unusedVariables false
set_option maxRecDepth 100000
set_option maxHeartbeats 2000000
open Go
theorem SF.take {ok H f cs} (h : SF ok H f cs) (i : Nat) : SF ok H (Sts.of (f.list.take i)) (cs.take (i * 8)) := SF_of.2 ((SF_LF.1 h).take i)
theorem GrS.cut {base G n cs B b c} (h : GrS base G (.sl b 0 n (.lb c 8)) n 8 cs B) {j : Nat} (hj : j ≤ n) : b = B ∧ GrS base G (.sl b 0 j (.lb c 8)) j 8 (cs.take (j * 8)) B := by
  obtain ⟨h1, h2, h3⟩ := h
  rcases h3 with ⟨h4, _⟩ | ⟨h4, h5, ⟨h6, _⟩ | ⟨c', ex, h6, h7, h8, h9⟩⟩
  · cases h4
  · cases h6
  · simp only [AV.sl.injEq, ACap.lb.injEq, and_true, true_and] at h6
    obtain ⟨rfl, rfl⟩ := h6
    have hm := Nat.mul_le_mul_right 8 hj
    have e1 : (cs.take (j * 8)).length = j * 8 := by rw [List.length_take]; omega
    refine ⟨rfl, by omega, e1, .inr ⟨h4, h5, .inr ⟨c, cs.drop (j * 8) ++ ex, rfl, by omega, ?_, ?_⟩⟩⟩
    · rw [List.length_append, List.length_drop, h8, h2, Nat.sub_mul, Nat.sub_mul]
      have := Nat.mul_le_mul_right 8 h7
      omega
    · rw [← List.append_assoc, List.take_append_drop]; exact h9
section
variable {H : AH} {K : AV → AH → Prop} {r : Nat} {w : Fk K} {m boxes : Int}
end
end Go.Proofs.YtcibjklpaljadaaGreat.AM
namespace Go.Proofs.YtcibjklpaljadaaGreat.AM
set_option linter.unusedSimpArgs false
set_option linter.unusedVariables false
set_option maxRecDepth 100000
set_option maxHeartbeats 2000000
open Go
section
variable {H : AH} {K : AV → AH → Prop} {r : Nat} {w : Fk K} {m boxes : Int}
theorem GrS.storeAt {base G v n sz cs B} (h : GrS base G v n sz cs B) {o : Nat} {c : List AV} (hc : 0 < c.length) (ho : o + c.length ≤ n * sz) :
    ∃ cap G', v = .sl B 0 n cap ∧ G.store B o c = some G' ∧ GrS base G' v n sz (splice cs o c) B ∧ Only [B] G G' ∧ base ≤ B ∧ B < G.n := by
  obtain ⟨h1, h2, h3⟩ := h
  have hl : (splice cs o c).length = n * sz := by unfold splice; rw [List.length_append, List.length_append, List.length_take, List.length_drop, h2]; omega
  rcases h3 with ⟨rfl, rfl⟩ | ⟨h4, h5, ⟨rfl, h6⟩ | ⟨cc, ex, rfl, h7, h8, h9⟩⟩
  · rw [Nat.zero_mul] at ho; omega
  · have st := store_bk (o := o) (vs := c) h6 (by omega)
    exact ⟨_, _, rfl, st, ⟨h1, hl, .inr ⟨h4, h5, .inl ⟨rfl, put_same⟩⟩⟩, Only.refl.put (by simp), h4, h5⟩
  · have st := store_bk (o := o) (vs := c) h9 (by simp; omega)
    refine ⟨_, _, rfl, st, ⟨h1, hl, .inr ⟨h4, h5, .inr ⟨cc, ex, rfl, h7, h8, ?_⟩⟩⟩, Only.refl.put (by simp), h4, h5⟩
    rw [put_same]
    have : splice (cs ++ ex) o c = splice cs o c ++ ex := by
      unfold splice
      rw [List.take_append_of_le_length (by omega), List.drop_append_of_le_length (by omega)]; simp
    rw [this]
theorem TC.st {base r : Nat} {H H' : AH} {c : List AV} {t : Tk} (h : TC (fun b => base ≤ b) H c t) (k : St r H H') (hr : r < base) : TC (fun b => base ≤ b) H' c t := h.mono k.1 (fun b hb hb2 => k.2 b hb2 (by omega)) (fun _ h _ => h)
end
end Go.Proofs.YtcibjklpaljadaaGreat.AM
namespace Go.Proofs.YtcibjklpaljadaaGreat.AM
set_option linter.unusedSimpArgs false
set_option linter.unusedVariables false
set_option maxRecDepth 100000
set_option maxHeartbeats 2000000
open Go
def ISl (base : Nat) (G : AH) (v : AV) (l : List Int) (I : Nat) : Prop :=
  l.length ≤ 1000 ∧ ((v = .nils ∧ l = []) ∨ (base ≤ I ∧ I < G.n ∧ ((v = .sl I 0 0 (.ex 0) ∧ l = [] ∧ G.bk I = some ⟨[], true⟩) ∨
    ∃ c ex, v = .sl I 0 l.length (.lb c 1) ∧ l.length ≤ c ∧ ex.length = c - l.length ∧ G.bk I = some ⟨Ints l ++ ex, true⟩)))
theorem ISl.flat {base G v l I} (h : ISl base G v l I) : v.flat = true := by
  obtain ⟨_, ⟨rfl, _⟩ | ⟨_, _, ⟨rfl, _⟩ | ⟨c, ex, rfl, _⟩⟩⟩ := h <;> rfl
theorem ISl.grs {base G v l I} (h : ISl base G v l I) : GrS base G v l.length 1 (Ints l) I := by
  obtain ⟨h1, ⟨rfl, rfl⟩ | ⟨h2, h3, ⟨rfl, rfl, h4⟩ | ⟨c, ex, rfl, h5, h6, h7⟩⟩⟩ := h
  · exact GrS.nils
  · exact ⟨by simp, rfl, .inr ⟨h2, h3, .inl ⟨rfl, h4⟩⟩⟩
  · exact ⟨by omega, by rw [Ints_len]; omega, .inr ⟨h2, h3, .inr ⟨c, ex, rfl, h5, by omega, h7⟩⟩⟩
theorem ISl.only {base G G' v l I bs} (h : ISl base G v l I) (k : Only bs G G') (hb : ∀ b ∈ bs, b ∉ grB v I) : ISl base G' v l I := by
  obtain ⟨h1, h2 | ⟨h3, h4, h5⟩⟩ := h
  · exact ⟨h1, .inl h2⟩
  · have hI : I ∉ bs := fun hm => hb I hm (by rcases h5 with ⟨rfl, _⟩ | ⟨c, ex, rfl, _⟩ <;> simp [grB])
    have e : G'.bk I = G.bk I := k.2 I h4 hI
    rw [← e] at h5
    exact ⟨h1, .inr ⟨h3, Nat.lt_of_lt_of_le h4 k.1, h5⟩⟩
theorem ISl.mem {base G v l I} (h : ISl base G v l I) {b : Nat} (hb : b ∈ grB v I) : b = I ∧ base ≤ I ∧ I < G.n := h.grs.mem hb
theorem ISl.sees {base G v l I} (h : ISl base G v l I) : SeesZ G v l := (h.grs.iv).sees
theorem ISl.push1 {base G v l I} (h : ISl base G v l I) (hb : base ≤ G.n) {x : Int} (hl : l.length < 1000) :
    ∃ v' G' I', aapp (G.push [.I x]) 1 v 1 [.I x] = some (v', G') ∧ ISl base G' v' (l ++ [x]) I' ∧ ((I' = I ∧ I ∈ grB v I) ∨ I' = G.n + 1) ∧ Only (grB v I) G G' ∧ v'.flat = true ∧ G.n + 1 ≤ G'.n := by
  obtain ⟨v', G', I', a1, a2, a3, a4⟩ := (h.grs.ext (Ext.push G [.I x])).app (by simp; omega) (k := 1) (new := [.I x]) rfl (by omega)
  obtain ⟨b, c, e⟩ := (h.grs.ext (Ext.push G [.I x])).app_lb a1 (by omega)
  refine ⟨v', G', I', a1, ?_, by simpa using a3, (show Only (grB v I) G (G.push [.I x]) from Only.refl.push).trans a4, a2.flat, by have := a4.1; simpa using this⟩
  obtain ⟨q1, q2, q3⟩ := a2
  refine ⟨by simp; omega, ?_⟩
  rcases q3 with ⟨q4, q5⟩ | ⟨q4, q5, ⟨q6, _⟩ | ⟨c', ex, q6, q7, q8, q9⟩⟩
  · omega
  · rw [e] at q6; simp at q6
  · exact .inr ⟨q4, q5, .inr ⟨c', ex, by simpa using q6, by simpa using q7, by simpa using q8, by rw [← Ints_snoc]; exact q9⟩⟩
theorem ISl.pop {base G v I} {y : Int} {l : List Int} (h : ISl base G v (y :: l) I) :
    ∃ v0 v1 v' G', aslice 1 v none (some (.I 0)) none = some v0 ∧ aslice 1 v (some (.I 1)) none none = some v1 ∧ alen v1 = some l.length ∧ AM.elems G 1 v1 = some (Ints l) ∧ aapp G 1 v0 l.length (Ints l) = some (v', G') ∧ ISl base G' v' l I ∧ Only [I] G G' ∧ v'.flat = true ∧ base ≤ I ∧ I < G.n ∧ grB v I = [I] := by
  obtain ⟨h1, ⟨_, h2⟩ | ⟨h2, h3, ⟨_, h4, _⟩ | ⟨c, ex, rfl, h5, h6, h7⟩⟩⟩ := h
  · cases h2
  · cases h4
  · have hl : (y :: l).length = l.length + 1 := rfl
    have h1' : l.length + 1 ≤ 1000 := h1
    have h5' : l.length + 1 ≤ c := h5
    have h6' : ex.length = c - (l.length + 1) := h6
    rw [hl]
    have e0 : aslice 1 (.sl I 0 (l.length + 1) (.lb c 1)) none (some (.I 0)) none = some (.sl I 0 0 (.lb c 1)) := by simp [aslice, bnd, aint]
    by_cases hn : l.length = 0
    · have : l = [] := List.eq_nil_of_length_eq_zero hn
      subst this
      refine ⟨_, .esl, .sl I 0 0 (.lb c 1), G, e0, by simp [aslice, bnd, aint], rfl, rfl, by simp [aapp], ⟨by simp, .inr ⟨h2, h3, .inr ⟨c, .I y :: ex, rfl, Nat.zero_le _, by simp at h6' ⊢; omega, by simpa [Ints] using h7⟩⟩⟩, Only.refl, rfl, h2, h3, rfl⟩
    · have e1 : aslice 1 (.sl I 0 (l.length + 1) (.lb c 1)) (some (.I 1)) none none = some (.sl I 1 l.length (.lb (c - 1) 1)) := by
        simp [aslice, bnd, aint]
        exact fun e => hn (by rw [e]; rfl)
      have st := store_bk (o := 0) (vs := Ints l) h7 (by simp [Ints]; omega)
      have es : splice (Ints (y :: l) ++ ex) 0 (Ints l) = Ints l ++ (Ints (y :: l) ++ ex).drop l.length := by
        unfold splice; simp [Ints_len]
      rw [es] at st
      refine ⟨_, _, .sl I 0 l.length (.lb c 1), G.put I (some ⟨Ints l ++ (Ints (y :: l) ++ ex).drop l.length, true⟩), e0, e1, rfl, ?_, ?_, ⟨by omega, .inr ⟨h2, h3, .inr ⟨c, _, rfl, by omega, ?_, put_same⟩⟩⟩, Only.refl.put (by simp), rfl, h2, h3, rfl⟩
      · show AH.loadN G I 1 (l.length * 1) = _
        rw [loadN_bk h7]
        unfold seg
        rw [if_pos (by simp [Ints]; omega)]
        simp [Ints]
      · unfold aapp
        simp only [if_neg hn, Nat.zero_add, Nat.zero_mul]
        rw [if_neg (show ¬ big < l.length by unfold big; omega), if_neg (show ¬ (1 ≠ 1) by simp), if_pos (by omega), st]; rfl
      · rw [List.length_drop, List.length_append, Ints_len, hl, h6']; omega
def PL (ok : Nat → Prop) (H : AH) : AV → List St1 → Prop
  | p, [] => p = .nilp
  | p, s :: r => ∃ q sb so c nx, p = .ptr q 0 ∧ ok q ∧ q < H.n ∧ H.bk q = some ⟨[.ptr sb so, nx], true⟩ ∧ ok sb ∧ sb < H.n ∧ H.loadN sb so 8 = some c ∧ S1 ok H c s ∧ nx.flat = true ∧ PL ok H nx r
theorem PL.mono {ok ok' : Nat → Prop} {H H' : AH} (hn : H.n ≤ H'.n) (hk : ∀ b, ok b → b < H.n → H'.bk b = H.bk b) (ho : ∀ b, ok b → b < H.n → ok' b) : ∀ {l p}, PL ok H p l → PL ok' H' p l
  | [], _, h => h
  | s :: r, p, ⟨q, sb, so, c, nx, h1, h2, h3, h4, h5, h6, h7, h8, h9, h10⟩ =>
    ⟨q, sb, so, c, nx, h1, ho q h2 h3, Nat.lt_of_lt_of_le h3 hn, (hk q h2 h3).trans h4, ho sb h5 h6, Nat.lt_of_lt_of_le h6 hn, by unfold AH.loadN at h7 ⊢; rw [hk sb h5 h6]; exact h7, h8.mono hn hk ho, h9, PL.mono hn hk ho h10⟩
theorem PL.ext {ok : Nat → Prop} {H H' : AH} {p l} (h : PL ok H p l) (k : Ext H H') : PL ok H' p l := h.mono k.1 (fun b _ hb => k.2 b hb) (fun _ h _ => h)
theorem PL.flat {ok : Nat → Prop} {H : AH} {p : AV} : ∀ {l}, PL ok H p l → p.flat = true
  | [], h => by cases h; rfl
  | s :: r, ⟨q, sb, so, c, nx, h1, _⟩ => by subst h1; rfl
end Go.Proofs.YtcibjklpaljadaaGreat.AM
namespace Go.Proofs.YtcibjklpaljadaaGreat.AM
set_option linter.unusedSimpArgs false
set_option linter.unusedVariables false
set_option maxRecDepth 100000
set_option maxHeartbeats 2000000
open Go
theorem K_iBox_put {H : AH} {K : AV → AH → Prop} {w : Fk K} {B o base I : Nat} {room x : Int} {vi : AV} {l : List Int} (hl : H.loadN B o 2 = some [.I room, vi]) (hB : B < H.n) (hw : ∃ cs, H.bk B = some ⟨cs, true⟩ ∧ o + 2 ≤ cs.length) (hi : ISl base H vi l I) (hbase : base ≤ H.n) (hBI : B ∉ grB vi I) (hr : l.length ≤ room ∧ room ≤ 100)
    (k1 : (l.length : Int) = room → K (.b false) H)
    (k2 : (l.length : Int) < room → ∀ v' I' H1 H', ISl base H1 v' (l ++ [x]) I' → ((I' = I ∧ I ∈ grB vi I) ∨ (H.n ≤ I')) → Only (grB vi I) H H1 → B < H1.n → I' < H1.n → H1.store B (o + 1) [v'] = some H' → v'.flat = true → K (.b true) H') : CallF Cd f_iBox_put [.ptr B o, .I x] H K w := by
  rw [CallF_eq e_iBox_put rfl]
  have l0 := loadN_get hl (i := 0) (by omega)
  have l1 := loadN_get hl (i := 1) (by omega)
  simp at l0 l1
  have ha := hi.sees.1
  by_cases hq : (l.length : Int) = room
  · have hq' : ¬ (l.length : Int) ≠ room := by omega
    simp (disch := omega) [l0, l1, ha, hq]
    exact k1 hq
  · obtain ⟨v', G', I', a1, a2, a3, a4, a5, n4⟩ := hi.push1 hbase (x := x) (by omega)
    obtain ⟨cs, q1, q2⟩ := hw
    have q3 : G'.bk B = some ⟨cs, true⟩ := a4.bk hB hBI q1
    obtain ⟨H', st⟩ : ∃ H', G'.store B (o + 1) [v'] = some H' := ⟨_, store_bk (o := o + 1) (vs := [v']) q3 (by simp; omega)⟩
    simp (disch := omega) [l0, l1, ha, hq, loadN_push, a1, flat_cells a5, flat_tup a5, st]
    refine k2 (by omega) v' I' G' _ a2 (a3.imp id (fun q => by omega)) a4 (by omega) ?_ st a5
    rcases a2.2 with q | q
    · have := congrArg List.length q.2; simp at this
    · exact q.2.1
theorem K_iBox_take {H : AH} {K : AV → AH → Prop} {w : Fk K} {B o base I : Nat} {room : Int} {vi : AV} {l : List Int} (hl : H.loadN B o 2 = some [.I room, vi]) (hB : B < H.n) (hw : ∃ cs, H.bk B = some ⟨cs, true⟩ ∧ o + 2 ≤ cs.length) (hi : ISl base H vi l I) (hBI : B ∉ grB vi I)
    (k1 : l = [] → K (.tup [.I 0, .b false]) H)
    (k2 : ∀ y q, l = y :: q → ∀ v' H1 H', ISl base H1 v' q I → Only [I] H H1 → grB vi I = [I] → B < H1.n → H1.store B (o + 1) [v'] = some H' → v'.flat = true → K (.tup [.I y, .b true]) H') : CallF Cd f_iBox_take [.ptr B o] H K w := by
  rw [CallF_eq e_iBox_take rfl]
  have l0 := loadN_get hl (i := 0) (by omega)
  have l1 := loadN_get hl (i := 1) (by omega)
  simp at l0 l1
  have ha := hi.sees.1
  cases l with
  | nil =>
    have ha' : alen vi = some 0 := ha
    simp (disch := omega) [l0, l1, ha']
    exact k1 rfl
  | cons y q =>
    obtain ⟨v0, v1, v', G', a1, a2, a3, a4, a5, a6, a7, a8, a9, a10, a11⟩ := hi.pop
    obtain ⟨cs, q1, q2⟩ := hw
    have hbi : B ∉ [I] := by rw [← a11]; exact hBI
    have q3 : G'.bk B = some ⟨cs, true⟩ := a7.bk hB hbi q1
    obtain ⟨H', st⟩ : ∃ H', G'.store B (o + 1) [v'] = some H' := ⟨_, store_bk (o := o + 1) (vs := [v']) q3 (by simp; omega)⟩
    obtain ⟨bv, ov, s1, s2, s3⟩ := hi.sees.at (i := 0) (by simp)
    simp at s3
    have ha' : alen vi = some (q.length + 1) := ha
    have hz : ¬ ((q.length : Int) + 1 = 0) := by omega
    have hz2 : ¬ ((q.length + 1 : Nat) : Int) = 0 := by omega
    have hl1 := hi.1
    simp at hl1 s1
    simp (disch := omega) [-AM.elems, l0, l1, ha', hz, s1, s3, a1, a2, a3, a4, a5, flat_cells a8, flat_tup a8, st]
    exact k2 y q rfl v' G' _ a6 a7 a11 (by have := a7.1; omega) st a8
end Go.Proofs.YtcibjklpaljadaaGreat.AM
namespace Go.Proofs.YtcibjklpaljadaaGreat.AM
set_option linter.unusedSimpArgs false
set_option linter.unusedVariables false
set_option maxRecDepth 100000
set_option maxHeartbeats 2000000
open Go
def cellsB : List Bx → List (AV × Nat) → List AV
  | x :: l, p :: r => .I x.room :: p.1 :: cellsB l r
  | _, _ => []
theorem cellsB_len : ∀ {l : List Bx} {r : List (AV × Nat)}, r.length = l.length → (cellsB l r).length = l.length * 2
  | [], [], _ => rfl
  | x :: l, p :: r, h => by have := cellsB_len (l := l) (r := r) (by simpa using h); simp [cellsB, this]; omega
  | [], p :: r, h => by simp at h
  | x :: l, [], h => by simp at h
theorem cellsB_get : ∀ {l : List Bx} {r : List (AV × Nat)} {i : Nat} {x : Bx} {p : AV × Nat}, l[i]? = some x → r[i]? = some p → seg (cellsB l r) (i * 2) 2 = some [.I x.room, p.1]
  | x :: l, p :: r, 0, _, _, h1, h2 => by simp at h1 h2; subst h1 h2; simp [cellsB, seg]
  | x :: l, p :: r, i + 1, y, q, h1, h2 => by
    have := cellsB_get (l := l) (r := r) (i := i) (by simpa using h1) (by simpa using h2)
    rw [← this]
    unfold seg
    rw [show (i + 1) * 2 = i * 2 + 2 by omega]
    simp only [cellsB, List.length_cons, List.drop_succ_cons]
    by_cases hq : i * 2 + 2 ≤ (cellsB l r).length
    · rw [if_pos (by omega), if_pos hq]
    · rw [if_neg (by omega), if_neg hq]
  | [], _, i, _, _, h1, _ => by simp at h1
  | _ :: _, [], i, _, _, _, h2 => by simp at h2
theorem cellsB_set : ∀ {l : List Bx} {r : List (AV × Nat)} {i : Nat} {x : Bx} {p : AV × Nat} {q : List Int} {v' : AV} {I' : Nat}, l[i]? = some x → r[i]? = some p → splice (cellsB l r) (i * 2 + 1) [v'] = cellsB (l.set i ⟨x.room, q⟩) (r.set i (v', I'))
  | x :: l, p :: r, 0, _, _, _, _, _, h1, h2 => by simp at h1 h2; subst h1 h2; simp [cellsB, splice]
  | x :: l, p :: r, i + 1, y, q', q, v', I', h1, h2 => by
    have := cellsB_set (l := l) (r := r) (i := i) (q := q) (v' := v') (I' := I') (by simpa using h1) (by simpa using h2)
    simp only [List.set_cons_succ, cellsB]
    rw [← this]
    unfold splice
    rw [show (i + 1) * 2 + 1 = i * 2 + 1 + 2 by omega, show i * 2 + 1 + 2 + [v'].length = i * 2 + 1 + [v'].length + 2 by simp]
    simp [List.take_succ_cons]
  | [], _, i, _, _, _, _, _, h1, _ => by simp at h1
  | _ :: _, [], i, _, _, _, _, _, _, h2 => by simp at h2
def RB (base : Nat) (H : AH) (v : AV) (bs : List Bx) (B : Nat) (rs : List (AV × Nat)) : Prop :=
  rs.length = bs.length ∧ GrS base H v bs.length 2 (cellsB bs rs) B ∧ (∀ (i : Nat) (x : Bx) (p : AV × Nat), bs[i]? = some x → rs[i]? = some p → ISl base H p.1 x.items p.2 ∧ B ∉ grB p.1 p.2) ∧
    (∀ (i j : Nat) (p q : AV × Nat), i ≠ j → rs[i]? = some p → rs[j]? = some q → ∀ b ∈ grB p.1 p.2, b ∉ grB q.1 q.2) ∧ (bs = [] → v = .nils)
def fpB (B : Nat) (rs : List (AV × Nat)) : List Nat := if rs = [] then [] else B :: rs.flatMap fun p => grB p.1 p.2
theorem mem_fpB {B : Nat} {rs : List (AV × Nat)} {b : Nat} : b ∈ fpB B rs ↔ (rs ≠ [] ∧ b = B) ∨ ∃ p ∈ rs, b ∈ grB p.1 p.2 := by
  unfold fpB
  by_cases h : rs = []
  · simp [h]
  · simp [h]
theorem RB.onlyA {base H H' v bs B rs cs} (h : RB base H v bs B rs) (k : Only cs H H') (hc : ∀ b ∈ cs, b < base ∨ b ∉ fpB B rs) : RB base H' v bs B rs := by
  obtain ⟨h1, h2, h3, h4⟩ := h
  refine ⟨h1, ?_, fun i x p hx hp => ⟨(h3 i x p hx hp).1.only k fun b hb hm => ?_, (h3 i x p hx hp).2⟩, h4⟩
  · by_cases hbs : bs = []
    · have := h4.2 hbs
      subst this hbs
      exact ⟨h2.1, h2.2.1, .inl ⟨rfl, rfl⟩⟩
    refine h2.only k fun b hb => ?_
    rcases hc b hb with q | q
    · exact .inl q
    · exact .inr (fun e => q (by rw [e, mem_fpB]; exact .inl ⟨fun e => hbs (List.eq_nil_of_length_eq_zero (by rw [← h1, e]; rfl)), rfl⟩))
  · rcases hc b hb with q | q
    · have := (h3 i x p hx hp).1.mem hm; omega
    · exact q (mem_fpB.2 (.inr ⟨p, List.mem_of_getElem? hp, hm⟩))
theorem RB.only {base H H' v bs B rs cs} (h : RB base H v bs B rs) (k : Only cs H H') (hc : ∀ b ∈ cs, b < base ∨ b ∉ fpB B rs) (_ : bs ≠ []) : RB base H' v bs B rs := h.onlyA k hc
theorem ne_nil_of_get {α : Type} {l : List α} {i : Nat} {x : α} (h : l[i]? = some x) : l ≠ [] := by rintro rfl; simp at h
theorem RB.at {base H v bs B rs} (h : RB base H v bs B rs) {i : Nat} {x : Bx} (hx : bs[i]? = some x) : ∃ p cap, rs[i]? = some p ∧ v = .sl B 0 bs.length cap ∧ base ≤ B ∧ B < H.n ∧ H.loadN B (i * 2) 2 = some [.I x.room, p.1] ∧ (∃ cs, H.bk B = some ⟨cs, true⟩ ∧ i * 2 + 2 ≤ cs.length) ∧ ISl base H p.1 x.items p.2 ∧ B ∉ grB p.1 p.2 := by
  obtain ⟨h1, h2, h3, h4⟩ := h
  have hi := (List.getElem?_eq_some_iff.1 hx).1
  obtain ⟨p, hp⟩ : ∃ p, rs[i]? = some p := ⟨_, List.getElem?_eq_getElem (by omega)⟩
  obtain ⟨q1, q2, q3⟩ := h2
  have hc := cellsB_get hx hp
  refine ⟨p, ?_⟩
  rcases q3 with ⟨_, q4⟩ | ⟨q4, q5, ⟨q6, q7⟩ | ⟨c, ex, q6, q7, q8, q9⟩⟩
  · omega
  · exact ⟨_, hp, q6, q4, q5, by rw [loadN_bk q7]; exact hc, ⟨_, q7, by omega⟩, h3 i x p hx hp⟩
  · refine ⟨_, hp, q6, q4, q5, ?_, ⟨_, q9, by simp; omega⟩, h3 i x p hx hp⟩
    rw [loadN_bk q9, ← hc]
    unfold seg
    rw [if_pos (by simp; omega), if_pos (by omega), List.drop_append_of_le_length (by omega), List.take_append_of_le_length (by simp; omega)]
theorem RB.upd {base : Nat} {H H1 H' : AH} {v : AV} {bs : List Bx} {B : Nat} {rs : List (AV × Nat)} (h : RB base H v bs B rs) {i : Nat} {x : Bx} {p : AV × Nat} (hx : bs[i]? = some x) (hp : rs[i]? = some p) {v' : AV} {I' : Nat} {l : List Int}
    (hi : ISl base H1 v' l I') (hI : (I' = p.2 ∧ p.2 ∈ grB p.1 p.2) ∨ H.n ≤ I') (hb : base ≤ H.n) (ho : Only (grB p.1 p.2) H H1) (hst : H1.store B (i * 2 + 1) [v'] = some H') :
    RB base H' v (bs.set i ⟨x.room, l⟩) B (rs.set i (v', I')) ∧ Only (fpB B rs) H H' ∧ H'.n = H1.n := by
  have hat := h.at hx
  obtain ⟨p', cap, e1, e2, e3, e4, e5, e6, e7, e8⟩ := hat
  rw [hp] at e1; cases e1
  obtain ⟨h1, h2, h3, h4⟩ := h
  have hi' := (List.getElem?_eq_some_iff.1 hx).1
  have g1 : GrS base H1 v bs.length 2 (cellsB bs rs) B := h2.only ho (fun b hb => .inr (fun e => e8 (by rw [← e]; exact hb)))
  obtain ⟨cap', H2, f1, f2, f3, f4, f5, f6⟩ := g1.storeAt (o := i * 2 + 1) (c := [v']) (by simp) (by simp; omega)
  rw [hst] at f2
  cases f2
  have hn : H'.n = H1.n := by
    unfold AH.store at hst
    split at hst
    · split at hst
      · cases hst; rfl
      · cases hst
    · cases hst
  have hmem : ∀ b, b ∈ grB v' I' → b = I' ∧ base ≤ I' ∧ I' < H1.n := fun b hb => hi.mem hb
  have oldm : ∀ (j : Nat) (y : Bx) (q : AV × Nat), bs[j]? = some y → rs[j]? = some q → ∀ b ∈ grB q.1 q.2, b < H.n := fun j y q hy hq b hb => by have := (h3 j y q hy hq).1.mem hb; omega
  have hBI : B ∉ grB v' I' := fun hm => by
    have := hmem B hm
    rcases hI with q | q
    · exact e8 (by rw [this.1, q.1]; exact q.2)
    · omega
  have gety : ∀ j q, rs[j]? = some q → ∃ y, bs[j]? = some y := fun j q hq => ⟨_, List.getElem?_eq_getElem (by have := (List.getElem?_eq_some_iff.1 hq).1; omega)⟩
  refine ⟨⟨by simp [h1], ?_, fun j y q hy hq => ?_, fun j j' q q' hjj hq hq' b hb hb' => ?_, fun e => absurd ((List.set_eq_nil_iff ..).1 e) (ne_nil_of_get hx)⟩, ?_, hn⟩
  · rw [← cellsB_set hx hp]; simpa using f3
  · by_cases hj : j = i
    · subst hj
      rw [List.getElem?_set_self (by omega)] at hy
      rw [List.getElem?_set_self (by omega)] at hq
      cases hy; cases hq
      exact ⟨hi.only f4 (by simpa using hBI), hBI⟩
    · rw [List.getElem?_set_ne (by omega)] at hy hq
      obtain ⟨k1, k2⟩ := h3 j y q hy hq
      exact ⟨(k1.only ho (fun b hb hm => h4.1 i j p q (by omega) hp hq b hb hm)).only f4 (by simpa using k2), k2⟩
  · by_cases hj : j = i
    · subst hj
      rw [List.getElem?_set_self (by omega)] at hq
      cases hq
      rw [List.getElem?_set_ne (by omega)] at hq'
      have := hmem b hb
      obtain ⟨y', hy'⟩ := gety j' q' hq'
      rcases hI with q | q
      · exact h4.1 j j' p q' hjj hp hq' b (by rw [this.1, q.1]; exact q.2) hb'
      · have := oldm j' y' q' hy' hq' b hb'; omega
    · rw [List.getElem?_set_ne (by omega)] at hq
      by_cases hj' : j' = i
      · subst hj'
        rw [List.getElem?_set_self (by omega)] at hq'
        cases hq'
        have := hmem b hb'
        obtain ⟨y, hy⟩ := gety j q hq
        rcases hI with z | z
        · exact h4.1 j j' q p hjj hq hp b hb (by rw [this.1, z.1]; exact z.2)
        · have := oldm j y q hy hq b hb; omega
      · rw [List.getElem?_set_ne (by omega)] at hq'
        exact h4.1 j j' q q' hjj hq hq' b hb hb'
  · refine Only.trans ⟨ho.1, fun b hb hm => ho.2 b hb (fun hq => hm ?_)⟩ ⟨f4.1, fun b hb hm => f4.2 b hb (fun hq => hm ?_)⟩
    · exact mem_fpB.2 (.inr ⟨p, List.mem_of_getElem? hp, hq⟩)
    · exact mem_fpB.2 (.inl ⟨ne_nil_of_get hp, by simpa using hq⟩)
end Go.Proofs.YtcibjklpaljadaaGreat.AM
namespace Go.Proofs.YtcibjklpaljadaaGreat.AM
set_option linter.unusedSimpArgs false
set_option linter.unusedVariables false
set_option maxRecDepth 100000
set_option maxHeartbeats 2000000
open Go
theorem app_newI {H : AH} {b : Nat} {l : List Int} (hb : H.bk b = some ⟨[], true⟩) (hbn : b < H.n) {base : Nat} (hbb : base ≤ b) (hl : l.length ≤ 1000) : ∃ v H' B, aapp H 1 (.sl b 0 0 (.ex 0)) l.length (Ints l) = some (v, H') ∧ Ext H H' ∧ ISl base H' v l B ∧ v.flat = true := by
  by_cases h0 : l.length = 0
  · have : l = [] := List.eq_nil_of_length_eq_zero h0
    subst this
    exact ⟨.sl b 0 0 (.ex 0), H, b, by simp [aapp], Ext.refl _, ⟨by simp, .inr ⟨hbb, hbn, .inl ⟨rfl, rfl, hb⟩⟩⟩, rfl⟩
  · refine ⟨.sl H.n 0 l.length (.lb l.length 1), H.push (Ints l), H.n, ?_, Ext.push _ _, ⟨hl, .inr ⟨by omega, Nat.lt_succ_self _, .inr ⟨l.length, [], rfl, Nat.le_refl _, by simp, by rw [List.append_nil]; exact push_new⟩⟩⟩, rfl⟩
    unfold aapp
    simp only [if_neg h0, Nat.zero_add, Nat.zero_mul]
    rw [if_neg (show ¬ big < l.length by unfold big; omega)]
    have hs : H.loadN b 0 0 = some [] := by rw [loadN_bk hb]; rfl
    simp only [hs, List.nil_append]
    rw [if_neg (by omega)]
theorem K_cloneI {H : AH} {K : AV → AH → Prop} {w : Fk K} {v : AV} {l : List Int} (h : Src H v l) (hl : l.length ≤ 1000) (k : ∀ v' H' B, ISl H.n H' v' l B → Ext H H' → K v' H') : CallF Cd f_slices_Clone_int_int [v] H K w := by
  rw [CallF_eq e_slices_Clone_int_int rfl]
  have e1 := (h.ext (Ext.push H [])).elems
  have e2 := h.sees.1
  obtain ⟨h0, ⟨rfl, rfl⟩ | h'⟩ := h
  · simp
    exact k _ H 0 ⟨by simp, .inl ⟨rfl, rfl⟩⟩ (Ext.refl _)
  · obtain ⟨v', H', B, a1, a2, a3, a4⟩ := app_newI (l := l) (push_new (H := H) (cs := [])) (Nat.lt_succ_self _) (Nat.le_refl _) hl
    rcases h' with ⟨rfl, rfl⟩ | ⟨b1, o1, c1, rfl, _⟩
    · simp only [List.length_nil] at a1
      simp [-AM.elems, e1, e2, a1]
      exact k _ _ B a3 ((Ext.push _ _).trans a2)
    · simp [-AM.elems, e1, e2, a1]
      exact k _ _ B a3 ((Ext.push _ _).trans a2)
theorem cellsB_snoc : ∀ {l : List Bx} {r : List (AV × Nat)} {x : Bx} {p : AV × Nat}, r.length = l.length → cellsB l r ++ [.I x.room, p.1] = cellsB (l ++ [x]) (r ++ [p])
  | [], [], _, _, _ => rfl
  | y :: l, q :: r, x, p, h => by simp only [cellsB, List.cons_append, cellsB_snoc (l := l) (r := r) (x := x) (p := p) (by simpa using h)]
  | [], _ :: _, _, _, h => by simp at h
  | _ :: _, [], _, _, h => by simp at h
theorem R_iboxesCopy_l {l : List Bx} (hll : l.length ≤ 1000) (hit : ∀ x ∈ l, x.items.length ≤ 1000) {base : Nat} {v : AV}
    {Q : Out → Env → AH → Prop} (m i : Nat) (him : i + m = l.length) {G : AH} {g : AV} {B : Nat} {rs : List (AV × Nat)} (hb : base ≤ G.n) (hv : BV (fun b => b < base) G v l) (hg : RB base G g (l.take i) B rs)
    (hQ : ∀ G' g' B' rs', RB base G' g' l B' rs' → (∀ b, b < base → G'.bk b = G.bk b) → G.n ≤ G'.n → Q (.brk 0) [(9, .b false), (3, g'), (6, v), (7, .I l.length), (8, .I l.length)] G') :
    W Cd (.loop c_iboxesCopy_l0) [(3, g), (6, v), (7, .I l.length), (8, .I i)] G Q := by
  induction m generalizing i G g B rs with
  | zero =>
    rw [W_loop_as c_iboxesCopy_l0.eq_1]
    have hi : i = l.length := by omega
    subst hi
    simp
    rw [List.take_length] at hg
    exact hQ G g B rs hg (fun _ _ => rfl) (Nat.le_refl _)
  | succ m ihm =>
    rw [W_loop_as c_iboxesCopy_l0.eq_1]
    have hi : i < l.length := by omega
    obtain ⟨s, hs⟩ : ∃ s, l[i]? = some s := ⟨_, List.getElem?_eq_getElem hi⟩
    have hmem := List.mem_of_getElem? hs
    have htl : (l.take i).length = i := by simp; omega
    obtain ⟨b, o, cap, vi, e1, ob, hbn, l1, iv⟩ := hv.at hs
    have q0 : (G.push [.I s.room, vi]).bk G.n = some ⟨[.I s.room, vi], true⟩ := push_new
    have x0 := Ext.push G [.I s.room, vi]
    have hlt : (i : Int) < l.length := by omega
    subst e1
    simp (disch := omega) [hlt, l1, AH.store, push_put, load_bk q0]
    refine K_cloneI (iv.ext x0).src (hit s hmem) fun vi' H1 B1 g1 x1 => ?_
    have f1 := g1.flat
    have n1 := x1.1
    simp only [push_n] at n1
    have x7 := (x0.trans x1).trans (Ext.push H1 [.I s.room, vi'])
    obtain ⟨r1, r2, r3, r4⟩ := hg
    obtain ⟨g', G', B', a1, a2, a3, a4⟩ := (r2.ext x7).app (by simp; omega) (k := 1) (new := [.I s.room, vi']) rfl (by omega)
    have n4 := a4.1
    simp only [push_n] at n4 a3
    have hmB : ∀ b, b ∈ grB g B → b = B ∧ base ≤ B ∧ B < G.n := fun b hb => r2.mem hb
    have hB : (B' = B ∧ base ≤ B ∧ B < G.n ∧ B ∈ grB g B) ∨ B' = H1.n + 1 := by
      rcases a3 with q | q
      · exact .inl ⟨q.1, (hmB _ q.2).2.1, (hmB _ q.2).2.2, q.2⟩
      · exact .inr q
    have hm1 : ∀ b, b ∈ grB vi' B1 → b = B1 ∧ G.n + 1 ≤ B1 ∧ B1 < H1.n := fun b hb => by have := g1.mem hb; simpa using this
    have old : ∀ (j : Nat) (q : AV × Nat), rs[j]? = some q → ∃ y, (l.take i)[j]? = some y ∧ ISl base G q.1 y.items q.2 ∧ B ∉ grB q.1 q.2 := fun j q hq => by
      obtain ⟨y, hy⟩ : ∃ y, (l.take i)[j]? = some y := ⟨_, List.getElem?_eq_getElem (by have := (List.getElem?_eq_some_iff.1 hq).1; omega)⟩
      exact ⟨y, hy, r3 j y q hy hq⟩
    have oldm : ∀ (j : Nat) (q : AV × Nat), rs[j]? = some q → ∀ b ∈ grB q.1 q.2, b < G.n := fun j q hq b hb => by obtain ⟨y, _, h1, _⟩ := old j q hq; have := h1.mem hb; omega
    have hrl : rs.length = i := by rw [r1, htl]
    simp (disch := omega) [x1, flat_cells f1, flat_tup f1, loadN_push, a1]
    have hk : ∀ b, b < base → G'.bk b = G.bk b := fun b hb' => by
      rw [a4.2 b (by simp; omega) (fun hq => by have := hmB b hq; omega), x7.2 b (by omega)]
    have rb : RB base G' g' (l.take (i + 1)) B' (rs ++ [(vi', B1)]) := by
      rw [take_snoc hs]
      refine ⟨by simp [r1], ?_, fun j y q hy hq => ?_, fun j j' q q' hjj hq hq' b hb1 hb2 => ?_, fun e => by simp at e⟩
      · rw [← cellsB_snoc (by rw [r1])]; simpa using a2
      · by_cases hj : j < i
        · rw [List.getElem?_append_left (by omega)] at hy hq
          obtain ⟨k1, k2⟩ := r3 j y q hy hq
          refine ⟨(k1.only (bs := []) x7.only (by simp)).only a4 (fun b hb1 hb2 => k2 (by rw [← (hmB b hb1).1]; exact hb2)), fun hm => ?_⟩
          rcases hB with z | z
          · exact k2 (by rw [← z.1]; exact hm)
          · have := oldm j q hq _ hm; omega
        · have hj' : j = i := by
            have := (List.getElem?_eq_some_iff.1 hq).1
            rw [List.length_append, hrl, List.length_singleton] at this; omega
          subst hj'
          rw [List.getElem?_append_right (by omega), htl, Nat.sub_self] at hy
          rw [List.getElem?_append_right (by omega), hrl, Nat.sub_self] at hq
          simp at hy hq
          subst hy hq
          refine ⟨?_, fun hm => by have := hm1 _ hm; omega⟩
          have g2 : ISl base H1 vi' s.items B1 := by
            obtain ⟨z1, z2 | ⟨z3, z4⟩⟩ := g1
            · exact ⟨z1, .inl z2⟩
            · exact ⟨z1, .inr ⟨by have : G.n + 1 ≤ B1 := z3; omega, z4⟩⟩
          exact (g2.only (bs := []) (Ext.push H1 [.I s.room, vi']).only (by simp)).only a4 (fun b hb1 hb2 => by have := hmB b hb1; have := hm1 b hb2; omega)
      · have key : ∀ (j : Nat) (q : AV × Nat), (rs ++ [(vi', B1)])[j]? = some q → (j < i ∧ rs[j]? = some q) ∨ (j = i ∧ q = (vi', B1)) := fun j q hq => by
          by_cases hj : j < i
          · rw [List.getElem?_append_left (by omega)] at hq; exact .inl ⟨hj, hq⟩
          · have := (List.getElem?_eq_some_iff.1 hq).1
            rw [List.length_append, hrl, List.length_singleton] at this
            have hj' : j = i := by omega
            subst hj'
            rw [List.getElem?_append_right (by omega), hrl, Nat.sub_self] at hq
            simp at hq
            exact .inr ⟨rfl, hq.symm⟩
        rcases key j q hq with ⟨u1, u2⟩ | ⟨u1, rfl⟩ <;> rcases key j' q' hq' with ⟨w1, w2⟩ | ⟨w1, rfl⟩
        · exact r4.1 j j' q q' hjj u2 w2 b hb1 hb2
        · have := oldm j q u2 b hb1; have := hm1 b hb2; omega
        · have := oldm j' q' w2 b hb2; have := hm1 b hb1; omega
        · omega
    have := ihm (i + 1) (by omega) (G := G') (g := g') (B := B') (rs := rs ++ [(vi', B1)]) (by omega) (hv.mono (by omega) (fun b hb' _ => hk b hb') (fun _ h _ => h)) rb (fun G2 g2 B2 rs2 u1 u2 u3 => hQ G2 g2 B2 rs2 u1 (fun b hb' => (u2 b hb').trans (hk b hb')) (by omega))
    simpa using this
theorem R_iboxesCopy {ok : Nat → Prop} {H : AH} {K : AV → AH → Prop} {w : Fk K} {v : AV} {l : List Bx} (h : BV ok H v l) (hl : l.length ≤ 1000) (hit : ∀ x ∈ l, x.items.length ≤ 1000)
    (k : ∀ v' B rs H', RB H.n H' v' l B rs → Ext H H' → K v' H') : CallF Cd f_iboxesCopy [v] H K w := by
  rw [CallF_eq e_iboxesCopy rfl]
  have hbig := h.big
  simp (disch := omega) [h.alen]
  have := R_iboxesCopy_l hl hit (Q := ?_) l.length 0 (by omega) (base := H.n) (G := H) (g := .nils) (B := H.n) (rs := []) (v := v) (Nat.le_refl _)
    (h.mono (Nat.le_refl _) (fun b _ hb => rfl) (fun b _ hb => hb)) ⟨rfl, GrS.nils, by simp, by simp, fun _ => rfl⟩ ?_
  · simpa using this
  · intro G g B rs u1 u2 u3
    simp
    exact k g B rs G u1 ⟨u3, u2⟩
end Go.Proofs.YtcibjklpaljadaaGreat.AM
namespace Go.Proofs.YtcibjklpaljadaaGreat.AM
set_option linter.unusedSimpArgs false
set_option linter.unusedVariables false
set_option maxRecDepth 100000
set_option maxHeartbeats 2000000
open Go
def RunT (base : Nat) (M : List Nat) (H : AH) (R : Nat) (vv : AV) (V : Nat) (p : AV) (t : Tk) : Prop :=
  H.bk R = some ⟨[vv, p], true⟩ ∧ R < H.n ∧ base ≤ R ∧ GrS base H vv t.vars.length 1 (Ints t.vars) V ∧ R ≠ V ∧ V < H.n ∧ base ≤ V ∧ PL (fun b => b ≠ R ∧ b ≠ V ∧ b ∉ M) H p t.rest.list
theorem RunT.only {base M cs H H' R vv V p t} (h : RunT base M H R vv V p t) (k : Only cs H H') (hR : R ∉ cs) (hV : V ∉ cs) (hM : ∀ b ∈ cs, b ∈ M ∨ H.n ≤ b) : RunT base M H' R vv V p t := by
  obtain ⟨h1, h2, h3, h4, h5, h6, h7, h8⟩ := h
  exact ⟨k.bk h2 hR h1, Nat.lt_of_lt_of_le h2 k.1, h3, h4.only k (fun b hb => .inr (fun e => hV (by rw [← e]; exact hb))), h5, Nat.lt_of_lt_of_le h6 k.1, h7,
    h8.mono k.1 (fun b hb hb2 => k.2 b hb2 (fun hm => by rcases hM b hm with q | q; exact hb.2.2 q; omega)) (fun _ h _ => h)⟩
theorem RB.mem' {base H v bs B rs} (h : RB base H v bs B rs) {b : Nat} (hb : b ∈ fpB B rs) : base ≤ b ∧ b < H.n := by
  rw [mem_fpB] at hb
  rcases hb with ⟨h1, rfl⟩ | ⟨p, hp, hb⟩
  · cases rs with
    | nil => exact absurd rfl h1
    | cons q rs =>
      cases bs with
      | nil => have := h.1; simp at this
      | cons x bs =>
        obtain ⟨_, _, _, _, e3, e4, _⟩ := h.at (i := 0) (x := x) rfl
        exact ⟨e3, e4⟩
  · obtain ⟨i, hi⟩ := List.getElem?_of_mem hp
    obtain ⟨y, hy⟩ : ∃ y, bs[i]? = some y := ⟨_, List.getElem?_eq_getElem (by rw [← h.1]; exact (List.getElem?_eq_some_iff.1 hi).1)⟩
    have := (h.2.2.1 i y p hy hi).1.mem hb
    omega
section
variable {H : AH} {K : AV → AH → Prop} {w : Fk K}
theorem grB_sub {v : AV} {I b : Nat} (h : b ∈ grB v I) : b = I := by
  cases v <;> simp [grB] at h <;> exact h
theorem fpB_set {B : Nat} {rs : List (AV × Nat)} {i : Nat} {v' : AV} {I' b : Nat} (h : b ∈ fpB B (rs.set i (v', I'))) : b ∈ fpB B rs ∨ b = I' := by
  rw [mem_fpB] at h ⊢
  rcases h with h | ⟨p, hp, hb⟩
  · exact .inl (.inl ⟨fun e => h.1 (by rw [e]; rfl), h.2⟩)
  · rcases List.mem_or_eq_of_mem_set hp with q | q
    · exact .inl (.inr ⟨p, q, hb⟩)
    · subst q; exact .inr (grB_sub hb)
end
end Go.Proofs.YtcibjklpaljadaaGreat.AM
namespace Go.Proofs.YtcibjklpaljadaaGreat.AM
set_option linter.unusedSimpArgs false
set_option linter.unusedVariables false
set_option maxRecDepth 100000
set_option maxHeartbeats 2000000
open Go
end Go.Proofs.YtcibjklpaljadaaGreat.AM
namespace Go.Proofs.YtcibjklpaljadaaGreat.AM
set_option linter.unusedSimpArgs false
set_option linter.unusedVariables false
set_option maxRecDepth 100000
set_option maxHeartbeats 2000000
open Go
theorem Only.mono {bs cs H H'} (h : Only bs H H') (k : ∀ b ∈ bs, b ∈ cs ∨ H.n ≤ b) : Only cs H H' := ⟨h.1, fun b hb hm => h.2 b hb (fun q => by rcases k b q with q | q; exact hm q; omega)⟩
theorem vaBs_facts {l : List Bx} (h : vaBs l = true) : l.length ≤ 3 ∧ ∀ x ∈ l, 1 ≤ x.room ∧ x.room ≤ 4 ∧ (x.items.length : Int) ≤ x.room ∧ x.items.all isW = true := by
  unfold vaBs at h
  simp only [Bool.and_eq_true, decide_eq_true_eq] at h
  refine ⟨h.2, fun x hx => ?_⟩
  have := List.all_eq_true.1 h.1 x hx
  unfold vaB at this
  simp only [Bool.and_eq_true, decide_eq_true_eq] at this
  exact ⟨this.1.1, this.1.2.1, this.1.2.2, this.2⟩
section
variable {H : AH} {K : AV → AH → Prop} {w : Fk K}
end
end Go.Proofs.YtcibjklpaljadaaGreat.AM
namespace Go.Proofs.YtcibjklpaljadaaGreat.AM
set_option linter.unusedSimpArgs false
set_option linter.unusedVariables false
open Go
theorem okS_mono {boxes : Int} : ∀ {f : Sts} {n m : Int}, n ≤ m → okS boxes n f = true → okS boxes m f = true
  | .nil, _, _, _, _ => rfl
  | .cons k v b e y z r, n, m, hnm, h => by
    simp only [okS, Bool.and_eq_true] at h ⊢
    refine ⟨?_, okS_mono hnm h.2⟩
    have h1 := h.1
    unfold okS1 at h1 ⊢
    simp only [Bool.and_eq_true, Bool.or_eq_true, decide_eq_true_eq] at h1 ⊢
    refine ⟨h1.1, ?_⟩
    rcases h1.2 with q | q
    · exact .inl q
    · exact .inr ⟨⟨by omega, okS_mono (by omega) q.1.2⟩, okS_mono (by omega) q.2⟩
def vaW (boxes : Int) (s : St1) : Bool := vaS boxes (Sts.of [s])
theorem vaW_iff {boxes : Int} {s : St1} : vaW boxes s = true ↔ okT boxes 3 s = true ∧ ctT s ≤ 16 := by
  constructor
  · exact vaS_one
  · intro h
    unfold vaW vaS
    simp only [Bool.and_eq_true, decide_eq_true_eq]
    refine ⟨?_, ?_⟩
    · rw [okS_mem]; simpa using h.1
    · rw [ctS_of]; simpa using h.2
theorem vaT_iff {boxes : Int} {t : Tk} : vaT boxes t = true ↔ t.vars.length = 4 ∧ t.vars.all isW = true ∧ ∀ s ∈ t.rest.list, vaW boxes s = true := by
  unfold vaT
  simp only [Bool.and_eq_true, decide_eq_true_eq, List.all_eq_true, vaW, and_assoc]
theorem va_body {boxes : Int} {s : St1} (h : vaW boxes s = true) : (∀ x ∈ s.body.list, vaW boxes x = true) ∧ (∀ x ∈ s.els.list, vaW boxes x = true) := by
  obtain ⟨h1, h2⟩ := vaW_iff.1 h
  have h1' := h1
  unfold okT okS1 at h1
  simp only [Bool.and_eq_true, Bool.or_eq_true, decide_eq_true_eq] at h1
  unfold ctT at h2
  rcases h1.2 with q | q
  · obtain ⟨e1, e2⟩ := stV_leaf h1.1 q.1 q.2
    have e1 : s.body.list = [] := List.eq_nil_of_length_eq_zero e1
    have e2 : s.els.list = [] := List.eq_nil_of_length_eq_zero e2
    rw [e1, e2]; simp
  · refine ⟨fun x hx => vaW_iff.2 ⟨?_, ?_⟩, fun x hx => vaW_iff.2 ⟨?_, ?_⟩⟩
    · have := okS_mono (m := 3) (by omega) q.1.2
      rw [okS_mem] at this
      exact List.all_eq_true.1 this x hx
    · have := ctS_mem hx; unfold ctT; omega
    · have := okS_mono (m := 3) (by omega) q.2
      rw [okS_mem] at this
      exact List.all_eq_true.1 this x hx
    · have := ctS_mem hx; unfold ctT; omega
theorem body_len {boxes : Int} {s : St1} (h : vaW boxes s = true) : s.body.list.length ≤ 16 ∧ s.els.list.length ≤ 16 := by
  obtain ⟨_, h2⟩ := vaW_iff.1 h
  unfold ctT at h2
  have := @len_ctS s.body
  have := @len_ctS s.els
  omega
theorem blkR_va {boxes : Int} {s : St1} {r : List St1} {x : Int} (hs : vaW boxes s = true) (hr : ∀ x ∈ r, vaW boxes x = true) : (∀ y ∈ (blkR s r x).list, vaW boxes y = true) ∧ (blkR s r x).list.length ≤ r.length + 17 := by
  obtain ⟨h1, h2⟩ := va_body hs
  have := body_len hs
  unfold blkR
  split
  · rw [Sts.list_of]
    split
    · exact ⟨fun y hy => by rcases List.mem_append.1 hy with q | q; exact h1 y q; exact hr y q, by simp; omega⟩
    · exact ⟨fun y hy => by rcases List.mem_append.1 hy with q | q; exact h2 y q; exact hr y q, by simp; omega⟩
  · split
    · rw [Sts.list_of]
      refine ⟨fun y hy => ?_, by simp; omega⟩
      rcases List.mem_append.1 hy with q | q
      · exact h1 y q
      · rcases List.mem_cons.1 q with rfl | q
        · exact hs
        · exact hr y q
    · rw [Sts.list_of]; exact ⟨hr, by omega⟩
theorem all_set {l : List Int} {i : Nat} {x : Int} (h : l.all isW = true) (hx : isW x = true) : (l.set i x).all isW = true := by
  rw [List.all_eq_true] at h ⊢
  intro y hy
  rcases List.mem_or_eq_of_mem_set hy with q | q
  · exact h y q
  · subst q; exact hx
theorem vaBs_set {bs : List Bx} {i : Nat} {x : Bx} (h : vaBs bs = true) (hx : vaB x = true) : vaBs (bs.set i x) = true := by
  unfold vaBs at h ⊢
  simp only [Bool.and_eq_true, decide_eq_true_eq, List.length_set] at h ⊢
  refine ⟨?_, h.2⟩
  rw [List.all_eq_true] at h ⊢
  intro y hy
  rcases List.mem_or_eq_of_mem_set hy with q | q
  · exact h.1 y q
  · subst q; exact hx
theorem rooms_set {bs : List Bx} {i : Nat} {b : Bx} {l : List Int} (h : bs[i]? = some b) : (bs.set i ⟨b.room, l⟩).map (·.room) = bs.map (·.room) := by
  rw [List.map_set]
  refine List.ext_getElem? fun j => ?_
  by_cases hj : j = i
  · subst hj
    have := (List.getElem?_eq_some_iff.1 h).1
    rw [List.getElem?_set_self (by simpa using this), List.getElem?_map, h]; rfl
  · rw [List.getElem?_set_ne (by omega)]
theorem step_keeps {boxes : Int} {t : Tk} {bs : List Bx} (ht : vaT boxes t = true) (hb : vaBs bs = true) (hrd : rdT t bs.length = true) :
    vaT boxes (stepP t bs).1 = true ∧ vaBs (stepP t bs).2.1 = true ∧ (stepP t bs).2.1.length = bs.length ∧ (stepP t bs).2.1.map (·.room) = bs.map (·.room) ∧ (stepP t bs).2.2.1.all isW = true ∧ (stepP t bs).1.rest.list.length ≤ t.rest.list.length + 16 := by
  obtain ⟨h1, h2, h3⟩ := vaT_iff.1 ht
  cases hr : t.rest.list with
  | nil =>
    have e : stepP t bs = (t, bs, [], 4) := by unfold stepP; rw [hr]
    rw [e]; exact ⟨ht, hb, rfl, rfl, rfl, by simp [hr]⟩
  | cons s r =>
    rw [hr] at h3
    have hs := h3 s List.mem_cons_self
    have hrr : ∀ x ∈ r, vaW boxes x = true := fun x hx => h3 x (List.mem_cons_of_mem _ hx)
    obtain ⟨q1, q2, q3, q4, q5⟩ := okT_facts (vaW_iff.1 hs).1
    have hev : s.k ≠ 5 → s.k ≠ 6 → isW (evE t.vars s.e) = true := fun a b => evE_word h2 s.e.args (d := 5) (q2 a b)
    have tl : ∀ l : List Int, l.length = 4 → l.all isW = true → vaT boxes ⟨l, Sts.of r⟩ = true := fun l a b => vaT_iff.2 ⟨a, b, by rw [Sts.list_of]; exact hrr⟩
    have hcase : s.k = 1 ∨ s.k = 2 ∨ s.k = 3 ∨ s.k = 4 ∨ s.k = 5 ∨ s.k = 6 ∨ s.k = 7 := by omega
    by_cases k45 : s.k = 4 ∨ s.k = 5
    · have hlt : s.b < bs.length := by unfold rdT at hrd; rw [hr] at hrd; simp at hrd; omega
      have hsb := q4 k45
      obtain ⟨bx, hbx⟩ : ∃ x, bs[s.b.toNat]? = some x := ⟨_, List.getElem?_eq_getElem (by omega)⟩
      have hbv : vaB bx = true := by
        unfold vaBs at hb
        simp only [Bool.and_eq_true] at hb
        exact List.all_eq_true.1 hb.1 bx (List.mem_of_getElem? hbx)
      have e : stepP t bs = ((talkP t bs s r).1, (talkP t bs s r).2.1, [], (talkP t bs s r).2.2) := by unfold stepP; rw [hr]; simp [k45]
      rw [e]
      have same : talkP t bs s r = (t, bs, 3) → vaT boxes (talkP t bs s r).1 = true ∧ vaBs (talkP t bs s r).2.1 = true ∧ (talkP t bs s r).2.1.length = bs.length ∧ (talkP t bs s r).2.1.map (·.room) = bs.map (·.room) ∧ ([] : List Int).all isW = true ∧ (talkP t bs s r).1.rest.list.length ≤ (s :: r).length + 16 := by
        intro h; rw [h]; exact ⟨ht, hb, rfl, rfl, rfl, by simp [hr]⟩
      unfold vaB at hbv
      simp only [Bool.and_eq_true, decide_eq_true_eq] at hbv
      rcases k45 with k4 | k5
      · by_cases hroom : (bx.items.length : Int) < bx.room
        · have e2 : talkP t bs s r = (⟨t.vars, Sts.of r⟩, bs.set s.b.toNat ⟨bx.room, bx.items ++ [evE t.vars s.e]⟩, 1) := by unfold talkP; simp [k4, hbx, hroom]
          rw [e2]
          refine ⟨tl _ h1 h2, vaBs_set hb ?_, by simp, rooms_set hbx, rfl, by simp [Sts.list_of]; omega⟩
          unfold vaB
          simp only [Bool.and_eq_true, decide_eq_true_eq, List.length_append, List.length_singleton, List.all_append, List.all_cons, List.all_nil, Bool.and_true]
          exact ⟨by omega, hbv.2, hev (by omega) (by omega)⟩
        · exact same (by unfold talkP; simp [k4, hbx, hroom])
      · cases hi : bx.items with
        | nil => exact same (by unfold talkP; simp [k5, hbx, hi])
        | cons y q =>
          have e2 : talkP t bs s r = (⟨t.vars.set s.v.toNat y, Sts.of r⟩, bs.set s.b.toNat ⟨bx.room, q⟩, 1) := by unfold talkP; simp [k5, hbx, hi]
          rw [hi] at hbv
          simp only [List.all_cons, Bool.and_eq_true, List.length_cons] at hbv
          rw [e2]
          refine ⟨tl _ (by simpa using h1) (all_set h2 hbv.2.1), vaBs_set hb ?_, by simp, rooms_set hbx, rfl, by simp [Sts.list_of]; omega⟩
          unfold vaB
          simp only [Bool.and_eq_true, decide_eq_true_eq]
          exact ⟨by omega, hbv.2.2⟩
    · by_cases k23 : s.k = 2 ∨ s.k = 3
      · have e : stepP t bs = (⟨t.vars, blkR s r (evE t.vars s.e)⟩, bs, [], 1) := by unfold stepP; rw [hr]; simp [k45, k23]
        rw [e]
        obtain ⟨b1, b2⟩ := blkR_va (x := evE t.vars s.e) hs hrr
        exact ⟨vaT_iff.2 ⟨h1, h2, b1⟩, hb, rfl, rfl, rfl, by simp; omega⟩
      by_cases k1 : s.k = 1
      · have e : stepP t bs = (⟨t.vars.set s.v.toNat (evE t.vars s.e), Sts.of r⟩, bs, [], 1) := by unfold stepP; rw [hr]; simp [k1]
        rw [e]
        exact ⟨tl _ (by simpa using h1) (all_set h2 (hev (by omega) (by omega))), hb, rfl, rfl, rfl, by simp [Sts.list_of]; omega⟩
      by_cases k6 : s.k = 6
      · have e : stepP t bs = (⟨t.vars, Sts.of r⟩, bs, [], 2) := by unfold stepP; rw [hr]; simp [k6]
        rw [e]
        exact ⟨tl _ h1 h2, hb, rfl, rfl, rfl, by simp [Sts.list_of]; omega⟩
      · have k7 : s.k = 7 := by omega
        have e : stepP t bs = (⟨t.vars, Sts.of r⟩, bs, [evE t.vars s.e], 1) := by unfold stepP; rw [hr]; simp [k7]
        rw [e]
        exact ⟨tl _ h1 h2, hb, rfl, rfl, by simpa using hev (by omega) (by omega), by simp [Sts.list_of]; omega⟩
end Go.Proofs.YtcibjklpaljadaaGreat.AM
namespace Go.Proofs.YtcibjklpaljadaaGreat.AM
set_option linter.unusedSimpArgs false
set_option linter.unusedVariables false
set_option maxRecDepth 100000
set_option maxHeartbeats 2000000
open Go
theorem cellsB_LF {base : Nat} {H : AH} : ∀ {l : List Bx} {r : List (AV × Nat)}, r.length = l.length → (∀ (i : Nat) (x : Bx) (p : AV × Nat), l[i]? = some x → r[i]? = some p → ISl base H p.1 x.items p.2) → LF 2 (BC (fun b => base ≤ b) H) l (cellsB l r)
  | [], [], _, _ => rfl
  | x :: l, p :: r, h, k => ⟨[.I x.room, p.1], cellsB l r, rfl, rfl, ⟨p.1, rfl, (k 0 x p rfl rfl).grs.iv⟩, cellsB_LF (by simpa using h) (fun i y q h1 h2 => k (i + 1) y q (by simpa using h1) (by simpa using h2))⟩
  | [], _ :: _, h, _ => by simp at h
  | _ :: _, [], h, _ => by simp at h
theorem RB.bv {base H v bs B rs} (h : RB base H v bs B rs) : BV (fun b => base ≤ b) H v bs := ⟨_, h.2.1.slc, cellsB_LF h.1 (fun i x p hx hp => (h.2.2.1 i x p hx hp).1)⟩
theorem ISl.up {base base' G v l I} (h : ISl base G v l I) (hb : base' ≤ base) : ISl base' G v l I := by
  obtain ⟨h1, h2 | ⟨h3, h4⟩⟩ := h
  · exact ⟨h1, .inl h2⟩
  · exact ⟨h1, .inr ⟨by omega, h4⟩⟩
theorem GrS.up {base base' G v n sz cs B} (h : GrS base G v n sz cs B) (hb : base' ≤ base) : GrS base' G v n sz cs B := by
  obtain ⟨h1, h0, h2 | ⟨h3, h4⟩⟩ := h
  · exact ⟨h1, h0, .inl h2⟩
  · exact ⟨h1, h0, .inr ⟨by omega, h4⟩⟩
theorem RB.up {base base' H v bs B rs} (h : RB base H v bs B rs) (hb : base' ≤ base) : RB base' H v bs B rs :=
  ⟨h.1, h.2.1.up hb, fun i x p hx hp => ⟨(h.2.2.1 i x p hx hp).1.up hb, (h.2.2.1 i x p hx hp).2⟩, h.2.2.2⟩
theorem RB.mem {base H v bs B rs} (h : RB base H v bs B rs) {b : Nat} (hb : b ∈ fpB B rs) : base ≤ b ∧ b < H.n := by
  rw [mem_fpB] at hb
  rcases hb with ⟨h1, rfl⟩ | ⟨p, hp, hb⟩
  · cases rs with
    | nil => exact absurd rfl h1
    | cons q rs =>
      cases bs with
      | nil => have := h.1; simp at this
      | cons x bs =>
        obtain ⟨_, _, _, _, e3, e4, _⟩ := h.at (i := 0) (x := x) rfl
        exact ⟨e3, e4⟩
  · obtain ⟨i, hi⟩ := List.getElem?_of_mem hp
    obtain ⟨y, hy⟩ : ∃ y, bs[i]? = some y := ⟨_, List.getElem?_eq_getElem (by rw [← h.1]; exact (List.getElem?_eq_some_iff.1 hi).1)⟩
    have := (h.2.2.1 i y p hy hi).1.mem hb
    omega
section
variable {ok : Nat → Prop} {H : AH} {K : AV → AH → Prop} {w : Fk K} {c : List AV} {t : Tk} {s : St1} {r : List St1} {bs : List Bx} {vb : AV}
end
end Go.Proofs.YtcibjklpaljadaaGreat.AM
namespace Go.Proofs.YtcibjklpaljadaaGreat.AM
set_option linter.unusedSimpArgs false
set_option linter.unusedVariables false
set_option maxRecDepth 100000
set_option maxHeartbeats 2000000
open Go
attribute [-simp] AM.elems
section
variable {ok : Nat → Prop} {H : AH} {K : AV → AH → Prop} {w : Fk K} {e : Ex} {va vv : AV} {vars : List Int}
end
theorem SV.elems {ok H v f} (h : SV ok H v f) : ∃ cs, AM.elems H 8 v = some cs ∧ SF ok H f cs ∧ cs.length = f.list.length * 8 := by
  obtain ⟨cs, h1, h2⟩ := h
  exact ⟨cs, h1.elems, h2, h1.2.1⟩
section
variable {ok o1 o2 : Nat → Prop} {H : AH} {K : AV → AH → Prop} {w : Fk K} {c : List AV} {b : Bx} {x : Int}
end
end Go.Proofs.YtcibjklpaljadaaGreat.AM
namespace Go.Proofs.YtcibjklpaljadaaGreat.AM
set_option linter.unusedSimpArgs false
set_option linter.unusedVariables false
open Go
structure Wd where
  tasks : List Tk
  boxes : List Bx
  turn : Int
  idle : Int
  out : List Int
deriving DecidableEq, Inhabited
def TV (ok : Nat → Prop) (H : AH) (v : AV) (l : List Tk) : Prop := ∃ ca, SlC ok H v l.length 2 ca ∧ LF 2 (TC ok H) l ca
theorem TV.mono {ok ok' : Nat → Prop} {H H' v l} (h : TV ok H v l) (hn : H.n ≤ H'.n) (hk : ∀ b, ok b → b < H.n → H'.bk b = H.bk b) (ho : ∀ b, ok b → b < H.n → ok' b) : TV ok' H' v l := by
  obtain ⟨ca, h1, h2⟩ := h
  exact ⟨ca, h1.mono hn hk ho, h2.imp fun c a h => h.mono hn hk ho⟩
theorem TV.ext {ok H H' c t} (h : TV ok H c t) (k : Ext H H') : TV ok H' c t := h.mono k.1 (fun b _ hb => k.2 b hb) (fun _ h _ => h)
theorem TV.alen {ok H v l} (h : TV ok H v l) : alen v = some l.length := h.choose_spec.1.alen
theorem TV.flat {ok H v l} (h : TV ok H v l) : v.flat = true := h.choose_spec.1.flat
theorem TV.big {ok H v l} (h : TV ok H v l) : l.length ≤ 8589934592 := h.choose_spec.1.1
theorem TV.at {ok H v l} (h : TV ok H v l) {i : Nat} {x : Tk} (hi : l[i]? = some x) : ∃ b o cap vv vr, v = .sl b o l.length cap ∧ ok b ∧ b < H.n ∧ H.loadN b (o + i * 2) 2 = some [vv, vr] ∧ IV ok H vv x.vars ∧ SV ok H vr x.rest := by
  obtain ⟨ca, h1, h2⟩ := h
  have hl := (List.getElem?_eq_some_iff.1 hi).1
  obtain ⟨b, o, cap, e, ob, hb, hs⟩ := h1.at hl
  obtain ⟨c, hc, vv, vr, rfl, i1, i2⟩ := h2.get hi
  exact ⟨b, o, cap, vv, vr, e, ob, hb, by rw [hs _ _ (by omega)]; exact hc, i1, i2⟩
def WC (ok : Nat → Prop) (H : AH) (c : List AV) (w : Wd) : Prop := ∃ vt vb vo, c = [vt, vb, .I w.turn, .I w.idle, vo] ∧ TV ok H vt w.tasks ∧ BV ok H vb w.boxes ∧ IV ok H vo w.out
theorem WC.mono {ok ok' : Nat → Prop} {H H' c t} (h : WC ok H c t) (hn : H.n ≤ H'.n) (hk : ∀ b, ok b → b < H.n → H'.bk b = H.bk b) (ho : ∀ b, ok b → b < H.n → ok' b) : WC ok' H' c t := by
  obtain ⟨vt, vb, vo, e, h1, h2, h3⟩ := h
  exact ⟨vt, vb, vo, e, h1.mono hn hk ho, h2.mono hn hk ho, h3.mono hn hk ho⟩
theorem WC.ext {ok H H' c t} (h : WC ok H c t) (k : Ext H H') : WC ok H' c t := h.mono k.1 (fun b _ hb => k.2 b hb) (fun _ h _ => h)
def vaWd (w : Wd) : Bool := decide (1 ≤ w.tasks.length ∧ w.tasks.length ≤ 3 ∧ 0 ≤ w.turn ∧ w.turn < w.tasks.length ∧ 0 ≤ w.idle ∧ w.idle ≤ w.tasks.length) && w.out.all isW && vaBs w.boxes && w.tasks.all (vaT w.boxes.length)
theorem vaWd_iff {w : Wd} : vaWd w = true ↔ (1 ≤ w.tasks.length ∧ w.tasks.length ≤ 3 ∧ 0 ≤ w.turn ∧ w.turn < w.tasks.length ∧ 0 ≤ w.idle ∧ w.idle ≤ w.tasks.length) ∧ w.out.all isW = true ∧ vaBs w.boxes = true ∧ ∀ t ∈ w.tasks, vaT w.boxes.length t = true := by
  unfold vaWd
  simp only [Bool.and_eq_true, decide_eq_true_eq, List.all_eq_true, and_assoc]
def nextT (many turn idle code : Int) : Int × Int :=
  if code = 1 then (turn, 0) else if code = 2 then ((turn + 1) % many, 0) else ((turn + 1) % many, idle + 1)
def stepW (w : Wd) : Wd :=
  match w.tasks[w.turn.toNat]? with
  | none => w
  | some t =>
    let r := stepP t w.boxes
    let n := nextT w.tasks.length w.turn w.idle r.2.2.2
    ⟨w.tasks.set w.turn.toNat r.1, r.2.1, n.1, n.2, w.out ++ r.2.2.1⟩
def runW : Nat → Wd → Wd
  | 0, w => w
  | n + 1, w => if w.idle < w.tasks.length then runW n (stepW w) else w
theorem rd_of_va {t : Tk} {many : Nat} (h : vaT many t = true) : rdT t many = true := by
  unfold rdT
  cases hr : t.rest.list with
  | nil => rfl
  | cons s r =>
    obtain ⟨_, _, h3⟩ := vaT_iff.1 h
    have := okT_facts (vaW_iff.1 (h3 s (by rw [hr]; exact List.mem_cons_self))).1
    simp only [Bool.or_eq_true, decide_eq_true_eq]
    by_cases hk : s.k = 4 ∨ s.k = 5
    · exact .inr (this.2.2.2.1 hk).2
    · exact .inl (by omega)
theorem okS_boxes {a b : Int} (hab : a ≤ b) : ∀ {f : Sts} {n : Int}, okS a n f = true → okS b n f = true
  | .nil, _, _ => rfl
  | .cons k v bx e y z r, n, h => by
    simp only [okS, Bool.and_eq_true] at h ⊢
    refine ⟨?_, okS_boxes hab h.2⟩
    have h1 := h.1
    unfold okS1 at h1 ⊢
    simp only [Bool.and_eq_true, Bool.or_eq_true, decide_eq_true_eq] at h1 ⊢
    refine ⟨?_, ?_⟩
    · have h2 := h1.1
      unfold stV at h2 ⊢
      split
      · rename_i q; rw [if_pos q] at h2; exact h2
      rename_i q; rw [if_neg q] at h2
      split
      · rename_i q; rw [if_pos q] at h2; exact h2
      rename_i q; rw [if_neg q] at h2
      split
      · rename_i q; rw [if_pos q] at h2; exact h2
      rename_i q; rw [if_neg q] at h2
      split
      · rename_i q; rw [if_pos q] at h2
        simp only [Bool.and_eq_true, decide_eq_true_eq] at h2 ⊢
        exact ⟨by omega, h2.2⟩
      rename_i q; rw [if_neg q] at h2
      split
      · rename_i q; rw [if_pos q] at h2
        simp only [Bool.and_eq_true, decide_eq_true_eq] at h2 ⊢
        exact ⟨by omega, h2.2⟩
      rename_i q; rw [if_neg q] at h2
      exact h2
    · rcases h1.2 with q | q
      · exact .inl q
      · exact .inr ⟨⟨q.1.1, okS_boxes hab q.1.2⟩, okS_boxes hab q.2⟩
theorem vaT_boxes {a b : Int} (hab : a ≤ b) {t : Tk} (h : vaT a t = true) : vaT b t = true := by
  obtain ⟨h1, h2, h3⟩ := vaT_iff.1 h
  refine vaT_iff.2 ⟨h1, h2, fun s hs => ?_⟩
  have := h3 s hs
  unfold vaW vaS at this ⊢
  simp only [Bool.and_eq_true] at this ⊢
  exact ⟨okS_boxes hab this.1, this.2⟩
theorem ctS_sum_le2 {boxes : Int} {t : Tk} (h : vaT boxes t = true) : ctS t.rest ≤ 16 * t.rest.list.length := by
  rw [ctS_sum]
  obtain ⟨_, _, h3⟩ := vaT_iff.1 h
  have : ∀ l : List St1, (∀ s ∈ l, vaW boxes s = true) → (l.map ctT).sum ≤ 16 * l.length := by
    intro l
    induction l with
    | nil => simp
    | cons s l ih =>
      intro hl
      have h1 := (vaW_iff.1 (hl s List.mem_cons_self)).2
      have h2 := ih (fun x hx => hl x (List.mem_cons_of_mem _ hx))
      simp only [List.map_cons, List.sum_cons, List.length_cons]
      omega
  exact this _ h3
theorem step_code' {boxes : Int} {t : Tk} {bs : List Bx} (ht : vaT boxes t = true) : 1 ≤ (stepP t bs).2.2.2 ∧ (stepP t bs).2.2.2 ≤ 4 := by
  unfold stepP
  cases hr : t.rest.list with
  | nil => simp
  | cons s r =>
    simp only
    split
    · unfold talkP
      split
      · simp
      · split
        · split <;> simp
        · split <;> simp
    split
    · simp
    split
    · simp
    split <;> simp
def uL : List St1 → Nat
  | [] => 0
  | s :: r => max (ctT s + r.length) (uL r)
theorem len_uL : ∀ l : List St1, l.length ≤ uL l
  | [] => by simp
  | s :: r => by
    have h1 : 1 ≤ ctT s := by
      unfold ctT; omega
    simp only [uL, List.length_cons]
    omega
theorem uL_app : ∀ (a b : List St1), uL (a ++ b) ≤ max ((a.map ctT).sum + b.length) (uL b)
  | [], b => by simp; omega
  | s :: a, b => by
    have := uL_app a b
    have h2 : a.length ≤ (a.map ctT).sum := by
      have := @len_ctS (Sts.of a)
      rw [Sts.list_of, ctS_of] at this; exact this
    simp only [List.cons_append, uL, List.map_cons, List.sum_cons, List.length_append]
    omega
theorem uL_le {l : List St1} {m : Nat} (h : ∀ s ∈ l, ctT s ≤ m) : uL l ≤ m + l.length := by
  induction l with
  | nil => simp [uL]
  | cons s r ih =>
    have := ih (fun x hx => h x (List.mem_cons_of_mem _ hx))
    have h1 := h s List.mem_cons_self
    simp only [uL, List.length_cons]; omega
theorem uL_tail {s : St1} {r : List St1} : uL r ≤ uL (s :: r) := by simp only [uL]; omega
theorem uL_blk {s : St1} {r : List St1} {x : Int} : uL (blkR s r x).list ≤ uL (s :: r) := by
  have hy : (s.body.list.map ctT).sum = ctS s.body := (ctS_sum ..).symm
  have hz : (s.els.list.map ctT).sum = ctS s.els := (ctS_sum ..).symm
  have a1 := uL_app s.body.list r
  have a2 := uL_app s.els.list r
  have a3 := uL_app s.body.list (s :: r)
  have e : ctT s = 1 + ctS s.body + ctS s.els := rfl
  unfold blkR
  split
  · rw [Sts.list_of]
    split
    · simp only [uL] at *; omega
    · simp only [uL] at *; omega
  · split
    · rw [Sts.list_of]
      simp only [uL, List.length_cons] at *; omega
    · rw [Sts.list_of]; exact uL_tail
theorem step_uL {t : Tk} {bs : List Bx} : uL (stepP t bs).1.rest.list ≤ uL t.rest.list := by
  unfold stepP
  cases hr : t.rest.list with
  | nil => simp [hr]
  | cons s r =>
    have tl := @uL_tail s r
    simp only
    split
    · unfold talkP
      split
      · rw [hr]; exact Nat.le_refl _
      · split
        · split
          · simpa [Sts.list_of] using tl
          · rw [hr]; exact Nat.le_refl _
        · split
          · rw [hr]; exact Nat.le_refl _
          · simpa [Sts.list_of] using tl
    split
    · exact uL_blk
    split
    · simpa [Sts.list_of] using tl
    split <;> simpa [Sts.list_of] using tl
theorem ctS_uL {boxes : Int} {t : Tk} (h : vaT boxes t = true) : ctS t.rest ≤ 16 * uL t.rest.list := by
  have := ctS_sum_le2 h
  have := len_uL t.rest.list
  omega
theorem stepW_keeps {w : Wd} (h : vaWd w = true) (hi : w.idle < w.tasks.length) : vaWd (stepW w) = true ∧ (stepW w).tasks.length = w.tasks.length ∧ (stepW w).boxes.length = w.boxes.length ∧ (stepW w).boxes.map (·.room) = w.boxes.map (·.room) ∧
    (∃ p, (stepW w).out = w.out ++ p ∧ p.length ≤ 1) ∧ (∀ m, (∀ t ∈ w.tasks, uL t.rest.list ≤ m) → ∀ t ∈ (stepW w).tasks, uL t.rest.list ≤ m) := by
  obtain ⟨h1, h2, h3, h4⟩ := vaWd_iff.1 h
  obtain ⟨t, ht⟩ : ∃ t, w.tasks[w.turn.toNat]? = some t := ⟨_, List.getElem?_eq_getElem (by omega)⟩
  have hm := List.mem_of_getElem? ht
  have hva := h4 t hm
  obtain ⟨u1, u2, u3, u4, u5, u6⟩ := step_keeps hva h3 (rd_of_va hva)
  have hc := step_code' (bs := w.boxes) hva
  have e : stepW w = ⟨w.tasks.set w.turn.toNat (stepP t w.boxes).1, (stepP t w.boxes).2.1, (nextT w.tasks.length w.turn w.idle (stepP t w.boxes).2.2.2).1, (nextT w.tasks.length w.turn w.idle (stepP t w.boxes).2.2.2).2, w.out ++ (stepP t w.boxes).2.2.1⟩ := by
    unfold stepW; rw [ht]
  have hn : 0 ≤ (nextT w.tasks.length w.turn w.idle (stepP t w.boxes).2.2.2).1 ∧ (nextT w.tasks.length w.turn w.idle (stepP t w.boxes).2.2.2).1 < w.tasks.length ∧ 0 ≤ (nextT w.tasks.length w.turn w.idle (stepP t w.boxes).2.2.2).2 ∧ (nextT w.tasks.length w.turn w.idle (stepP t w.boxes).2.2.2).2 ≤ w.tasks.length := by
    have m1 := Int.emod_nonneg (w.turn + 1) (show (w.tasks.length : Int) ≠ 0 by omega)
    have m2 := Int.emod_lt_of_pos (w.turn + 1) (show 0 < (w.tasks.length : Int) by omega)
    unfold nextT
    split
    · omega
    split <;> omega
  rw [e]
  refine ⟨vaWd_iff.2 ⟨by simp only [List.length_set]; omega, ?_, u2, fun x hx => ?_⟩, by simp, u3, u4, ⟨_, rfl, ?_⟩, fun m hm' x hx => ?_⟩
  · simp only [List.all_append, Bool.and_eq_true]; exact ⟨h2, u5⟩
  · rw [u3]
    rcases List.mem_or_eq_of_mem_set hx with q | q
    · exact h4 x q
    · subst q; exact u1
  · unfold stepP
    cases t.rest.list with
    | nil => simp
    | cons s r =>
      simp only
      split
      · simp
      split
      · simp
      split
      · simp
      split <;> simp
  · rcases List.mem_or_eq_of_mem_set hx with q | q
    · exact hm' x q
    · subst q; exact Nat.le_trans step_uL (hm' t hm)
theorem runW_keeps (n : Nat) : ∀ {w : Wd}, vaWd w = true → vaWd (runW n w) = true ∧ (runW n w).tasks.length = w.tasks.length ∧ (runW n w).boxes.length = w.boxes.length ∧ (runW n w).boxes.map (·.room) = w.boxes.map (·.room) ∧
    (∃ p, (runW n w).out = w.out ++ p ∧ p.length ≤ n) ∧ (∀ m, (∀ t ∈ w.tasks, uL t.rest.list ≤ m) → ∀ t ∈ (runW n w).tasks, uL t.rest.list ≤ m) := by
  induction n with
  | zero => intro w h; exact ⟨h, rfl, rfl, rfl, ⟨[], by simp [runW], by simp⟩, fun m hm => hm⟩
  | succ n ih =>
    intro w h
    unfold runW
    split
    · rename_i hi
      obtain ⟨a1, a2, a3, a4, ⟨p, a5, a6⟩, a7⟩ := stepW_keeps h hi
      obtain ⟨b1, b2, b3, b4, ⟨q, b5, b6⟩, b7⟩ := ih a1
      exact ⟨b1, b2.trans a2, b3.trans a3, b4.trans a4, ⟨p ++ q, by rw [b5, a5, List.append_assoc], by simp; omega⟩, fun m hm => b7 m (a7 m hm)⟩
    · exact ⟨h, rfl, rfl, rfl, ⟨[], by simp, by simp⟩, fun m hm => hm⟩
end Go.Proofs.YtcibjklpaljadaaGreat.AM
namespace Go.Proofs.YtcibjklpaljadaaGreat.AM
set_option linter.unusedSimpArgs false
set_option linter.unusedVariables false
set_option maxRecDepth 100000
set_option maxHeartbeats 2000000
open Go
section
variable {H : AH} {K : AV → AH → Prop} {w : Fk K} {many turn idle code : Int}
theorem rem_turn (h : 1 ≤ many ∧ many ≤ 3) (ht : 0 ≤ turn ∧ turn < many) : (turn + 1).tmod many = (turn + 1) % many := Int.tmod_eq_emod_of_nonneg (by omega)
theorem K_iNextTurn (hm : 1 ≤ many ∧ many ≤ 3) (ht : 0 ≤ turn ∧ turn < many) (hi : 0 ≤ idle ∧ idle < many) (hc : 1 ≤ code ∧ code ≤ 4) (k : K (.tup [.I (nextT many turn idle code).1, .I (nextT many turn idle code).2, .b true]) H) : CallF Cd f_iNextTurn [.I many, .I turn, .I idle, .I code] H K w := by
  rw [CallF_eq e_iNextTurn rfl]
  have e := rem_turn hm ht
  have hc4 : code = 1 ∨ code = 2 ∨ code = 3 ∨ code = 4 := by omega
  have n1 : ¬ many < 1 := by omega
  have n2 : ¬ 3 < many := by omega
  have n3 : ¬ turn < 0 := by omega
  have n4 : ¬ many ≤ turn := by omega
  have n5 : ¬ idle < 0 := by omega
  have n6 : ¬ many ≤ idle := by omega
  have n7 : ¬ many = 0 := by omega
  rcases hc4 with rfl | rfl | rfl | rfl
  all_goals
    simp (disch := omega) [n1, n2, n3, n4, n5, n6, n7, e]
    simpa [nextT] using k
theorem K_sNextTurn (hm : 1 ≤ many ∧ many ≤ 3) (ht : 0 ≤ turn ∧ turn < many) (hi : 0 ≤ idle ∧ idle < many) (hc : 1 ≤ code ∧ code ≤ 4) (k : K (.tup [.I (nextT many turn idle code).1, .I (nextT many turn idle code).2, .b true]) H) : CallF Cd f_sNextTurn [.I many, .I turn, .I idle, .I code] H K w := by
  rw [CallF_eq e_sNextTurn rfl]
  have e := rem_turn hm ht
  have hc4 : code = 1 ∨ code = 2 ∨ code = 3 ∨ code = 4 := by omega
  have n1 : 1 ≤ many := by omega
  have n2 : many ≤ 3 := by omega
  have n3 : 0 ≤ turn := by omega
  have n4 : turn ≤ many - 1 := by omega
  have n5 : 0 ≤ idle := by omega
  have n6 : idle ≤ many - 1 := by omega
  have n7 : ¬ many = 0 := by omega
  rcases hc4 with rfl | rfl | rfl | rfl
  all_goals
    simp (disch := omega) [K_sl6In, n1, n2, n3, n4, n5, n6, n7, e]
    simpa [nextT] using k
theorem K_iturnsValid {vo : AV} {out : List Int} (h : SeesZ H vo out) (k : K (.b (decide (1 ≤ many ∧ many ≤ 3 ∧ 0 ≤ turn ∧ turn < many ∧ 0 ≤ idle ∧ idle ≤ many) && out.all isW)) H) : CallF Cd f_iturnsValid [.I many, .I turn, .I idle, vo] H K w := by
  rw [CallF_eq e_iturnsValid rfl]
  by_cases h1 : 1 ≤ many
  case neg =>
    have e : decide (1 ≤ many ∧ many ≤ 3 ∧ 0 ≤ turn ∧ turn < many ∧ 0 ≤ idle ∧ idle ≤ many) = false := by simp; omega
    rw [e] at k
    simp [h1]; simpa using k
  by_cases h2 : many ≤ 3
  case neg =>
    have e : decide (1 ≤ many ∧ many ≤ 3 ∧ 0 ≤ turn ∧ turn < many ∧ 0 ≤ idle ∧ idle ≤ many) = false := by simp; omega
    rw [e] at k
    simp [h1, h2]; simpa using k
  by_cases h3 : 0 ≤ turn
  case neg =>
    have e : decide (1 ≤ many ∧ many ≤ 3 ∧ 0 ≤ turn ∧ turn < many ∧ 0 ≤ idle ∧ idle ≤ many) = false := by simp; omega
    rw [e] at k
    simp [h1, h2, h3]; simpa using k
  by_cases h4 : turn < many
  case neg =>
    have e : decide (1 ≤ many ∧ many ≤ 3 ∧ 0 ≤ turn ∧ turn < many ∧ 0 ≤ idle ∧ idle ≤ many) = false := by simp; omega
    rw [e] at k
    simp [h1, h2, h3, h4]; simpa using k
  by_cases h5 : 0 ≤ idle
  case neg =>
    have e : decide (1 ≤ many ∧ many ≤ 3 ∧ 0 ≤ turn ∧ turn < many ∧ 0 ≤ idle ∧ idle ≤ many) = false := by simp; omega
    rw [e] at k
    simp [h1, h2, h3, h4, h5]; simpa using k
  by_cases h6 : idle ≤ many
  case neg =>
    have e : decide (1 ≤ many ∧ many ≤ 3 ∧ 0 ≤ turn ∧ turn < many ∧ 0 ≤ idle ∧ idle ≤ many) = false := by simp; omega
    rw [e] at k
    simp [h1, h2, h3, h4, h5, h6]; simpa using k
  have e : decide (1 ≤ many ∧ many ≤ 3 ∧ 0 ≤ turn ∧ turn < many ∧ 0 ≤ idle ∧ idle ≤ many) = true := by simp; omega
  rw [e] at k
  simp [h1, h2, h3, h4, h5, h6, K_iareWords h]; simpa using k
end
end Go.Proofs.YtcibjklpaljadaaGreat.AM
namespace Go.Proofs.YtcibjklpaljadaaGreat.AM
set_option linter.unusedSimpArgs false
set_option linter.unusedVariables false
set_option maxRecDepth 100000
set_option maxHeartbeats 2000000
open Go
def bxS (many : Int) : Sts → Bool
  | .nil => true
  | .cons k v b e y z r => (decide (¬ ((k = 4 ∨ k = 5) ∧ many ≤ b)) && (bxS many y && bxS many z)) && bxS many r
def bxT (many : Int) (s : St1) : Bool := decide (¬ ((s.k = 4 ∨ s.k = 5) ∧ many ≤ s.b)) && (bxS many s.body && bxS many s.els)
theorem ok_bx {many : Int} (hm : many ≤ 3) : ∀ {f : Sts} {n : Int}, okS 3 n f = true → (okS many n f = true ↔ bxS many f = true)
  | .nil, _, _ => by simp [okS, bxS]
  | .cons k v b e y z r, n, h => by
    simp only [okS, bxS, Bool.and_eq_true] at h ⊢
    have hr := ok_bx hm (f := r) h.2
    have h1 := h.1
    rw [hr]
    refine and_congr_left fun _ => ?_
    unfold okS1 at h1 ⊢
    simp only [Bool.and_eq_true, Bool.or_eq_true, decide_eq_true_eq] at h1 ⊢
    have hst : stV many k v b (okE 5 e) (plE e) y.list.length z.list.length = true ↔ ¬ ((k = 4 ∨ k = 5) ∧ many ≤ b) := by
      have h2 := h1.1
      by_cases k4 : k = 4
      · have e : ∀ m : Int, stV m k v b (okE 5 e) (plE e) y.list.length z.list.length = (decide (v = 0 ∧ 0 ≤ b ∧ b < m ∧ y.list.length = 0 ∧ z.list.length = 0) && okE 5 e) := fun m => by unfold stV; simp [k4]
        rw [e] at h2 ⊢
        simp only [Bool.and_eq_true, decide_eq_true_eq] at h2 ⊢
        exact ⟨fun h h' => by have := h.1; have := h'.2; omega, fun h => ⟨by have := h2.1; have : b < many := Int.not_le.1 (fun q => h ⟨.inl k4, q⟩); omega, h2.2⟩⟩
      by_cases k5 : k = 5
      · have e : ∀ m : Int, stV m k v b (okE 5 e) (plE e) y.list.length z.list.length = (decide (0 ≤ v ∧ v < 4 ∧ 0 ≤ b ∧ b < m ∧ y.list.length = 0 ∧ z.list.length = 0) && plE e) := fun m => by unfold stV; simp [k5]
        rw [e] at h2 ⊢
        simp only [Bool.and_eq_true, decide_eq_true_eq] at h2 ⊢
        exact ⟨fun h h' => by have := h.1; have := h'.2; omega, fun h => ⟨by have := h2.1; have : b < many := Int.not_le.1 (fun q => h ⟨.inr k5, q⟩); omega, h2.2⟩⟩
      · have e : stV many k v b (okE 5 e) (plE e) y.list.length z.list.length = stV 3 k v b (okE 5 e) (plE e) y.list.length z.list.length := by unfold stV; simp only [k4, k5, if_false]
        rw [e]
        exact ⟨fun _ h => by omega, fun _ => h2⟩
    rw [hst]
    refine and_congr_right fun _ => ?_
    rcases h1.2 with q | q
    · obtain ⟨e1, e2⟩ := stV_leaf h1.1 q.1 q.2
      have e1 : y = .nil := by rw [← Sts.of_list y, List.eq_nil_of_length_eq_zero e1]; rfl
      have e2 : z = .nil := by rw [← Sts.of_list z, List.eq_nil_of_length_eq_zero e2]; rfl
      subst e1 e2
      simp [bxS, q]
    · have hy := ok_bx hm (f := y) q.1.2
      have hz := ok_bx hm (f := z) q.2
      rw [← hy, ← hz]
      constructor
      · rintro (p | p)
        · obtain ⟨e1, e2⟩ := stV_leaf h1.1 p.1 p.2
          have e1 : y = .nil := by rw [← Sts.of_list y, List.eq_nil_of_length_eq_zero e1]; rfl
          have e2 : z = .nil := by rw [← Sts.of_list z, List.eq_nil_of_length_eq_zero e2]; rfl
          subst e1 e2
          simp [okS]
        · exact ⟨p.1.2, p.2⟩
      · intro p
        exact .inr ⟨⟨q.1.1, p.1⟩, p.2⟩
end Go.Proofs.YtcibjklpaljadaaGreat.AM
namespace Go.Proofs.YtcibjklpaljadaaGreat.AM
set_option linter.unusedSimpArgs false
set_option linter.unusedVariables false
set_option maxRecDepth 100000
set_option maxHeartbeats 2000000
open Go
end Go.Proofs.YtcibjklpaljadaaGreat.AM
namespace Go.Proofs.YtcibjklpaljadaaGreat.AM
set_option linter.unusedSimpArgs false
set_option linter.unusedVariables false
set_option maxRecDepth 100000
set_option maxHeartbeats 2000000
open Go
attribute [-simp] AM.elems
theorem LF.snoc2 {α : Type} {sz : Nat} {E : (Nat → Prop) → AH → List AV → α → Prop} (mono : ∀ {ok ok' : Nat → Prop} {H H' : AH} {c a}, E ok H c a → H.n ≤ H'.n → (∀ b, ok b → b < H.n → H'.bk b = H.bk b) → (∀ b, ok b → b < H.n → ok' b) → E ok' H' c a)
    {base lo B : Nat} {G G1 : AH} {g : AV} {l : List α} {i : Nat} {x : α} {cs c : List AV} (hs : l[i]? = some x) (hg : GrS base G g i sz cs B) (he : LF sz (E (fun b => lo ≤ b ∧ b ≠ B) G) (l.take i) cs)
    (hb : base ≤ G.n) (hlo : lo ≤ G.n) (x1 : Ext G G1) (hc : c.length = sz) (hx : E (fun b => G.n ≤ b) G1 c x) (hi : i < 100000000) :
    ∃ g' G' B', aapp G1 sz g 1 c = some (g', G') ∧ GrS base G' g' (i + 1) sz (cs ++ c) B' ∧ LF sz (E (fun b => lo ≤ b ∧ b ≠ B') G') (l.take (i + 1)) (cs ++ c) ∧ Only (grB g B) G1 G' ∧ ((B' = B ∧ B ∈ grB g B) ∨ B' = G1.n) ∧ g'.flat = true := by
  obtain ⟨g', G', B', a1, a2, a3, a4⟩ := (hg.ext x1).app (k := 1) (new := c) (by have := x1.1; omega) (by omega) (by omega)
  have hm : ∀ b, b ∈ grB g B → b = B ∧ base ≤ B ∧ B < G.n := fun b hb => hg.mem hb
  have hB : (B' = B ∧ base ≤ B ∧ B < G.n) ∨ G1.n = B' := by
    rcases a3 with q | q
    · exact .inl ⟨q.1, (hm _ q.2).2⟩
    · exact .inr q.symm
  have n1 := x1.1
  refine ⟨g', G', B', a1, a2, ?_, a4, a3, a2.flat⟩
  rw [take_snoc hs]
  refine LF.app (he.imp fun c a h => mono h (by have := a4.1; omega) (fun b hb' h1 => ?_) (fun b hb' h1 => ⟨hb'.1, by omega⟩)) (LF.one (mono hx a4.1 (fun b hb' h1 => a4.2 b h1 (fun hm' => by have := hm b hm'; omega)) (fun b hb' h1 => by omega)) hc)
  rw [a4.2 b (by omega) (fun hm' => hb'.2 (hm b hm').1), x1.2 b h1]
def smW (w : Wd) : Prop := vaWd w = true ∧ (∀ t ∈ w.tasks, uL t.rest.list ≤ 4000) ∧ w.out.length ≤ 900000
theorem smW.task {w : Wd} (h : smW w) {t : Tk} (ht : t ∈ w.tasks) : vaT 3 t = true ∧ ctS t.rest ≤ 64000 ∧ t.rest.list.length ≤ 4000 ∧ cpS t.rest = true ∧ t.vars.length = 4 := by
  obtain ⟨h1, h2, h3⟩ := h
  obtain ⟨g1, g2, g3, g4⟩ := vaWd_iff.1 h1
  have hb := (vaBs_facts g3).1
  have h4 := vaT_boxes (b := 3) (by omega) (g4 t ht)
  have h5 := h2 t ht
  have h6 := ctS_uL h4
  have h7 := len_uL t.rest.list
  obtain ⟨f1, f2, f3, f4⟩ := vaT_facts h4
  exact ⟨h4, by omega, by omega, f4, f1⟩
theorem store_cell {H : AH} {b o : Nat} {cs : List AV} {v : AV} (h : H.bk b = some ⟨cs, true⟩) (ho : o < cs.length) : H.store b o [v] = some (H.put b (some ⟨cs.set o v, true⟩)) := by
  rw [store_bk h (by simp; omega)]
  congr 3
  unfold splice
  rw [List.set_eq_take_append_cons_drop, if_pos ho]
  simp
end Go.Proofs.YtcibjklpaljadaaGreat.AM
namespace Go.Proofs.YtcibjklpaljadaaGreat.AM
set_option linter.unusedSimpArgs false
set_option linter.unusedVariables false
set_option maxRecDepth 100000
set_option maxHeartbeats 2000000
open Go
attribute [-simp] AM.elems
theorem GrS.same {base H G v n sz cs B} (h : GrS base H v n sz cs B) (hn : H.n ≤ G.n) (hk : G.bk B = H.bk B) : GrS base G v n sz cs B := by
  obtain ⟨h1, h2, h3 | ⟨h4, h5, h6⟩⟩ := h
  · exact ⟨h1, h2, .inl h3⟩
  · exact ⟨h1, h2, .inr ⟨h4, by omega, by rw [hk]; exact h6⟩⟩
def WX (ok : Nat → Prop) (H : AH) (c : List AV) (w : Wd) : Prop := ∃ vt vb vo OB, c = [vt, vb, .I w.turn, .I w.idle, vo] ∧ TV (fun b => ok b ∧ b ≠ OB) H vt w.tasks ∧ BV (fun b => ok b ∧ b ≠ OB) H vb w.boxes ∧ GrS 0 H vo w.out.length 1 (Ints w.out) OB ∧ (vo = .nils ∨ ok OB)
theorem WX.mono {ok ok' : Nat → Prop} {H H' c w} (h : WX ok H c w) (hn : H.n ≤ H'.n) (hk : ∀ b, ok b → b < H.n → H'.bk b = H.bk b) (ho : ∀ b, ok b → b < H.n → ok' b) : WX ok' H' c w := by
  obtain ⟨vt, vb, vo, OB, e, h1, h2, h3, h4⟩ := h
  refine ⟨vt, vb, vo, OB, e, h1.mono hn (fun b hb => hk b hb.1) (fun b hb hb2 => ⟨ho b hb.1 hb2, hb.2⟩), h2.mono hn (fun b hb => hk b hb.1) (fun b hb hb2 => ⟨ho b hb.1 hb2, hb.2⟩), ?_, ?_⟩
  · rcases h4 with z | z
    · subst z
      obtain ⟨a, b, c | ⟨c, d, c' | ⟨_, _, c', _⟩⟩⟩ := h3
      · exact ⟨a, b, .inl c⟩
      · exact absurd c'.1 (by simp)
      · exact absurd c' (by simp)
    · by_cases q : OB < H.n
      · exact h3.same hn (hk OB z q)
      · obtain ⟨a, b, c | ⟨c, d, _⟩⟩ := h3
        · exact ⟨a, b, .inl c⟩
        · exact absurd d q
  · rcases h4 with z | z
    · exact .inl z
    · obtain ⟨a, b, c | ⟨c, d, _⟩⟩ := h3
      · exact .inl c.1
      · exact .inr (ho OB z d)
theorem WX.ext {ok H H' c t} (h : WX ok H c t) (k : Ext H H') : WX ok H' c t := h.mono k.1 (fun b _ hb => k.2 b hb) (fun _ h _ => h)
end Go.Proofs.YtcibjklpaljadaaGreat.AM
namespace Go.Proofs.YtcibjklpaljadaaGreat.AM
set_option linter.unusedSimpArgs false
set_option linter.unusedVariables false
set_option maxRecDepth 100000
set_option maxHeartbeats 2000000
open Go
attribute [-simp] AM.elems
end Go.Proofs.YtcibjklpaljadaaGreat.AM
namespace Go.Proofs.YtcibjklpaljadaaGreat.AM
set_option linter.unusedSimpArgs false
set_option linter.unusedVariables false
set_option maxRecDepth 100000
set_option maxHeartbeats 2000000
open Go
attribute [-simp] AM.elems
abbrev zeroW : Wd := ⟨[], [], 0, 0, []⟩
theorem TV.nil {ok H v} (h : v = .nils ∨ v = .esl) : TV ok H v [] := ⟨[], ⟨by simp, rfl, .inl ⟨rfl, h⟩⟩, rfl⟩
theorem BV.nil {ok H v} (h : v = .nils ∨ v = .esl) : BV ok H v [] := ⟨[], ⟨by simp, rfl, .inl ⟨rfl, h⟩⟩, rfl⟩
def boW (w : Wd) (n : Nat) : Prop := (∀ t ∈ w.tasks, ctS t.rest ≤ 100000 ∧ uL t.rest.list ≤ 4000) ∧ w.out.length + n ≤ 900000
theorem boW.step {w : Wd} {n : Nat} (h : boW w (n + 1)) (hv : vaWd w = true) (hi : w.idle < w.tasks.length) : boW (stepW w) n := by
  obtain ⟨a1, a2, a3, a4, ⟨p, a5, a6⟩, a7⟩ := stepW_keeps hv hi
  have hu := a7 4000 (fun t ht => (h.1 t ht).2)
  refine ⟨fun t ht => ⟨?_, hu t ht⟩, ?_⟩
  · have := (show smW (stepW w) from ⟨a1, hu, by rw [a5, List.length_append]; have := h.2; omega⟩).task ht
    omega
  · rw [a5, List.length_append]; have := h.2; omega
end Go.Proofs.YtcibjklpaljadaaGreat.AM
namespace Go.Proofs.YtcibjklpaljadaaGreat.AM
set_option linter.unusedSimpArgs false
set_option linter.unusedVariables false
set_option maxRecDepth 100000
set_option maxHeartbeats 2000000
open Go
attribute [-simp] AM.elems
def turnsF {σ : Type} (many : Int) (nx : σ → Int → σ) (cd : σ → Int → Int) : Nat → σ → Int → Int → σ × Int × Int
  | 0, s, t, i => (s, t, i)
  | n + 1, s, t, i => if i < many then turnsF many nx cd n (nx s t) (nextT many t i (cd s t)).1 (nextT many t i (cd s t)).2 else (s, t, i)
theorem nextT_ok {many t i c : Int} (hm : 1 ≤ many ∧ many ≤ 3) (ht : 0 ≤ t ∧ t < many) (hi : 0 ≤ i ∧ i < many) : (0 ≤ (nextT many t i c).1 ∧ (nextT many t i c).1 < many) ∧ (0 ≤ (nextT many t i c).2 ∧ (nextT many t i c).2 ≤ many) := by
  have m1 := Int.emod_nonneg (t + 1) (show many ≠ 0 by omega)
  have m2 := Int.emod_lt_of_pos (t + 1) (show 0 < many by omega)
  unfold nextT
  split
  · omega
  split <;> omega
theorem K_itakeTurns_l {σ : Type} {fs : FuncId} {cap : List AV} {many : Int} (hm : 1 ≤ many ∧ many ≤ 3) (S : Nat → σ → AH → Prop) (nx : σ → Int → σ) (cd : σ → Int → Int)
    (hstep : ∀ m s t H (K : AV → AH → Prop) (w : Fk K), S (m + 1) s H → 0 ≤ t ∧ t < many → (∀ H', S m (nx s t) H' → K (.I (cd s t)) H') → CallF Cd fs (.I t :: cap) H K w)
    (hcd : ∀ m s t H, S (m + 1) s H → 0 ≤ t ∧ t < many → 1 ≤ cd s t ∧ cd s t ≤ 4) {Q : Out → Env → AH → Prop} (n : Nat) (hn : n ≤ 100000000) : ∀ {s : σ} {t i : Int} {H : AH}, S n s H → 0 ≤ t ∧ t < many → 0 ≤ i ∧ i ≤ many →
    (∀ e m H', S m (turnsF many nx cd n s t i).1 H' → get e 2 = some (.I (turnsF many nx cd n s t i).2.1) → get e 3 = some (.I (turnsF many nx cd n s t i).2.2) → Q (.brk 0) e H') →
    W Cd (.loop c_itakeTurns_l0) [(0, .I n), (1, .I many), (2, .I t), (3, .I i), (4, .fn fs [] cap)] H Q := by
  induction n with
  | zero =>
    intro s t i H hS ht hi hQ
    rw [W_loop_as c_itakeTurns_l0.eq_1]
    simp
    exact hQ _ 0 H hS rfl rfl
  | succ n ih =>
    intro s t i H hS ht hi hQ
    rw [W_loop_as c_itakeTurns_l0.eq_1]
    have h0 : (0 : Int) < (n + 1 : Nat) := by omega
    have h0' : (0 : Int) < (n : Int) + 1 := by omega
    by_cases hlt : i < many
    case neg =>
      simp [h0', hlt]
      have e : turnsF many nx cd (n + 1) s t i = (s, t, i) := by unfold turnsF; rw [if_neg hlt]
      rw [e] at hQ
      exact hQ _ (n + 1) H hS rfl rfl
    have e : turnsF many nx cd (n + 1) s t i = turnsF many nx cd n (nx s t) (nextT many t i (cd s t)).1 (nextT many t i (cd s t)).2 := by
      conv => lhs; unfold turnsF
      rw [if_pos hlt]
    rw [e] at hQ
    simp [h0', hlt]
    refine hstep n s t H _ _ hS ht fun H1 hS1 => ?_
    have hc := hcd n s t H hS ht
    have hok := nextT_ok (c := cd s t) hm ht ⟨hi.1, hlt⟩
    simp
    refine K_iNextTurn hm ht ⟨hi.1, hlt⟩ hc ?_
    have e3 : IntKind.i64.wrap (n : Int) = n := wrap64 (by omega)
    simp [e3]
    exact ih (by omega) hS1 hok.1 hok.2 hQ
theorem K_itakeTurns {σ : Type} {fs : FuncId} {cap : List AV} {many : Int} (hm : 1 ≤ many ∧ many ≤ 3) (S : Nat → σ → AH → Prop) (nx : σ → Int → σ) (cd : σ → Int → Int)
    (hstep : ∀ m s t H (K : AV → AH → Prop) (w : Fk K), S (m + 1) s H → 0 ≤ t ∧ t < many → (∀ H', S m (nx s t) H' → K (.I (cd s t)) H') → CallF Cd fs (.I t :: cap) H K w)
    (hcd : ∀ m s t H, S (m + 1) s H → 0 ≤ t ∧ t < many → 1 ≤ cd s t ∧ cd s t ≤ 4) {n : Nat} (hn : n ≤ 100000000) {s : σ} {t i : Int} {H : AH} {K : AV → AH → Prop} {w : Fk K} (hS : S n s H) (ht : 0 ≤ t ∧ t < many) (hi : 0 ≤ i ∧ i ≤ many)
    (k : ∀ m H', S m (turnsF many nx cd n s t i).1 H' → K (.tup [.I (turnsF many nx cd n s t i).2.1, .I (turnsF many nx cd n s t i).2.2, .b true]) H') : CallF Cd f_itakeTurns [.I n, .I many, .I t, .I i, .fn fs [] cap] H K w := by
  rw [CallF_eq e_itakeTurns rfl]
  simp
  have := K_itakeTurns_l hm S nx cd hstep hcd n hn hS ht hi (Q := ?_) ?_
  · simpa using this
  · intro e m H' h1 h2 h3
    simp [h2, h3]
    exact k m H' h1
end Go.Proofs.YtcibjklpaljadaaGreat.AM
namespace Go.Proofs.YtcibjklpaljadaaGreat.AM
set_option linter.unusedSimpArgs false
set_option linter.unusedVariables false
set_option maxRecDepth 100000
set_option maxHeartbeats 2000000
open Go
attribute [-simp] AM.elems
abbrev Evt := Int × Int × Int × Int
def evC (e : Evt) : List AV := [.I e.1, .I e.2.1, .I e.2.2.1, .I e.2.2.2]
def evCs (l : List Evt) : List AV := l.flatMap evC
theorem evCs_len {l : List Evt} : (evCs l).length = l.length * 4 := by
  induction l with
  | nil => rfl
  | cons e l ih =>
    have : evCs (e :: l) = evC e ++ evCs l := rfl
    rw [this, List.length_append, ih]
    simp [evC]; omega
theorem GrS.onlyB {base G G' v n sz cs B bs} (h : GrS base G v n sz cs B) (k : Only bs G G') (hb : ∀ b ∈ bs, b ∉ grB v B) : GrS base G' v n sz cs B := by
  obtain ⟨h1, h2, h3 | ⟨h4, h5, h6⟩⟩ := h
  · exact ⟨h1, h2, .inl h3⟩
  · have hg : grB v B = [B] := by
      rcases h6 with ⟨q, _⟩ | ⟨_, _, q, _⟩
      · rw [q]; rfl
      · rw [q]; rfl
    have hB : B ∉ bs := fun hm => hb B hm (by rw [hg]; simp)
    refine ⟨h1, h2, .inr ⟨h4, Nat.lt_of_lt_of_le h5 k.1, ?_⟩⟩
    rw [k.2 B h5 hB]
    exact h6
end Go.Proofs.YtcibjklpaljadaaGreat.AM
namespace Go.Proofs.YtcibjklpaljadaaGreat.AM
set_option linter.unusedSimpArgs false
set_option linter.unusedVariables false
set_option maxRecDepth 100000
set_option maxHeartbeats 4000000
open Go
attribute [-simp] AM.elems
abbrev RV := Nat × AV × Nat × AV
end Go.Proofs.YtcibjklpaljadaaGreat.AM
namespace Go.Proofs.YtcibjklpaljadaaGreat.AM
set_option linter.unusedSimpArgs false
set_option linter.unusedVariables false
set_option maxRecDepth 100000
set_option maxHeartbeats 4000000
open Go
attribute [-simp] AM.elems
def rvB (l : List RV) : List Nat := l.flatMap fun q => [q.1, q.2.2.1]
theorem rvB_mem {l : List RV} {q : RV} (h : q ∈ l) : q.1 ∈ rvB l ∧ q.2.2.1 ∈ rvB l := ⟨List.mem_flatMap.2 ⟨q, h, by simp⟩, List.mem_flatMap.2 ⟨q, h, by simp⟩⟩
def TSt (base lo : Nat) (F : List Nat) (G : AH) (ts : List Tk) (rvs : List RV) : Prop :=
  rvs.length = ts.length ∧ (∀ (j : Nat) (t : Tk) (q : RV), ts[j]? = some t → rvs[j]? = some q → RunT base (F ++ rvB rvs) G q.1 q.2.1 q.2.2.1 q.2.2.2 t) ∧ (∀ b ∈ rvB rvs, lo ≤ b ∧ b < G.n) ∧
  (∀ (i j : Nat) (q q' : RV), i ≠ j → rvs[i]? = some q → rvs[j]? = some q' → q.1 ≠ q'.1 ∧ q.1 ≠ q'.2.2.1 ∧ q.2.2.1 ≠ q'.2.2.1)
theorem TSt.only {base lo F G G' ts rvs cs} (h : TSt base lo F G ts rvs) (k : Only cs G G') (hF : ∀ b ∈ cs, b ∈ F ∨ G.n ≤ b) (hr : ∀ b ∈ cs, b ∉ rvB rvs) : TSt base lo F G' ts rvs := by
  obtain ⟨h1, h2, h3, h4⟩ := h
  refine ⟨h1, fun j t q ht hq => ?_, fun b hb => ⟨(h3 b hb).1, by have := (h3 b hb).2; have := k.1; omega⟩, h4⟩
  have hm := rvB_mem (List.mem_of_getElem? hq)
  exact (h2 j t q ht hq).only k (fun hc => hr _ hc hm.1) (fun hc => hr _ hc hm.2) (fun b hb => by rcases hF b hb with z | z; exact .inl (List.mem_append_left _ z); exact .inr z)
end Go.Proofs.YtcibjklpaljadaaGreat.AM
namespace Go.Proofs.YtcibjklpaljadaaGreat.AM
set_option linter.unusedSimpArgs false
set_option linter.unusedVariables false
set_option maxRecDepth 100000
set_option maxHeartbeats 4000000
open Go
attribute [-simp] AM.elems
end Go.Proofs.YtcibjklpaljadaaGreat.AM
namespace Go.Proofs.YtcibjklpaljadaaGreat.AM
set_option linter.unusedSimpArgs false
set_option linter.unusedVariables false
set_option maxRecDepth 100000
set_option maxHeartbeats 2000000
open Go
attribute [-simp] AM.elems
section
variable {ok : Nat → Prop} {H : AH} {K : AV → AH → Prop} {wf : Fk K} {c : List AV} {w : Wd} {n : Int}
end
section
variable {o1 o2 : Nat → Prop}
end
end Go.Proofs.YtcibjklpaljadaaGreat.AM
namespace Go.Proofs.YtcibjklpaljadaaGreat.AM
set_option linter.unusedSimpArgs false
set_option linter.unusedVariables false
set_option maxRecDepth 100000
set_option maxHeartbeats 2000000
open Go
attribute [-simp] AM.elems
structure Pg where
  rooms : List Int
  tasks : List Sts
deriving DecidableEq, Inhabited
def L1 (ok : Nat → Prop) (H : AH) (c : List AV) (f : Sts) : Prop := ∃ v, c = [v] ∧ SV ok H v f
theorem L1.mono {ok ok' : Nat → Prop} {H H' c f} (h : L1 ok H c f) (hn : H.n ≤ H'.n) (hk : ∀ b, ok b → b < H.n → H'.bk b = H.bk b) (ho : ∀ b, ok b → b < H.n → ok' b) : L1 ok' H' c f := by
  obtain ⟨v, e, h⟩ := h; exact ⟨v, e, h.mono hn hk ho⟩
def LV (ok : Nat → Prop) (H : AH) (v : AV) (l : List Sts) : Prop := ∃ ca, SlC ok H v l.length 1 ca ∧ LF 1 (L1 ok H) l ca
theorem LV.mono {ok ok' : Nat → Prop} {H H' v l} (h : LV ok H v l) (hn : H.n ≤ H'.n) (hk : ∀ b, ok b → b < H.n → H'.bk b = H.bk b) (ho : ∀ b, ok b → b < H.n → ok' b) : LV ok' H' v l := by
  obtain ⟨ca, h1, h2⟩ := h
  exact ⟨ca, h1.mono hn hk ho, h2.imp fun c a h => h.mono hn hk ho⟩
theorem LV.ext {ok H H' c t} (h : LV ok H c t) (k : Ext H H') : LV ok H' c t := h.mono k.1 (fun b _ hb => k.2 b hb) (fun _ h _ => h)
theorem LV.alen {ok H v l} (h : LV ok H v l) : alen v = some l.length := h.choose_spec.1.alen
theorem LV.flat {ok H v l} (h : LV ok H v l) : v.flat = true := h.choose_spec.1.flat
theorem LV.big {ok H v l} (h : LV ok H v l) : l.length ≤ 8589934592 := h.choose_spec.1.1
theorem LV.at {ok H v l} (h : LV ok H v l) {i : Nat} {f : Sts} (hi : l[i]? = some f) : ∃ b o cap u, v = .sl b o l.length cap ∧ b < H.n ∧ H.load b (o + i) = some u ∧ SV ok H u f := by
  obtain ⟨ca, h1, h2⟩ := h
  have hl := (List.getElem?_eq_some_iff.1 hi).1
  obtain ⟨b, o, cap, e, ob, hb, hs⟩ := h1.at hl
  obtain ⟨c, hc, u, rfl, i1⟩ := h2.get hi
  have hh := hs i 1 (by omega)
  rw [Nat.mul_one] at hc
  rw [hc] at hh
  have := loadN_get hh (i := 0) (by omega)
  exact ⟨b, o, cap, u, e, hb, by simpa using this, i1⟩
def PgC (ok : Nat → Prop) (H : AH) (c : List AV) (p : Pg) : Prop := ∃ vr vt, c = [vr, vt] ∧ IV ok H vr p.rooms ∧ LV ok H vt p.tasks
theorem PgC.mono {ok ok' : Nat → Prop} {H H' c p} (h : PgC ok H c p) (hn : H.n ≤ H'.n) (hk : ∀ b, ok b → b < H.n → H'.bk b = H.bk b) (ho : ∀ b, ok b → b < H.n → ok' b) : PgC ok' H' c p := by
  obtain ⟨vr, vt, e, h1, h2⟩ := h
  exact ⟨vr, vt, e, h1.mono hn hk ho, h2.mono hn hk ho⟩
theorem PgC.ext {ok H H' c t} (h : PgC ok H c t) (k : Ext H H') : PgC ok H' c t := h.mono k.1 (fun b _ hb => k.2 b hb) (fun _ h _ => h)
def vaRm (l : List Int) : Bool := l.all (fun x => decide (1 ≤ x ∧ x ≤ 4)) && decide (l.length ≤ 3)
def vaF (many : Int) (f : Sts) : Bool := vaS 3 f && bxS many f
def vaPg (p : Pg) : Bool := vaRm p.rooms && decide (1 ≤ p.tasks.length ∧ p.tasks.length ≤ 3) && p.tasks.all (vaF p.rooms.length)
def newW (p : Pg) : Wd := ⟨p.tasks.map fun f => ⟨[0, 0, 0, 0], f⟩, p.rooms.map fun x => ⟨x, []⟩, 0, 0, []⟩
theorem newW_ok {p : Pg} (h : vaPg p = true) : vaWd (newW p) = true ∧ (∀ t ∈ (newW p).tasks, uL t.rest.list ≤ 40) := by
  unfold vaPg vaRm at h
  simp only [Bool.and_eq_true, decide_eq_true_eq, List.all_eq_true] at h
  obtain ⟨⟨⟨h1, h2⟩, h3⟩, h4⟩ := h
  have hw : ∀ f ∈ p.tasks, ∀ s ∈ f.list, vaW p.rooms.length s = true := fun f hf s hs => by
    have h5 := h4 f hf
    unfold vaF vaS at h5
    simp only [Bool.and_eq_true, decide_eq_true_eq] at h5
    refine vaW_iff.2 ⟨?_, ?_⟩
    · have := (ok_bx (many := p.rooms.length) (by omega) h5.1.1).2 h5.2
      rw [okS_mem, List.all_eq_true] at this
      exact this s hs
    · have := ctS_mem hs; unfold ctT; omega
  refine ⟨vaWd_iff.2 ⟨by simp [newW]; omega, rfl, ?_, fun t ht => ?_⟩, fun t ht => ?_⟩
  · unfold vaBs newW
    simp only [Bool.and_eq_true, decide_eq_true_eq, List.length_map, List.all_map, List.all_eq_true]
    refine ⟨fun x hx => ?_, h2⟩
    have := h1 x hx
    unfold vaB
    simp; omega
  · simp only [newW, List.mem_map] at ht
    obtain ⟨f, hf, rfl⟩ := ht
    refine vaT_iff.2 ⟨rfl, by simp [isW], fun s hs => ?_⟩
    simp only [newW, List.length_map]
    exact hw f hf s hs
  · simp only [newW, List.mem_map] at ht
    obtain ⟨f, hf, rfl⟩ := ht
    have h5 := h4 f hf
    unfold vaF vaS at h5
    simp only [Bool.and_eq_true, decide_eq_true_eq] at h5
    have hl := @len_ctS f
    have := uL_le (l := f.list) (m := 16) (fun s hs => (vaW_iff.1 (hw f hf s hs)).2)
    simp only; omega
section
variable {H : AH} {K : AV → AH → Prop} {w : Fk K}
end
end Go.Proofs.YtcibjklpaljadaaGreat.AM
namespace Go.Proofs.YtcibjklpaljadaaGreat.AM
set_option linter.unusedSimpArgs false
set_option linter.unusedVariables false
set_option maxRecDepth 100000
set_option maxHeartbeats 2000000
open Go
attribute [-simp] AM.elems
end Go.Proofs.YtcibjklpaljadaaGreat.AM
namespace Go.Proofs.YtcibjklpaljadaaGreat.AM
set_option linter.unusedSimpArgs false
set_option linter.unusedVariables false
set_option maxRecDepth 100000
set_option maxHeartbeats 2000000
open Go
section
variable {H : AH} {K : AV → AH → Prop} {r : Nat} {w : Fk K} {m boxes : Int}
end
end Go.Proofs.YtcibjklpaljadaaGreat.AM
namespace Go.Proofs.YtcibjklpaljadaaGreat.AM
set_option linter.unusedSimpArgs false
set_option linter.unusedVariables false
set_option maxRecDepth 100000
set_option maxHeartbeats 2000000
open Go
attribute [-simp] AM.elems
theorem GrS.keep {base : Nat} {H G : AH} {v n sz cs B} (h : GrS base H v n sz cs B) (hn : H.n ≤ G.n) (hk : ∀ b, base ≤ b → b < H.n → G.bk b = H.bk b) : GrS base G v n sz cs B := by
  obtain ⟨h1, h2, h3 | ⟨h4, h5, h6⟩⟩ := h
  · exact ⟨h1, h2, .inl h3⟩
  · exact ⟨h1, h2, .inr ⟨h4, by omega, by rw [hk B h4 h5]; exact h6⟩⟩
theorem GrS.keep1 {base : Nat} {H G : AH} {v n sz cs B} (h : GrS base H v n sz cs B) (hn : H.n ≤ G.n) (hk : base ≤ B → B < H.n → G.bk B = H.bk B) : GrS base G v n sz cs B := by
  obtain ⟨h1, h2, h3 | ⟨h4, h5, h6⟩⟩ := h
  · exact ⟨h1, h2, .inl h3⟩
  · exact ⟨h1, h2, .inr ⟨h4, by omega, by rw [hk h4 h5]; exact h6⟩⟩
def T0 (lo B : Nat) (G : AH) (l : List Sts) (cs : List AV) : Prop :=
  (l = [] ∧ cs = []) ∨ ∃ v0 c0 B0 f0 l' cs', l = f0 :: l' ∧ cs = v0 :: cs' ∧ GrS lo G v0 f0.list.length 8 c0 B0 ∧ B0 ≠ B ∧ B0 < G.n ∧ SF (fun b => lo ≤ b ∧ b ≠ B ∧ b ≠ B0) G f0 c0 ∧ LF 1 (L1 (fun b => lo ≤ b ∧ b ≠ B ∧ b ≠ B0) G) l' cs'
theorem T0.lf {lo B G l cs} (h : T0 lo B G l cs) : LF 1 (L1 (fun b => lo ≤ b ∧ b ≠ B) G) l cs := by
  rcases h with ⟨rfl, rfl⟩ | ⟨v0, c0, B0, f0, l', cs', rfl, rfl, h1, h2, h3, h4, h5⟩
  · rfl
  · exact ⟨[v0], cs', rfl, rfl, ⟨v0, rfl, c0, h1.ivB (fun a b => ⟨a, h2⟩), h4.mono (Nat.le_refl _) (fun _ _ _ => rfl) (fun b hb _ => ⟨hb.1, hb.2.1⟩)⟩, h5.imp fun c a h => h.mono (Nat.le_refl _) (fun _ _ _ => rfl) (fun b hb _ => ⟨hb.1, hb.2.1⟩)⟩
theorem T0.up {lo lo' B G l cs} (h : T0 lo B G l cs) (hl : lo' ≤ lo) : T0 lo' B G l cs := by
  rcases h with ⟨rfl, rfl⟩ | ⟨v0, c0, B0, f0, l', cs', rfl, rfl, h1, h2, h3, h4, h5⟩
  · exact .inl ⟨rfl, rfl⟩
  · exact .inr ⟨v0, c0, B0, f0, l', cs', rfl, rfl, h1.up hl, h2, h3, h4.mono (Nat.le_refl _) (fun _ _ _ => rfl) (fun b hb _ => ⟨by omega, hb.2⟩), h5.imp fun c a h => h.mono (Nat.le_refl _) (fun _ _ _ => rfl) (fun b hb _ => ⟨by omega, hb.2⟩)⟩
theorem T0.keep {lo B G G' l cs} (h : T0 lo B G l cs) (hn : G.n ≤ G'.n) (hk : ∀ b, lo ≤ b → b ≠ B → b < G.n → G'.bk b = G.bk b) : T0 lo B G' l cs := by
  rcases h with ⟨rfl, rfl⟩ | ⟨v0, c0, B0, f0, l', cs', rfl, rfl, h1, h2, h3, h4, h5⟩
  · exact .inl ⟨rfl, rfl⟩
  · exact .inr ⟨v0, c0, B0, f0, l', cs', rfl, rfl, h1.keep1 hn (fun a b => hk _ a h2 b), h2, by omega, h4.mono hn (fun b hb hb2 => hk b hb.1 hb.2.1 hb2) (fun _ h _ => h), h5.imp fun c a h => h.mono hn (fun b hb hb2 => hk b hb.1 hb.2.1 hb2) (fun _ h _ => h)⟩
theorem GrS.name {base lo G v n sz cs B} (h : GrS base G v n sz cs B) (hb : lo ≤ base) (h0 : 0 < base) (hG : 0 < G.n) : ∃ B', GrS lo G v n sz cs B' ∧ ((B' = B ∧ base ≤ B' ∧ B' < G.n) ∨ (B' = 0 ∧ cs = [])) := by
  obtain ⟨h1, h2, ⟨h3, h3'⟩ | ⟨h4, h5, h6⟩⟩ := h
  · refine ⟨0, ⟨h1, h2, .inl ⟨h3, h3'⟩⟩, .inr ⟨rfl, List.eq_nil_of_length_eq_zero (by rw [h2, h3']; simp)⟩⟩
  · exact ⟨B, ⟨h1, h2, .inr ⟨by omega, h5, h6⟩⟩, .inl ⟨rfl, h4, h5⟩⟩
theorem T0.snoc {base lo B B' r : Nat} {G G1 G' : AH} {g v : AV} {l : List Sts} {f : Sts} {n : Nat} {cs c : List AV} {B1 : Nat} (hg : GrS base G g n 1 cs B) (h : T0 lo B G l cs) (hb0 : 0 < base) (hBb : base ≤ B) (hbl : base ≤ lo) (hlo : lo ≤ G.n) (hr : r < lo) (x1 : St r G G1) (o : Only (grB g B) G1 G') (hB : (B' = B ∧ B ∈ grB g B) ∨ B' = G1.n)
    (gs : GrS G.n G1 v f.list.length 8 c B1) (sf : SF (fun b => G.n ≤ b ∧ b ≠ B1) G1 f c) : T0 lo B' G' (l ++ [f]) (cs ++ [v]) := by
  have hm : ∀ b, b ∈ grB g B → b = B ∧ base ≤ B ∧ B < G.n := fun b hb => hg.mem hb
  have hB2 : (B' = B ∧ B < G.n) ∨ B' = G1.n := by
    rcases hB with q | q
    · exact .inl ⟨q.1, (hm _ q.2).2.2⟩
    · exact .inr q
  have n1 := x1.1
  have n2 := o.1
  have hk1 : ∀ b, G.n ≤ b → b < G1.n → G'.bk b = G1.bk b := fun b h1 h2 => o.2 b h2 (fun hq => by have := hm b hq; omega)
  have hk2 : ∀ b, lo ≤ b → b ≠ B → b < G.n → G'.bk b = G.bk b := fun b h1 h2 h3 => by rw [o.2 b (by omega) (fun hq => h2 (hm b hq).1), x1.2 b h3 (by omega)]
  rcases h with ⟨rfl, rfl⟩ | ⟨v0, c0, B0, f0, l', cs', rfl, rfl, h1, h2, h3, h4, h5⟩
  · obtain ⟨B2, g2, q⟩ := gs.name (lo := lo) hlo (by omega) (by omega)
    refine .inr ⟨v, c, B2, f, [], [], rfl, rfl, g2.keep1 n2 (fun a b => hk1 _ ?_ b), by omega, by omega, ?_, rfl⟩
    · rcases q with q | q
      · exact q.2.1
      · omega
    · rcases q with q | q
      · exact sf.mono n2 (fun b hb hb2 => hk1 b hb.1 hb2) (fun b hb hb2 => ⟨by omega, by omega, by omega⟩)
      · exact sf.mono n2 (fun b hb hb2 => hk1 b hb.1 hb2) (fun b hb hb2 => ⟨by omega, by omega, by omega⟩)
  · refine .inr ⟨v0, c0, B0, f0, l' ++ [f], cs' ++ [v], rfl, rfl, h1.keep1 (by omega) (fun a b => hk2 _ a h2 b), by omega, by omega, h4.mono (by omega) (fun b hb hb2 => hk2 b hb.1 hb.2.1 hb2) (fun b hb hb2 => ⟨hb.1, by omega, hb.2.2⟩), ?_⟩
    refine LF.app (h5.imp fun c a h => h.mono (by omega) (fun b hb hb2 => hk2 b hb.1 hb.2.1 hb2) (fun b hb hb2 => ⟨hb.1, by omega, hb.2.2⟩)) (LF.one ⟨v, rfl, (gs.sv sf).mono n2 (fun b hb hb2 => hk1 b hb hb2) (fun b hb hb2 => ⟨by omega, by omega, by omega⟩)⟩ rfl)
section
variable {H : AH} {K : AV → AH → Prop} {r : Nat} {w : Fk K} {m boxes : Int}
end
end Go.Proofs.YtcibjklpaljadaaGreat.AM
namespace Go.Proofs.YtcibjklpaljadaaGreat.AM
set_option linter.unusedSimpArgs false
set_option linter.unusedVariables false
set_option maxRecDepth 100000
set_option maxHeartbeats 2000000
open Go
attribute [-simp] AM.elems
def w0 (p : Pg) : Wd := if vaPg p = true then newW p else zeroW
theorem WC.st {base r : Nat} {H H' : AH} {c : List AV} {t : Wd} (h : WC (fun b => base ≤ b) H c t) (k : St r H H') (hr : r < base) : WC (fun b => base ≤ b) H' c t := h.mono k.1 (fun b hb hb2 => k.2 b hb2 (by omega)) (fun _ h _ => h)
theorem WX.st {base r : Nat} {H H' : AH} {c : List AV} {t : Wd} (h : WX (fun b => base ≤ b) H c t) (k : St r H H') (hr : r < base) : WX (fun b => base ≤ b) H' c t := h.mono k.1 (fun b hb hb2 => k.2 b hb2 (by omega)) (fun _ h _ => h)
section
variable {H : AH} {K : AV → AH → Prop} {r : Nat} {w : Fk K} {m boxes : Int}
end
end Go.Proofs.YtcibjklpaljadaaGreat.AM
namespace Go.Proofs.YtcibjklpaljadaaGreat.AM
set_option linter.unusedSimpArgs false
set_option linter.unusedVariables false
set_option maxRecDepth 100000
set_option maxHeartbeats 2000000
open Go
attribute [-simp] AM.elems
section
variable {H : AH} {K : AV → AH → Prop} {w : Fk K}
end
end Go.Proofs.YtcibjklpaljadaaGreat.AM
namespace Go.Proofs.YtcibjklpaljadaaGreat.AM
set_option linter.unusedSimpArgs false
set_option linter.unusedVariables false
set_option maxRecDepth 100000
set_option maxHeartbeats 2000000
open Go
attribute [-simp] AM.elems
theorem runW_rest {w : Wd} (h : ¬ w.idle < w.tasks.length) : ∀ n, runW n w = w
  | 0 => rfl
  | n + 1 => by unfold runW; rw [if_neg h]
theorem boW.run {w : Wd} {n m : Nat} (h : boW w (n + m)) (hv : vaWd w = true) : boW (runW n w) m := by
  obtain ⟨a1, a2, a3, a4, ⟨p, a5, a6⟩, a7⟩ := runW_keeps n hv
  have hu := a7 4000 (fun t ht => (h.1 t ht).2)
  have ho := h.2
  refine ⟨fun t ht => ⟨?_, hu t ht⟩, by rw [a5, List.length_append]; omega⟩
  have := (show smW (runW n w) from ⟨a1, hu, by rw [a5, List.length_append]; omega⟩).task ht
  omega
theorem boW.le {w : Wd} {n m : Nat} (h : boW w n) (hm : m ≤ n) : boW w m := ⟨h.1, by have := h.2; omega⟩
end Go.Proofs.YtcibjklpaljadaaGreat.AM
namespace Go.Proofs.YtcibjklpaljadaaGreat.AM
set_option linter.unusedSimpArgs false
set_option linter.unusedVariables false
set_option maxRecDepth 100000
set_option maxHeartbeats 2000000
open Go
attribute [-simp] AM.elems
theorem AH.same {G G' : AH} (hn : G.n = G'.n) (h : ∀ b, G.bk b = G'.bk b) : G = G' := by
  cases G; cases G'; simp only [AH.mk.injEq] at *; exact ⟨hn, funext h⟩
theorem GrS.out {base G v n sz cs B} (h : GrS base G v n sz cs B) (hn : 0 < n) : ∃ cap xs, v = .sl B 0 n cap ∧ base ≤ B ∧ B < G.n ∧ G.bk B = some ⟨cs ++ xs, true⟩ := by
  obtain ⟨h1, h2, ⟨h3, h3'⟩ | ⟨h4, h5, ⟨rfl, h6⟩ | ⟨c0, ex, rfl, h7, h8, h9⟩⟩⟩ := h
  · omega
  · exact ⟨_, [], rfl, h4, h5, by simpa using h6⟩
  · exact ⟨_, ex, rfl, h4, h5, h9⟩
section
variable {H : AH} {K : AV → AH → Prop} {r : Nat} {w : Fk K} {m boxes : Int}
end
end Go.Proofs.YtcibjklpaljadaaGreat.AM
namespace Go.Proofs.YtcibjklpaljadaaGreat.AM
set_option linter.unusedSimpArgs false
set_option linter.unusedVariables false
set_option maxRecDepth 100000
set_option maxHeartbeats 2000000
open Go
attribute [-simp] AM.elems
section
variable {H : AH} {K : AV → AH → Prop} {w : Fk K}
end
end Go.Proofs.YtcibjklpaljadaaGreat.AM
namespace Go.Proofs.YtcibjklpaljadaaGreat.AM
set_option linter.unusedSimpArgs false
set_option linter.unusedVariables false
set_option maxRecDepth 100000
set_option maxHeartbeats 2000000
open Go
attribute [-simp] AM.elems
end Go.Proofs.YtcibjklpaljadaaGreat.AM
namespace Go.Proofs.YtcibjklpaljadaaGreat.AM
set_option linter.unusedSimpArgs false
set_option linter.unusedVariables false
set_option maxRecDepth 100000
set_option maxHeartbeats 2000000
open Go
attribute [-simp] AM.elems
theorem newW_bo {p : Pg} (hv : vaPg p = true) : vaWd (newW p) = true ∧ boW (newW p) 850000 ∧ (newW p).boxes.length ≤ 3 := by
  obtain ⟨h1, h2⟩ := newW_ok hv
  have hv' := hv
  unfold vaPg vaRm at hv'
  simp only [Bool.and_eq_true, decide_eq_true_eq, List.all_eq_true] at hv'
  refine ⟨h1, ⟨fun t ht => ⟨?_, by have := h2 t ht; omega⟩, by simp [newW]⟩, by simp [newW]; omega⟩
  simp only [newW, List.mem_map] at ht
  obtain ⟨f, hf, rfl⟩ := ht
  have := hv'.2 f hf
  unfold vaF vaS at this
  simp only [Bool.and_eq_true, decide_eq_true_eq] at this
  simp only; omega
section
variable {H : AH} {K : AV → AH → Prop} {w : Fk K}
end
end Go.Proofs.YtcibjklpaljadaaGreat.AM
namespace Go.Proofs.YtcibjklpaljadaaGreat.AM
set_option linter.unusedSimpArgs false
set_option linter.unusedVariables false
set_option maxRecDepth 100000
set_option maxHeartbeats 2000000
open Go
attribute [-simp] AM.elems
def EvV (ok : Nat → Prop) (H : AH) (v : AV) (l : List Evt) : Prop := SlC ok H v l.length 4 (evCs l)
theorem EvV.mono {ok ok' : Nat → Prop} {H H' v l} (h : EvV ok H v l) (hn : H.n ≤ H'.n) (hk : ∀ b, ok b → b < H.n → H'.bk b = H.bk b) (ho : ∀ b, ok b → b < H.n → ok' b) : EvV ok' H' v l := SlC.mono h hn hk ho
theorem EvV.ext {ok H H' v l} (h : EvV ok H v l) (k : Ext H H') : EvV ok H' v l := h.mono k.1 (fun b _ hb => k.2 b hb) (fun _ h _ => h)
theorem EvV.alen {ok H v l} (h : EvV ok H v l) : alen v = some l.length := SlC.alen h
theorem EvV.flat {ok H v l} (h : EvV ok H v l) : v.flat = true := SlC.flat h
theorem EvV.big {ok H v l} (h : EvV ok H v l) : l.length ≤ 8589934592 := h.1
theorem EvV.nil {ok H} : EvV ok H .nils [] := ⟨by simp, rfl, .inl ⟨rfl, .inl rfl⟩⟩
theorem seg_evCs : ∀ {l : List Evt} {i : Nat} {e : Evt}, l[i]? = some e → seg (evCs l) (i * 4) 4 = some (evC e)
  | [], i, e, h => by simp at h
  | x :: l, 0, e, h => by
    simp at h; subst h
    unfold seg
    rw [if_pos (by rw [evCs_len]; simp; omega)]
    simp [evCs, evC]
  | x :: l, i + 1, e, h => by
    have := seg_evCs (l := l) (i := i) (e := e) (by simpa using h)
    rw [← this]
    have e1 : evCs (x :: l) = evC x ++ evCs l := by simp [evCs]
    have e2 : (i + 1) * 4 = (evC x).length + i * 4 := by simp [evC]; omega
    unfold seg
    rw [e1, e2, ← List.drop_drop, List.drop_left]
    simp only [List.length_append]
    by_cases hq : i * 4 + 4 ≤ (evCs l).length
    · rw [if_pos (by omega), if_pos hq]
    · rw [if_neg (by omega), if_neg hq]
theorem EvV.at {ok H v l} (h : EvV ok H v l) {i : Nat} {e : Evt} (hi : l[i]? = some e) : ∃ b o cap, v = .sl b o l.length cap ∧ b < H.n ∧ H.loadN b (o + i * 4) 4 = some (evC e) := by
  have hl := (List.getElem?_eq_some_iff.1 hi).1
  obtain ⟨b, o, cap, e1, ob, hb, hs⟩ := SlC.at h hl
  exact ⟨b, o, cap, e1, hb, by rw [hs _ _ (by omega)]; exact seg_evCs hi⟩
section
variable {ok : Nat → Prop} {H : AH} {K : AV → AH → Prop} {wf : Fk K} {c : List AV} {w : Wd} {n : Int}
end
end Go.Proofs.YtcibjklpaljadaaGreat.AM
namespace Go.Proofs.YtcibjklpaljadaaGreat.AM
set_option linter.unusedSimpArgs false
set_option linter.unusedVariables false
set_option maxRecDepth 100000
set_option maxHeartbeats 2000000
open Go
attribute [-simp] AM.elems
section
variable {ok : Nat → Prop} {H : AH} {K : AV → AH → Prop} {wf : Fk K} {c : List AV} {w : Wd}
end
end Go.Proofs.YtcibjklpaljadaaGreat.AM
namespace Go.Proofs.YtcibjklpaljadaaGreat.AM
set_option linter.unusedSimpArgs false
set_option linter.unusedVariables false
set_option maxRecDepth 100000
set_option maxHeartbeats 2000000
open Go
attribute [-simp] AM.elems
theorem EvV.elems {ok H v l} (h : EvV ok H v l) : AM.elems H 4 v = some (evCs l) := SlC.elems h
section
variable {ok : Nat → Prop} {H : AH} {K : AV → AH → Prop} {wf : Fk K} {c : List AV} {w : Wd} {n : Int}
end
end Go.Proofs.YtcibjklpaljadaaGreat.AM
namespace Go.Proofs.YtcibjklpaljadaaGreat.AM
set_option linter.unusedSimpArgs false
set_option linter.unusedVariables false
set_option maxRecDepth 100000
set_option maxHeartbeats 2000000
open Go
attribute [-simp] AM.elems
section
variable {H : AH} {K : AV → AH → Prop} {w : Fk K}
end
end Go.Proofs.YtcibjklpaljadaaGreat.AM
namespace Go.Proofs.YtcibjklpaljadaaGreat.AM
set_option linter.unusedSimpArgs false
set_option linter.unusedVariables false
set_option maxRecDepth 100000
set_option maxHeartbeats 2000000
open Go
attribute [-simp] AM.elems
section
variable {ok : Nat → Prop} {H : AH} {K : AV → AH → Prop} {w : Fk K} {l : List Evt} {v : AV} {box : Int}
end
end Go.Proofs.YtcibjklpaljadaaGreat.AM
namespace Go.Proofs.YtcibjklpaljadaaGreat.AM
set_option linter.unusedSimpArgs false
set_option linter.unusedVariables false
set_option maxRecDepth 100000
set_option maxHeartbeats 2000000
open Go
attribute [-simp] AM.elems
theorem runW_succ {w : Wd} (h : w.idle < w.tasks.length) (n : Nat) : runW (n + 1) w = runW n (stepW w) := by
  conv => lhs; unfold runW
  rw [if_pos h]
end Go.Proofs.YtcibjklpaljadaaGreat.AM
namespace Go.Proofs.YtcibjklpaljadaaGreat.AM
set_option linter.unusedSimpArgs false
set_option linter.unusedVariables false
set_option maxRecDepth 100000
set_option maxHeartbeats 2000000
open Go
attribute [-simp] AM.elems
end Go.Proofs.YtcibjklpaljadaaGreat.AM
namespace Go.Proofs.YtcibjklpaljadaaGreat.AM
set_option linter.unusedSimpArgs false
set_option linter.unusedVariables false
set_option maxRecDepth 100000
set_option maxHeartbeats 2000000
open Go
attribute [-simp] AM.elems
theorem set_same {α : Type} {l : List α} {i : Nat} {x : α} (h : l[i]? = some x) : l.set i x = l := by
  obtain ⟨hl, rfl⟩ := List.getElem?_eq_some_iff.1 h
  exact List.set_getElem_self hl
def stillT (t : Tk) (bs : List Bx) : Prop := (stepP t bs).2.2.2 = 3 ∨ (stepP t bs).2.2.2 = 4
theorem talk_still {t : Tk} {bs : List Bx} {s : St1} {r : List St1} (h : (talkP t bs s r).2.2 = 3 ∨ (talkP t bs s r).2.2 = 4) : (talkP t bs s r).1 = t ∧ (talkP t bs s r).2.1 = bs := by
  unfold talkP at h ⊢
  split
  · exact ⟨rfl, rfl⟩
  · rename_i b hb
    rw [hb] at h
    simp only at h ⊢
    split
    · rename_i hk
      rw [if_pos hk] at h
      split
      · rename_i hr; rw [if_pos hr] at h; simp at h
      · exact ⟨rfl, rfl⟩
    · rename_i hk
      rw [if_neg hk] at h
      split
      · exact ⟨rfl, rfl⟩
      · rename_i y q hq; rw [hq] at h; simp at h
theorem still_same {t : Tk} {bs : List Bx} (h : stillT t bs) : (stepP t bs).1 = t ∧ (stepP t bs).2.1 = bs ∧ (stepP t bs).2.2.1 = [] := by
  unfold stillT stepP at h
  unfold stepP
  split
  · exact ⟨rfl, rfl, rfl⟩
  · rename_i s r hr
    rw [hr] at h
    simp only at h
    split
    · rename_i hk
      rw [if_pos hk] at h
      have := talk_still h
      exact ⟨this.1, this.2, rfl⟩
    · rename_i hk
      rw [if_neg hk] at h
      split
      · rename_i h2; rw [if_pos h2] at h; simp at h
      · rename_i h2
        rw [if_neg h2] at h
        split
        · rename_i h3; rw [if_pos h3] at h; simp at h
        · rename_i h3
          rw [if_neg h3] at h
          split
          · rename_i h4; rw [if_pos h4] at h; simp at h
          · rename_i h4; rw [if_neg h4] at h; simp at h
def idleI (w : Wd) : Prop := ∀ j : Int, 1 ≤ j → j ≤ w.idle → ∀ t, w.tasks[((w.turn - j) % w.tasks.length).toNat]? = some t → stillT t w.boxes
theorem idleI.step {w : Wd} (h : idleI w) (hv : vaWd w = true) (hi : w.idle < w.tasks.length) : idleI (stepW w) := by
  obtain ⟨h1, h2, h3, h4⟩ := vaWd_iff.1 hv
  obtain ⟨t, ht⟩ : ∃ t, w.tasks[w.turn.toNat]? = some t := ⟨_, List.getElem?_eq_getElem (by omega)⟩
  have hc := step_code' (bs := w.boxes) (h4 t (List.mem_of_getElem? ht))
  have e : stepW w = ⟨w.tasks.set w.turn.toNat (stepP t w.boxes).1, (stepP t w.boxes).2.1, (nextT w.tasks.length w.turn w.idle (stepP t w.boxes).2.2.2).1, (nextT w.tasks.length w.turn w.idle (stepP t w.boxes).2.2.2).2, w.out ++ (stepP t w.boxes).2.2.1⟩ := by
    unfold stepW; rw [ht]
  rw [e]
  intro j hj1 hj2 u hu
  simp only at hj2 hu ⊢
  by_cases c1 : (stepP t w.boxes).2.2.2 = 1
  · rw [c1] at hj2; simp [nextT] at hj2; omega
  by_cases c2 : (stepP t w.boxes).2.2.2 = 2
  · rw [c2] at hj2; simp [nextT] at hj2; omega
  have hs : stillT t w.boxes := by unfold stillT; omega
  obtain ⟨s1, s2, s3⟩ := still_same hs
  rw [s1, set_same ht] at hu
  rw [s2]
  have en : nextT w.tasks.length w.turn w.idle (stepP t w.boxes).2.2.2 = ((w.turn + 1) % w.tasks.length, w.idle + 1) := by unfold nextT; rw [if_neg c1, if_neg c2]
  rw [en] at hj2 hu
  simp only at hj2 hu
  have hm : (((w.turn + 1) % w.tasks.length - j) % w.tasks.length) = (w.turn + 1 - j) % w.tasks.length := by
    rw [Int.emod_sub_emod]
  rw [hm] at hu
  by_cases j1 : j = 1
  · subst j1
    rw [show w.turn + 1 - 1 = w.turn by omega, Int.emod_eq_of_lt (by omega) (by omega), ht] at hu
    cases hu; exact hs
  · exact h (j - 1) (by omega) (by omega) u (by rw [show w.turn - (j - 1) = w.turn + 1 - j by omega]; exact hu)
theorem idleI.run : ∀ (n : Nat) {w : Wd}, idleI w → vaWd w = true → idleI (runW n w)
  | 0, _, h, _ => h
  | n + 1, w, h, hv => by
    unfold runW
    split
    · rename_i hi
      exact idleI.run n (h.step hv hi) (stepW_keeps hv hi).1
    · exact h
theorem idleI.rest {w : Wd} (h : idleI w) (hv : vaWd w = true) (hi : ¬ w.idle < w.tasks.length) : ∀ t ∈ w.tasks, stillT t w.boxes := by
  intro t ht
  obtain ⟨h1, h2, h3, h4⟩ := vaWd_iff.1 hv
  obtain ⟨i, hi2⟩ := List.mem_iff_getElem?.1 ht
  have hl := (List.getElem?_eq_some_iff.1 hi2).1
  by_cases c : (i : Int) < w.turn
  · refine h (w.turn - i) (by omega) (by omega) t ?_
    rw [show w.turn - (w.turn - i) = i by omega, Int.emod_eq_of_lt (by omega) (by omega)]; exact hi2
  · refine h (w.turn - i + w.tasks.length) (by omega) (by omega) t ?_
    rw [show w.turn - (w.turn - i + w.tasks.length) = (i : Int) - w.tasks.length by omega, Int.sub_emod_right, Int.emod_eq_of_lt (by omega) (by omega)]; exact hi2
end Go.Proofs.YtcibjklpaljadaaGreat.AM
namespace Go.Proofs.YtcibjklpaljadaaGreat.AM
set_option linter.unusedSimpArgs false
set_option linter.unusedVariables false
set_option maxRecDepth 100000
set_option maxHeartbeats 2000000
open Go
attribute [-simp] AM.elems
end Go.Proofs.YtcibjklpaljadaaGreat.AM
namespace Go.Proofs.YtcibjklpaljadaaGreat.AM
set_option linter.unusedSimpArgs false
set_option linter.unusedVariables false
set_option maxRecDepth 100000
set_option maxHeartbeats 2000000
open Go
attribute [-simp] AM.elems
structure Oc where
  out : List Int
  items : List (List Int)
  ended : List Bool
  rest : Bool
deriving DecidableEq, Inhabited
def LIc (ok : Nat → Prop) (H : AH) (c : List AV) (x : List Int) : Prop := ∃ v, c = [v] ∧ IV ok H v x
theorem LIc.mono {ok ok' : Nat → Prop} {H H' c f} (h : LIc ok H c f) (hn : H.n ≤ H'.n) (hk : ∀ b, ok b → b < H.n → H'.bk b = H.bk b) (ho : ∀ b, ok b → b < H.n → ok' b) : LIc ok' H' c f := by
  obtain ⟨v, e, h⟩ := h; exact ⟨v, e, h.mono hn hk ho⟩
def LIV (ok : Nat → Prop) (H : AH) (v : AV) (l : List (List Int)) : Prop := ∃ ca, SlC ok H v l.length 1 ca ∧ LF 1 (LIc ok H) l ca
theorem LIV.mono {ok ok' : Nat → Prop} {H H' v l} (h : LIV ok H v l) (hn : H.n ≤ H'.n) (hk : ∀ b, ok b → b < H.n → H'.bk b = H.bk b) (ho : ∀ b, ok b → b < H.n → ok' b) : LIV ok' H' v l := by
  obtain ⟨ca, h1, h2⟩ := h
  exact ⟨ca, h1.mono hn hk ho, h2.imp fun c a h => h.mono hn hk ho⟩
theorem LIV.ext {ok H H' c t} (h : LIV ok H c t) (k : Ext H H') : LIV ok H' c t := h.mono k.1 (fun b _ hb => k.2 b hb) (fun _ h _ => h)
theorem LIV.alen {ok H v l} (h : LIV ok H v l) : alen v = some l.length := h.choose_spec.1.alen
theorem LIV.at {ok H v l} (h : LIV ok H v l) {i : Nat} {f : List Int} (hi : l[i]? = some f) : ∃ b o cap u, v = .sl b o l.length cap ∧ b < H.n ∧ H.load b (o + i) = some u ∧ IV ok H u f := by
  obtain ⟨ca, h1, h2⟩ := h
  have hl := (List.getElem?_eq_some_iff.1 hi).1
  obtain ⟨b, o, cap, e, ob, hb, hs⟩ := h1.at hl
  obtain ⟨c, hc, u, rfl, i1⟩ := h2.get hi
  have hh := hs i 1 (by omega)
  rw [Nat.mul_one] at hc
  rw [hc] at hh
  have := loadN_get hh (i := 0) (by omega)
  exact ⟨b, o, cap, u, e, hb, by simpa using this, i1⟩
def Bls (l : List Bool) : List AV := l.map .b
def FlV (ok : Nat → Prop) (H : AH) (v : AV) (l : List Bool) : Prop := SlC ok H v l.length 1 (Bls l)
theorem FlV.mono {ok ok' : Nat → Prop} {H H' v l} (h : FlV ok H v l) (hn : H.n ≤ H'.n) (hk : ∀ b, ok b → b < H.n → H'.bk b = H.bk b) (ho : ∀ b, ok b → b < H.n → ok' b) : FlV ok' H' v l := SlC.mono h hn hk ho
theorem FlV.ext {ok H H' v l} (h : FlV ok H v l) (k : Ext H H') : FlV ok H' v l := h.mono k.1 (fun b _ hb => k.2 b hb) (fun _ h _ => h)
theorem FlV.alen {ok H v l} (h : FlV ok H v l) : alen v = some l.length := SlC.alen h
theorem FlV.at {ok H v l} (h : FlV ok H v l) {i : Nat} {x : Bool} (hi : l[i]? = some x) : ∃ b o cap, v = .sl b o l.length cap ∧ b < H.n ∧ H.load b (o + i) = some (.b x) := by
  have hl := (List.getElem?_eq_some_iff.1 hi).1
  obtain ⟨b, o, cap, e, ob, hb, hs⟩ := SlC.at h hl
  have hh := hs i 1 (by omega)
  have h2 : seg (Bls l) i 1 = some [.b x] := by
    unfold seg
    rw [if_pos (by simp [Bls]; omega)]
    congr 1
    have hl2 : i < (Bls l).length := by simp [Bls]; omega
    have hx : (Bls l)[i] = .b x := by
      have h3 := List.getElem?_eq_getElem hl2
      have h4 : (Bls l)[i]? = some (.b x) := by simp [Bls, hi]
      rw [h4] at h3; exact (Option.some.inj h3).symm
    rw [List.drop_eq_getElem_cons hl2, hx]; rfl
  rw [h2] at hh
  have := loadN_get hh (i := 0) (by omega)
  exact ⟨b, o, cap, e, hb, by simpa using this⟩
def OC (ok : Nat → Prop) (H : AH) (c : List AV) (o : Oc) : Prop := ∃ v1 v2 v3, c = [v1, v2, v3, .b o.rest] ∧ IV ok H v1 o.out ∧ LIV ok H v2 o.items ∧ FlV ok H v3 o.ended
theorem OC.mono {ok ok' : Nat → Prop} {H H' c t} (h : OC ok H c t) (hn : H.n ≤ H'.n) (hk : ∀ b, ok b → b < H.n → H'.bk b = H.bk b) (ho : ∀ b, ok b → b < H.n → ok' b) : OC ok' H' c t := by
  obtain ⟨v1, v2, v3, e, h1, h2, h3⟩ := h
  exact ⟨v1, v2, v3, e, h1.mono hn hk ho, h2.mono hn hk ho, h3.mono hn hk ho⟩
theorem OC.ext {ok H H' c t} (h : OC ok H c t) (k : Ext H H') : OC ok H' c t := h.mono k.1 (fun b _ hb => k.2 b hb) (fun _ h _ => h)
section
variable {ok : Nat → Prop} {H : AH} {K : AV → AH → Prop} {wf : Fk K}
end
section
variable {ok : Nat → Prop} {H : AH} {K : AV → AH → Prop} {wf : Fk K} {c : List AV} {w : Wd}
end
end Go.Proofs.YtcibjklpaljadaaGreat.AM
namespace Go.Proofs.YtcibjklpaljadaaGreat.AM
set_option linter.unusedSimpArgs false
set_option linter.unusedVariables false
set_option maxRecDepth 100000
set_option maxHeartbeats 2000000
open Go
attribute [-simp] AM.elems
end Go.Proofs.YtcibjklpaljadaaGreat.AM
namespace Go.Proofs.YtcibjklpaljadaaGreat.AM
set_option linter.unusedSimpArgs false
set_option linter.unusedVariables false
set_option maxRecDepth 100000
set_option maxHeartbeats 2000000
open Go
attribute [-simp] AM.elems
section
variable {ok : Nat → Prop} {H : AH} {K : AV → AH → Prop} {w : Fk K} {c : List AV} {p : Pg}
end
end Go.Proofs.YtcibjklpaljadaaGreat.AM
namespace Go.Proofs.YtcibjklpaljadaaGreat.AM
set_option linter.unusedSimpArgs false
set_option linter.unusedVariables false
set_option maxRecDepth 100000
set_option maxHeartbeats 2000000
open Go
attribute [-simp] AM.elems
end Go.Proofs.YtcibjklpaljadaaGreat.AM
namespace Go.Proofs.YtcibjklpaljadaaGreat.AM
set_option linter.unusedSimpArgs false
set_option linter.unusedVariables false
set_option maxRecDepth 100000
set_option maxHeartbeats 2000000
open Go
attribute [-simp] AM.elems
end Go.Proofs.YtcibjklpaljadaaGreat.AM
namespace Go.Proofs.YtcibjklpaljadaaGreat.AM
set_option linter.unusedSimpArgs false
set_option linter.unusedVariables false
set_option maxRecDepth 100000
set_option maxHeartbeats 100000000
open Go
attribute [-simp] AM.elems
structure Qd where
  op : Int
  dst : Int
  a : Int
  b : Int
  n : Int
deriving DecidableEq, Inhabited
def qC (q : Qd) : List AV := [.I q.op, .I q.dst, .I q.a, .I q.b, .I q.n]
def qCs (l : List Qd) : List AV := l.flatMap qC
theorem qCs_len {l : List Qd} : (qCs l).length = l.length * 5 := by
  induction l with
  | nil => rfl
  | cons a l ih =>
    have : qCs (a :: l) = qC a ++ qCs l := by simp [qCs]
    rw [this, List.length_append, ih, List.length_cons]
    simp [qC]; omega
theorem qCs_app {a b : List Qd} : qCs (a ++ b) = qCs a ++ qCs b := by simp [qCs]
def QV (ok : Nat → Prop) (H : AH) (v : AV) (l : List Qd) : Prop := SlC ok H v l.length 5 (qCs l)
theorem QV.mono {ok ok' : Nat → Prop} {H H' v l} (h : QV ok H v l) (hn : H.n ≤ H'.n) (hk : ∀ b, ok b → b < H.n → H'.bk b = H.bk b) (ho : ∀ b, ok b → b < H.n → ok' b) : QV ok' H' v l := SlC.mono h hn hk ho
theorem QV.ext {ok H H' v l} (h : QV ok H v l) (k : Ext H H') : QV ok H' v l := h.mono k.1 (fun b _ hb => k.2 b hb) (fun _ h _ => h)
theorem QV.alen {ok H v l} (h : QV ok H v l) : alen v = some l.length := SlC.alen h
theorem QV.flat {ok H v l} (h : QV ok H v l) : v.flat = true := SlC.flat h
theorem QV.big {ok H v l} (h : QV ok H v l) : l.length ≤ 8589934592 := h.1
theorem QV.elems {ok H v l} (h : QV ok H v l) : AM.elems H 5 v = some (qCs l) := SlC.elems h
theorem seg_qCs : ∀ {l : List Qd} {i : Nat} {e : Qd}, l[i]? = some e → seg (qCs l) (i * 5) 5 = some (qC e)
  | [], i, e, h => by simp at h
  | x :: l, 0, e, h => by
    simp at h; subst h
    unfold seg
    rw [if_pos (by rw [qCs_len]; simp; omega)]
    simp [qCs, qC]
  | x :: l, i + 1, e, h => by
    have := seg_qCs (l := l) (i := i) (e := e) (by simpa using h)
    rw [← this]
    have e1 : qCs (x :: l) = qC x ++ qCs l := by simp [qCs]
    have e2 : (i + 1) * 5 = (qC x).length + i * 5 := by simp [qC]; omega
    unfold seg
    rw [e1, e2, ← List.drop_drop, List.drop_left]
    simp only [List.length_append]
    by_cases hq : i * 5 + 5 ≤ (qCs l).length
    · rw [if_pos (by omega), if_pos hq]
    · rw [if_neg (by omega), if_neg hq]
theorem QV.at {ok H v l} (h : QV ok H v l) {i : Nat} {e : Qd} (hi : l[i]? = some e) : ∃ b o cap, v = .sl b o l.length cap ∧ ok b ∧ b < H.n ∧ H.loadN b (o + i * 5) 5 = some (qC e) := by
  have hl := (List.getElem?_eq_some_iff.1 hi).1
  obtain ⟨b, o, cap, e1, ob, hb, hs⟩ := SlC.at h hl
  exact ⟨b, o, cap, e1, ob, hb, by rw [hs _ _ (by omega)]; exact seg_qCs hi⟩
def reg (r : Int) : Bool := decide (0 ≤ r ∧ r < 12)
def quV (many : Int) (q : Qd) : Bool :=
  if q.op = 1 then decide (q.a = 0 ∧ q.b = 0) && reg q.dst && isW q.n
  else if q.op = 2 then decide (q.b = 0 ∧ q.n = 0) && reg q.dst && reg q.a
  else if q.op = 3 then reg q.dst && reg q.a && reg q.b && decide (1 ≤ q.n ∧ q.n ≤ 12)
  else if q.op = 4 then decide (q.dst = 0 ∧ q.a = 0 ∧ q.b = 0) && decide (0 ≤ q.n ∧ q.n < many)
  else if q.op = 5 then decide (q.dst = 0 ∧ q.b = 0) && reg q.a && decide (0 ≤ q.n ∧ q.n < many)
  else if q.op = 6 then decide (q.dst = 0 ∧ q.b = 0) && reg q.a && decide (0 ≤ q.n ∧ q.n < 3)
  else if q.op = 7 then decide (q.a = 0 ∧ q.b = 0) && reg q.dst && decide (0 ≤ q.n ∧ q.n < 3)
  else if q.op = 9 then decide (q.dst = 0 ∧ q.b = 0 ∧ q.n = 0) && reg q.a
  else if q.op = 8 ∨ q.op = 10 then decide (q.dst = 0 ∧ q.a = 0 ∧ q.b = 0 ∧ q.n = 0)
  else false
theorem em0 (a : Int) : (a = 0 ∧ (1 : Int) + 1 = 2) ∨ ¬ a = 0 := by omega
section
variable {H : AH} {K : AV → AH → Prop} {w : Fk K}
theorem K_iisReg {r : Int} : CallF Cd f_iisReg [.I r] H K w = K (.b (reg r)) H := by
  rw [CallF_eq e_iisReg rfl]
  unfold reg
  by_cases h : 0 ≤ r
  · simp [h]
  · simp [h]
theorem K_iQuadValid {q : Qd} {many : Int} (k : ∀ H', Ext H H' → K (.b (quV many q)) H') : CallF Cd f_iQuadValid [.agg (qC q), .I many] H K w := by
  rw [CallF_eq e_iQuadValid rfl]
  obtain ⟨op, dst, a, b, n⟩ := q
  have x1 := Ext.push H [.I op, .I dst, .I a, .I b, .I n]
  have q1 : (H.push [.I op, .I dst, .I a, .I b, .I n]).bk H.n = some ⟨[.I op, .I dst, .I a, .I b, .I n], true⟩ := push_new
  have kk := k _ x1
  have fin : ∀ x : Bool, x = quV many ⟨op, dst, a, b, n⟩ → K (.b x) (H.push [.I op, .I dst, .I a, .I b, .I n]) := fun x hx => by rw [hx]; exact kk
  clear kk k
  unfold quV at fin
  simp only at fin
  by_cases o1' : op = 1
  · rw [o1'] at q1 fin ⊢
    rcases em0 a with ⟨rfl, h0⟩ | h0 <;> rcases em0 b with ⟨rfl, h1⟩ | h1 <;> cases g0 : reg dst <;> cases g1 : isW n <;> (simp [qC, load_bk q1, loadN_bk q1, K_iisReg, K_iWordValid, K_iOpValid, eqInts, h0, h1, g0, g1]; refine fin _ ?_; simp [h0, h1, g0, g1])
  by_cases o2' : op = 2
  · rw [o2'] at q1 fin ⊢
    rcases em0 b with ⟨rfl, h0⟩ | h0 <;> rcases em0 n with ⟨rfl, h1⟩ | h1 <;> cases g0 : reg dst <;> cases g1 : reg a <;> (simp [qC, load_bk q1, loadN_bk q1, K_iisReg, K_iWordValid, K_iOpValid, eqInts, h0, h1, g0, g1]; refine fin _ ?_; simp [h0, h1, g0, g1])
  by_cases o3' : op = 3
  · rw [o3'] at q1 fin ⊢
    cases g0 : reg dst <;> cases g1 : reg a <;> cases g2 : reg b <;> (simp [qC, load_bk q1, loadN_bk q1, K_iisReg, K_iWordValid, K_iOpValid, eqInts, g0, g1, g2]; refine fin _ ?_; simp [g0, g1, g2])
  by_cases o4' : op = 4
  · rw [o4'] at q1 fin ⊢
    rcases em0 dst with ⟨rfl, h0⟩ | h0 <;> rcases em0 a with ⟨rfl, h1⟩ | h1 <;> rcases em0 b with ⟨rfl, h2⟩ | h2 <;> by_cases h3 : 0 ≤ n <;> (simp [qC, load_bk q1, loadN_bk q1, K_iisReg, K_iWordValid, K_iOpValid, eqInts, h0, h1, h2, h3]; refine fin _ ?_; simp [h0, h1, h2, h3])
  by_cases o5' : op = 5
  · rw [o5'] at q1 fin ⊢
    rcases em0 dst with ⟨rfl, h0⟩ | h0 <;> rcases em0 b with ⟨rfl, h1⟩ | h1 <;> by_cases h2 : 0 ≤ n <;> cases g0 : reg a <;> (simp [qC, load_bk q1, loadN_bk q1, K_iisReg, K_iWordValid, K_iOpValid, eqInts, h0, h1, h2, g0]; refine fin _ ?_; simp [h0, h1, h2, g0])
  by_cases o6' : op = 6
  · rw [o6'] at q1 fin ⊢
    rcases em0 dst with ⟨rfl, h0⟩ | h0 <;> rcases em0 b with ⟨rfl, h1⟩ | h1 <;> by_cases h2 : 0 ≤ n <;> cases g0 : reg a <;> (simp [qC, load_bk q1, loadN_bk q1, K_iisReg, K_iWordValid, K_iOpValid, eqInts, h0, h1, h2, g0]; refine fin _ ?_; simp [h0, h1, h2, g0])
  by_cases o7' : op = 7
  · rw [o7'] at q1 fin ⊢
    rcases em0 a with ⟨rfl, h0⟩ | h0 <;> rcases em0 b with ⟨rfl, h1⟩ | h1 <;> by_cases h2 : 0 ≤ n <;> cases g0 : reg dst <;> (simp [qC, load_bk q1, loadN_bk q1, K_iisReg, K_iWordValid, K_iOpValid, eqInts, h0, h1, h2, g0]; refine fin _ ?_; simp [h0, h1, h2, g0])
  by_cases o9' : op = 9
  · rw [o9'] at q1 fin ⊢
    rcases em0 dst with ⟨rfl, h0⟩ | h0 <;> rcases em0 b with ⟨rfl, h1⟩ | h1 <;> rcases em0 n with ⟨rfl, h2⟩ | h2 <;> cases g0 : reg a <;> (simp [qC, load_bk q1, loadN_bk q1, K_iisReg, K_iWordValid, K_iOpValid, eqInts, h0, h1, h2, g0]; refine fin _ ?_; simp [h0, h1, h2, g0])
  by_cases o8' : op = 8
  · rw [o8'] at q1 fin ⊢
    rcases em0 dst with ⟨rfl, h0⟩ | h0 <;> rcases em0 a with ⟨rfl, h1⟩ | h1 <;> rcases em0 b with ⟨rfl, h2⟩ | h2 <;> rcases em0 n with ⟨rfl, h3⟩ | h3 <;> (simp [qC, load_bk q1, loadN_bk q1, K_iisReg, K_iWordValid, K_iOpValid, eqInts, h0, h1, h2, h3]; refine fin _ ?_; simp [h0, h1, h2, h3])
  by_cases o10' : op = 10
  · rw [o10'] at q1 fin ⊢
    rcases em0 dst with ⟨rfl, h0⟩ | h0 <;> rcases em0 a with ⟨rfl, h1⟩ | h1 <;> rcases em0 b with ⟨rfl, h2⟩ | h2 <;> rcases em0 n with ⟨rfl, h3⟩ | h3 <;> (simp [qC, load_bk q1, loadN_bk q1, K_iisReg, K_iWordValid, K_iOpValid, eqInts, h0, h1, h2, h3]; refine fin _ ?_; simp [h0, h1, h2, h3])
  simp [qC, load_bk q1, loadN_bk q1, K_iisReg, o1', o2', o3', o4', o5', o6', o7', o8', o9', o10']
  refine fin _ ?_
  simp [o1', o2', o3', o4', o5', o6', o7', o8', o9', o10']
end
end Go.Proofs.YtcibjklpaljadaaGreat.AM
namespace Go.Proofs.YtcibjklpaljadaaGreat.AM
set_option linter.unusedSimpArgs false
set_option linter.unusedVariables false
set_option maxRecDepth 100000
set_option maxHeartbeats 100000000
open Go
attribute [-simp] AM.elems
def lastOp (l : List Qd) : Bool := match l.getLast? with | none => false | some q => decide (q.op = 10 ∨ q.op = 4)
def codeV (l : List Qd) : Bool := decide (1 ≤ l.length ∧ l.length ≤ 600) && l.all (quV l.length) && lastOp l
section
variable {ok : Nat → Prop} {H : AH} {K : AV → AH → Prop} {w : Fk K} {v : AV} {l : List Qd}
theorem K_iCodeValid_l {Q : Out → Env → AH → Prop} (h2 : ∀ e H, Q .ret e H = bindO (get e 2) fun v => K v H)
    (m i : Nat) (hm : i + m = l.length) (h : QV ok H v l) (hall : ∀ j < i, ∀ q, l[j]? = some q → quV l.length q = true) (hl : l.length ≤ 600)
    (hbad : l.all (quV l.length) = false → ∀ H', Ext H H' → K (.b false) H')
    (hQ : l.all (quV l.length) = true → ∀ e H', Ext H H' → get e 0 = some v → Q (.brk 0) e H') :
    W Cd (.loop c_iCodeValid_l0) [(0, v), (14, v), (15, .I l.length), (16, .I i)] H Q := by
  induction m generalizing i H with
  | zero =>
    rw [W_loop_as c_iCodeValid_l0.eq_1]
    have : i = l.length := by omega
    subst this
    simp
    refine hQ ?_ _ H (Ext.refl _) rfl
    rw [List.all_eq_true]
    intro q hq
    obtain ⟨j, hj⟩ := List.mem_iff_getElem?.1 hq
    exact hall j (List.getElem?_eq_some_iff.1 hj).1 q hj
  | succ m ih =>
    rw [W_loop_as c_iCodeValid_l0.eq_1]
    have hlt : i < l.length := by omega
    have hlt' : (i : Int) < l.length := by omega
    obtain ⟨q, hq⟩ : ∃ q, l[i]? = some q := ⟨_, List.getElem?_eq_getElem hlt⟩
    obtain ⟨b, o, cap, e1, ob, hbn, l1⟩ := h.at hq
    have h0 := h
    subst e1
    have st : (H.push [.I 0, .I 0, .I 0, .I 0, .I 0]).store H.n 0 (qC q) = some (H.push (qC q)) := by
      rw [store_bk push_new (by simp [qC]), push_put]; rfl
    have q1 : (H.push (qC q)).loadN H.n 0 5 = some (qC q) := by rw [loadN_bk push_new]; rfl
    have x1 := Ext.push H (qC q)
    have e5 : (qC q).length = 5 := rfl
    simp (disch := omega) [hlt', l1, st, q1, h.alen, e5]
    refine K_iQuadValid fun H2 x2 => ?_
    cases hv : quV l.length q with
    | false =>
      simp [h2]
      exact hbad (List.all_eq_false.2 ⟨q, List.mem_of_getElem? hq, by rw [hv]; simp⟩) _ (x1.trans x2)
    | true =>
      simp (disch := omega)
      have := ih (i + 1) (by omega) (H := H2) (h0.ext (x1.trans x2)) (fun j hj q' hq' => by
        by_cases hji : j = i
        · subst hji; rw [hq] at hq'; cases hq'; exact hv
        · exact hall j (by omega) q' hq') (fun hb H' x => hbad hb H' ((x1.trans x2).trans x)) (fun hb e H' x he => hQ hb e H' ((x1.trans x2).trans x) he)
      simpa using this
theorem K_iCodeValid (h : QV ok H v l) (k : ∀ H', Ext H H' → K (.b (codeV l)) H') : CallF Cd f_iCodeValid [v] H K w := by
  rw [CallF_eq e_iCodeValid rfl]
  have hbig := h.big
  by_cases c1 : l.length < 1
  · have c1' : (l.length : Int) < 1 := by omega
    have e : codeV l = false := by unfold codeV; rw [decide_eq_false (by omega)]; rfl
    have := k H (Ext.refl _)
    rw [e] at this
    simp [h.alen, c1']
    exact this
  by_cases c2 : 600 < l.length
  · have c1' : ¬ (l.length : Int) < 1 := by omega
    have c2' : (600 : Int) < l.length := by omega
    have e : codeV l = false := by unfold codeV; rw [decide_eq_false (by omega)]; rfl
    have := k H (Ext.refl _)
    rw [e] at this
    simp [h.alen, c1', c2']
    exact this
  have c1' : ¬ (l.length : Int) < 1 := by omega
  have c2' : ¬ (600 : Int) < l.length := by omega
  simp [h.alen, c1', c2']
  have := K_iCodeValid_l (K := K) (v := v) (l := l) (ok := ok) (Q := ?_) ?_ l.length 0 (by omega) h (fun j hj => by omega) (by omega) (fun hb H' x => by
    have := k H' x
    unfold codeV at this
    rw [hb] at this
    simpa using this) ?_
  · simpa using this
  · intro e G; simp
  · intro hb e G x he
    obtain ⟨q, hq⟩ : ∃ q, l[l.length - 1]? = some q := ⟨_, List.getElem?_eq_getElem (by omega)⟩
    have hlast : l.getLast? = some q := by rw [List.getLast?_eq_getElem?]; exact hq
    have hG := h.ext x
    obtain ⟨b, o, cap, e1, ob, hbn, l1⟩ := hG.at hq
    have ha := hG.alen
    have kk := k G x
    have e2 : codeV l = decide (q.op = 10 ∨ q.op = 4) := by
      unfold codeV lastOp
      rw [hb, hlast, decide_eq_true (by omega)]; rfl
    rw [e2] at kk
    have l0 : G.load b (o + (l.length - 1) * 5) = some (.I q.op) := by simpa [qC] using loadN_get l1 (i := 0) (by omega)
    have et : ((l.length : Int) - 1).toNat = l.length - 1 := by omega
    have c3 : (0 : Int) ≤ (l.length : Int) - 1 := by omega
    have c4 : (l.length : Int) - 1 < l.length := by omega
    subst e1
    simp (disch := omega) [he, ha, et, l0]
    by_cases c10 : q.op = 10
    · simp [c10] at kk ⊢; exact kk
    · simp [c10] at kk ⊢; exact kk
structure Th where
  regs : List Int
  pc : Int
deriving DecidableEq, Inhabited
def thFit (t : Th) (many : Nat) : Bool := decide (t.regs.length = 12) && t.regs.all isW && decide (0 ≤ t.pc ∧ t.pc < many)
def ThC (ok : Nat → Prop) (H : AH) (c : List AV) (t : Th) : Prop := ∃ vr, c = [vr, .I t.pc] ∧ IV ok H vr t.regs
theorem ThC.mono {ok ok' : Nat → Prop} {H H' c t} (h : ThC ok H c t) (hn : H.n ≤ H'.n) (hk : ∀ b, ok b → b < H.n → H'.bk b = H.bk b) (ho : ∀ b, ok b → b < H.n → ok' b) : ThC ok' H' c t := by
  obtain ⟨v, e, h⟩ := h; exact ⟨v, e, h.mono hn hk ho⟩
theorem ThC.ext {ok H H' c t} (h : ThC ok H c t) (k : Ext H H') : ThC ok H' c t := h.mono k.1 (fun b _ hb => k.2 b hb) (fun _ h _ => h)
theorem K_ithreadFits {o2 : Nat → Prop} {c : List AV} {t : Th} (h : ThC o2 H c t) (hv : QV ok H v l) (k : ∀ H', Ext H H' → K (.b (thFit t l.length)) H') : CallF Cd f_ithreadFits [.agg c, v] H K w := by
  obtain ⟨vr, rfl, i1⟩ := h
  rw [CallF_eq e_ithreadFits rfl]
  have x1 := Ext.push H [vr, .I t.pc]
  have q1 : (H.push [vr, .I t.pc]).bk H.n = some ⟨[vr, .I t.pc], true⟩ := push_new
  have kk := k _ x1
  unfold thFit at kk
  have i2 := i1.ext x1
  by_cases c1 : t.regs.length = 12
  · have c1' : (t.regs.length : Int) = 12 := by omega
    have ha : alen vr = some 12 := by rw [SlC.alen i1, c1]
    have ew : ∀ (K' : AV → AH → Prop) (w' : Fk K'), CallF Cd f_iareWords [vr] (H.push [vr, .I t.pc]) K' w' = K' (.b (t.regs.all isW)) (H.push [vr, .I t.pc]) := fun K' w' => K_iareWords i2.sees
    generalize t.regs.all isW = r at kk ew
    cases r with
    | false =>
      simp [load_bk q1, ha, ew]
      simpa using kk
    | true =>
      by_cases c3 : 0 ≤ t.pc
      · simp [load_bk q1, ha, ew, c3, hv.alen]
        simpa [c1, c3] using kk
      · simp [load_bk q1, ha, ew, c3]
        simpa [c1, c3] using kk
  · have c1' : ¬ (t.regs.length : Int) = 12 := by omega
    simp [load_bk q1, SlC.alen i1, c1']
    simpa [c1] using kk
theorem K_iThreadValid {o2 : Nat → Prop} {c : List AV} {t : Th} (h : ThC o2 H c t) (hv : QV ok H v l) (k : ∀ H', Ext H H' → K (.b (codeV l && thFit t l.length)) H') : CallF Cd f_iThreadValid [.agg c, v] H K w := by
  have h' := h
  obtain ⟨vr, rfl, i1⟩ := h'
  rw [CallF_eq e_iThreadValid rfl]
  have x1 := Ext.push H [vr, .I t.pc]
  have q1 : (H.push [vr, .I t.pc]).bk H.n = some ⟨[vr, .I t.pc], true⟩ := push_new
  simp
  refine K_iCodeValid (hv.ext x1) fun H2 x2 => ?_
  have q2 := (x2.2 H.n (by simp)).trans q1
  cases c1 : codeV l with
  | false =>
    simp
    have := k _ (x1.trans x2)
    rw [c1] at this
    simpa using this
  | true =>
    have w2 : H2.loadN H.n 0 2 = some [vr, .I t.pc] := by rw [loadN_bk q2]; rfl
    simp [w2]
    refine K_ithreadFits (h.ext (x1.trans x2)) (hv.ext (x1.trans x2)) fun H3 x3 => ?_
    simp
    have := k _ ((x1.trans x2).trans x3)
    rw [c1] at this
    simpa using this
def boxQ (many : Int) (q : Qd) : Bool := decide (q.op = 6 ∨ q.op = 7 → q.n < many)
theorem K_iboxThere {q : Qd} {many : Int} (k : ∀ H', Ext H H' → K (.b (boxQ many q)) H') : CallF Cd f_iboxThere [.agg (qC q), .I many] H K w := by
  rw [CallF_eq e_iboxThere rfl]
  obtain ⟨op, dst, a, b, n⟩ := q
  have x1 := Ext.push H [.I op, .I dst, .I a, .I b, .I n]
  have q1 : (H.push [.I op, .I dst, .I a, .I b, .I n]).bk H.n = some ⟨[.I op, .I dst, .I a, .I b, .I n], true⟩ := push_new
  have kk := k _ x1
  unfold boxQ at kk
  by_cases o6 : op = 6
  · rw [o6] at q1 kk ⊢
    simp [qC, load_bk q1]
    simpa using kk
  · by_cases o7 : op = 7
    · rw [o7] at q1 kk ⊢
      simp [qC, load_bk q1]
      simpa using kk
    · simp [qC, load_bk q1, o6, o7]
      simpa [o6, o7] using kk
end
end Go.Proofs.YtcibjklpaljadaaGreat.AM
namespace Go.Proofs.YtcibjklpaljadaaGreat.AM
set_option linter.unusedSimpArgs false
set_option linter.unusedVariables false
set_option maxRecDepth 100000
set_option maxHeartbeats 2000000
open Go
attribute [-simp] AM.elems
theorem seg_len {cs : List AV} {o n : Nat} {x : List AV} (h : seg cs o n = some x) : o + n ≤ cs.length := by
  unfold seg at h; split at h
  · assumption
  · cases h
theorem seg_splice1 {cs : List AV} {o : Nat} {a x y : AV} (h : seg cs o 2 = some [a, x]) : seg (splice cs (o + 1) [y]) o 2 = some [a, y] := by
  have hl := seg_len h
  have ha : cs[o]? = some a := by
    unfold seg at h; rw [if_pos hl] at h
    have := congrArg (fun l => l[0]?) (Option.some.inj h)
    simpa using this
  rw [splice_set (by omega)]
  unfold seg
  rw [if_pos (by simp; omega)]
  congr 1
  apply List.ext_getElem?
  intro i
  rcases i with _ | _ | i
  · simp [List.getElem?_drop, List.getElem?_set, ha]
  · simp [List.getElem?_drop, List.getElem?_set, show o + 1 < cs.length by omega]
  · simp; omega
theorem splice_id {cs : List AV} {i : Nat} {a : AV} (h : cs[i]? = some a) : splice cs i [a] = cs := by
  have hl := (List.getElem?_eq_some_iff.1 h).1
  rw [splice_set hl, set_same h]
theorem seg_one {cs : List AV} {o : Nat} {a x : AV} (h : seg cs o 2 = some [a, x]) : cs[o]? = some a ∧ cs[o + 1]? = some x := by
  have hl := seg_len h
  unfold seg at h; rw [if_pos hl] at h
  have h0 := congrArg (fun l => l[0]?) (Option.some.inj h)
  have h1 := congrArg (fun l => l[1]?) (Option.some.inj h)
  constructor
  · simpa using h0
  · simpa using h1
structure TM (base : Nat) (H : AH) (T o R P po B : Nat) (cT cP : List AV) (vr vb vo : AV) (rs : List (AV × Nat)) (O : Nat) (t : Th) (bs : List Bx) (out : List Int) : Prop where
  bT : H.bk T = some ⟨cT, true⟩
  sT : seg cT o 2 = some [vr, .I t.pc]
  nT : T < H.n
  gR : GrS base H vr 12 1 (Ints t.regs) R
  rb : RB base H vb bs B rs
  bP : H.bk P = some ⟨cP, true⟩
  sP : cP[po]? = some vo
  nP : P < H.n
  gO : GrS base H vo out.length 1 (Ints out) O
  hb : base ≤ H.n
  d : T ≠ R ∧ T ≠ P ∧ R ≠ P
  f : T ∉ fpB B rs ∧ R ∉ fpB B rs ∧ P ∉ fpB B rs
  g : T ∉ grB vo O ∧ R ∉ grB vo O ∧ P ∉ grB vo O
  fg : ∀ b ∈ grB vo O, b ∉ fpB B rs
section
variable {base : Nat} {H H' : AH} {T o R P po B : Nat} {cT cP : List AV} {vr vb vo : AV} {rs : List (AV × Nat)} {O : Nat} {t : Th} {bs : List Bx} {out : List Int}
theorem TM.regs (h : TM base H T o R P po B cT cP vr vb vo rs O t bs out) : t.regs.length = 12 := by
  have := h.gR.2.1
  rw [Ints_len] at this; omega
theorem TM.vr_eq (h : TM base H T o R P po B cT cP vr vb vo rs O t bs out) : ∃ cap, vr = .sl R 0 12 cap ∧ R < H.n ∧ base ≤ R ∧ ∀ r : Int, 0 ≤ r → r < 12 → H.load R r.toNat = some (.I ((t.regs[r.toNat]?).getD 0)) := by
  have hl := h.regs
  obtain ⟨_, _, ⟨_, h0⟩ | ⟨h1, h2, ⟨e, h3⟩ | ⟨c, ex, e, h4, h5, h6⟩⟩⟩ := h.gR
  · omega
  · refine ⟨_, e, h2, h1, fun r r0 r1 => ?_⟩
    rw [load_bk h3]
    have : r.toNat < t.regs.length := by omega
    simp [Ints, this]
  · refine ⟨_, e, h2, h1, fun r r0 r1 => ?_⟩
    rw [load_bk h6, List.getElem?_append_left (by rw [Ints_len]; omega)]
    have : r.toNat < t.regs.length := by omega
    simp [Ints, this]
theorem TM.only {ds : List Nat} (h : TM base H T o R P po B cT cP vr vb vo rs O t bs out) (k : Only ds H H') (hd : ∀ b ∈ ds, b ≠ T ∧ b ≠ R ∧ b ≠ P ∧ b ∉ fpB B rs ∧ b ∉ grB vo O) : TM base H' T o R P po B cT cP vr vb vo rs O t bs out :=
  { h with
    bT := k.bk h.nT (fun hm => (hd T hm).1 rfl) h.bT
    nT := Nat.lt_of_lt_of_le h.nT k.1
    gR := h.gR.only k (fun b hb => .inr (hd b hb).2.1)
    rb := h.rb.onlyA k (fun b hb => .inr (hd b hb).2.2.2.1)
    bP := k.bk h.nP (fun hm => (hd P hm).2.2.1 rfl) h.bP
    nP := Nat.lt_of_lt_of_le h.nP k.1
    gO := h.gO.onlyB k (fun b hb => (hd b hb).2.2.2.2)
    hb := Nat.le_trans h.hb k.1 }
theorem TM.ext (h : TM base H T o R P po B cT cP vr vb vo rs O t bs out) (k : Ext H H') : TM base H' T o R P po B cT cP vr vb vo rs O t bs out := h.only (ds := []) k.only (by simp)
theorem TM.ldr (h : TM base H T o R P po B cT cP vr vb vo rs O t bs out) : H.load T o = some vr := by rw [load_bk h.bT]; exact (seg_one h.sT).1
theorem TM.ldp (h : TM base H T o R P po B cT cP vr vb vo rs O t bs out) : H.load T (o + 1) = some (.I t.pc) := by rw [load_bk h.bT]; exact (seg_one h.sT).2
theorem TM.ldo (h : TM base H T o R P po B cT cP vr vb vo rs O t bs out) : H.load P po = some vo := by rw [load_bk h.bP]; exact h.sP
theorem TM.setPc (h : TM base H T o R P po B cT cP vr vb vo rs O t bs out) (pc' : Int) :
    ∃ H', H.store T (o + 1) [.I pc'] = some H' ∧ TM base H' T o R P po B (splice cT (o + 1) [.I pc']) cP vr vb vo rs O ⟨t.regs, pc'⟩ bs out ∧ Only [T] H H' := by
  have hl := seg_len h.sT
  have oo : Only [T] H (H.put T (some ⟨splice cT (o + 1) [.I pc'], true⟩)) := Only.refl.put (by simp)
  refine ⟨_, store_bk h.bT (by simp; omega), ?_, oo⟩
  have hd := h.d
  exact { h with
    bT := put_same
    sT := seg_splice1 h.sT
    nT := by simpa using h.nT
    gR := h.gR.only oo (by simp; exact .inr hd.1)
    rb := h.rb.onlyA oo (by simp; exact .inr h.f.1)
    bP := oo.bk h.nP (by simp; exact fun e => hd.2.1 e.symm) h.bP
    nP := by simpa using h.nP
    gO := h.gO.onlyB oo (by simp; exact h.g.1)
    hb := by simpa using h.hb }
theorem TM.setReg (h : TM base H T o R P po B cT cP vr vb vo rs O t bs out) {d : Int} (hd : 0 ≤ d ∧ d < 12) (x : Int) :
    ∃ cap H', vr = .sl R 0 12 cap ∧ H.store R d.toNat [.I x] = some H' ∧ TM base H' T o R P po B cT cP vr vb vo rs O ⟨t.regs.set d.toNat x, t.pc⟩ bs out ∧ Only [R] H H' := by
  have hl := h.regs
  obtain ⟨cap, H', e, st, s3, oo, s5, s6⟩ := h.gR.store (i := d.toNat) (c := [.I x]) (by omega) rfl
  rw [Nat.mul_one] at st s3
  rw [Ints_set (by omega)] at s3
  have hdd := h.d
  refine ⟨cap, H', e, st, { h with bT := oo.bk h.nT (by simp; exact hdd.1) h.bT, sT := h.sT, nT := Nat.lt_of_lt_of_le h.nT oo.1, gR := s3, rb := h.rb.onlyA oo (by simp; exact .inr h.f.2.1), bP := oo.bk h.nP (by simp; exact fun e => hdd.2.2 e.symm) h.bP, nP := Nat.lt_of_lt_of_le h.nP oo.1, gO := h.gO.onlyB oo (by simp; exact h.g.2.1), hb := Nat.le_trans h.hb oo.1 }, oo⟩
end
def rg (t : Th) (r : Int) : Int := (t.regs[r.toNat]?).getD 0
def stepQ (q : Qd) (t : Th) (bs : List Bx) : Th × List Bx × List Int × Int :=
  if q.op = 1 then (⟨t.regs.set q.dst.toNat q.n, t.pc + 1⟩, bs, [], 1)
  else if q.op = 2 then (⟨t.regs.set q.dst.toNat (rg t q.a), t.pc + 1⟩, bs, [], 1)
  else if q.op = 3 then (⟨t.regs.set q.dst.toNat (applyM q.n (rg t q.a) (rg t q.b)), t.pc + 1⟩, bs, [], 1)
  else if q.op = 4 then (⟨t.regs, q.n⟩, bs, [], 1)
  else if q.op = 5 then (⟨t.regs, if rg t q.a = 0 then q.n else t.pc + 1⟩, bs, [], 1)
  else if q.op = 6 then
    match bs[q.n.toNat]? with
    | none => (t, bs, [], 3)
    | some bx => if (bx.items.length : Int) < bx.room then (⟨t.regs, t.pc + 1⟩, bs.set q.n.toNat ⟨bx.room, bx.items ++ [rg t q.a]⟩, [], 1) else (t, bs, [], 3)
  else if q.op = 7 then
    match bs[q.n.toNat]? with
    | none => (t, bs, [], 3)
    | some bx =>
      match bx.items with
      | [] => (t, bs, [], 3)
      | y :: r => (⟨t.regs.set q.dst.toNat y, t.pc + 1⟩, bs.set q.n.toNat ⟨bx.room, r⟩, [], 1)
  else if q.op = 8 then (⟨t.regs, t.pc + 1⟩, bs, [], 2)
  else if q.op = 9 then (⟨t.regs, t.pc + 1⟩, bs, [rg t q.a], 1)
  else (t, bs, [], 4)
end Go.Proofs.YtcibjklpaljadaaGreat.AM
