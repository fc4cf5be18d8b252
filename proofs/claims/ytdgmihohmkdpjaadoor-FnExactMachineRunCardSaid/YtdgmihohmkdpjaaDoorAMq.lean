/-
  What the functions that draw compute: some number within bounds; the reader alone is written. No condition.
-/
import Derived.Test.YtdgmihohmkdpjaaDoorAMp
namespace Go.Proofs.YtdgmihohmkdpjaaDoor.AM
set_option linter.unusedSimpArgs false
set_option linter.unusedVariables false
open Go

theorem load_eq {H : AH} {b o : Nat} : H.load b o = (H.bk b).bind fun k => k.cells[o]? := rfl
theorem tmod_lt {a b : Int} (ha : 0 ≤ a) (hb : 0 < b) : 0 ≤ a.tmod b ∧ a.tmod b < b := ⟨Int.tmod_nonneg _ ha, Int.tmod_lt_of_pos _ hb⟩
theorem tdiv_lt {a b : Int} (ha : 0 ≤ a) (hb : 0 < b) : 0 ≤ a.tdiv b ∧ a.tdiv b ≤ a := by
  rw [Int.tdiv_eq_ediv_of_nonneg ha]
  exact ⟨Int.ediv_nonneg ha (by omega), Int.ediv_le_self _ ha⟩
/-- All blocks up to now are as they were, but for r. -/
def St (r : Nat) (H H' : AH) : Prop := H.n ≤ H'.n ∧ ∀ b, b < H.n → b ≠ r → H'.bk b = H.bk b
theorem St.refl {r H} : St r H H := ⟨Nat.le_refl _, fun _ _ _ => rfl⟩
theorem St.trans {r a b c} (h : St r a b) (k : St r b c) : St r a c := ⟨Nat.le_trans h.1 k.1, fun x hx hr => (k.2 x (Nat.lt_of_lt_of_le hx h.1) hr).trans (h.2 x hx hr)⟩
theorem St.push {r a b cs} (h : St r a b) : St r a (b.push cs) := h.trans ⟨Nat.le_succ _, fun x hx _ => by simp only [push_bk]; rw [if_neg (by omega)]⟩
/-- A slice of bytes, in a block other than r. -/
def Bytes (H : AH) (r : Nat) (s : AV) (l : List Int) : Prop := alen s = some l.length ∧ l.length ≤ 8589934592 ∧
  ∀ (i : Nat) x, l[i]? = some x → (0 ≤ x ∧ x < 256) ∧ ∃ b o, asSl s = some (b, o, l.length) ∧ b < r ∧ b < H.n ∧ ((H.bk b).bind fun k => k.cells[o + i]?) = some (.i .u8 x)
/-- A reader in block r that stands at p. -/
def Rd (H : AH) (r : Nat) (p : Int) : Prop := r < H.n ∧ ∃ s l, H.bk r = some ⟨[s, .I p], true⟩ ∧ Bytes H r s l
theorem Bytes.st {H H' : AH} {r s l} (h : Bytes H r s l) (k : St r H H') : Bytes H' r s l :=
  ⟨h.1, h.2.1, fun i x hx => let ⟨h1, b, o, h2, h3, h4, h5⟩ := h.2.2 i x hx; ⟨h1, b, o, h2, h3, Nat.lt_of_lt_of_le h4 k.1, by rw [k.2 b h4 (by omega)]; exact h5⟩⟩
theorem Rd.push {H : AH} {r p cs} (h : Rd H r p) : Rd (H.push cs) r p := by
  obtain ⟨h1, s, l, h2, h3⟩ := h
  exact ⟨Nat.lt_succ_of_lt h1, s, l, by simp only [push_bk]; rw [if_neg (by omega)]; exact h2, h3.st (St.push St.refl)⟩

section
variable {H : AH} {K : AV → AH → Prop} {n p : Int} {r : Nat} {w : Fk K}
theorem u8_i64 {x : Int} (h : 0 ≤ x ∧ x < 256) : IntKind.i64.wrap x = x := wrap64 (by omega)
theorem K_pick (h : Rd H r p) (hp : 0 ≤ p ∧ p ≤ 1099511627776) (hn : 1 ≤ n ∧ n ≤ 1099511627776)
    (k : ∀ x H', 0 ≤ x ∧ x < n → Rd H' r (p + 1) → St r H H' → K (.I x) H') : CallF Cd f_sl6Rd_pick [.ptr r 0, .I n] H K w := by
  rw [CallF_eq e_sl6Rd_pick rfl]
  obtain ⟨h1, s, l, h2, h3⟩ := h
  have hn1 : ¬ n < 1 := by omega
  have ret : ∀ x, 0 ≤ x ∧ x < n → K (.I x) (H.put r (some ⟨[s, .I (p + 1)], true⟩)) := by
    intro x hx
    have hs : St r H (H.put r (some ⟨[s, .I (p + 1)], true⟩)) := ⟨Nat.le_refl _, fun b _ hb => by simp only [put_bk]; rw [if_neg hb]⟩
    exact k x _ hx ⟨h1, s, l, by simp only [put_bk, if_true], h3.st hs⟩ hs
  simp (disch := omega) [load_eq, AH.store, h2, h3.1, hn1]
  refine cnd_mk (fun hl => ?_) (fun hl => ?_)
  · simp
    exact ret 0 (by omega)
  have hl0 : 0 < l.length := by cases l with | nil => exact absurd rfl hl | cons a l => simp
  obtain ⟨_, b, o, hs, hbr, hbn, _⟩ := h3.2.2 0 l[0] (by simp [hl0])
  have hbr : b ≠ r := by omega
  have hb : ∀ i : Int, 0 ≤ i ∧ i < l.length → ∃ x, (0 ≤ x ∧ x < 256) ∧ ((H.bk b).bind fun k => k.cells[o + i.toNat]?) = some (.i .u8 x) := by
    intro i hi
    obtain ⟨hx, b', o', hs', _, _, h5⟩ := h3.2.2 i.toNat l[i.toNat] (by simp)
    rw [hs] at hs'
    simp only [Option.some.injEq, Prod.mk.injEq] at hs'
    obtain ⟨rfl, rfl, _⟩ := hs'
    exact ⟨_, hx, h5⟩
  simp (disch := omega) [load_eq, h3.1]
  refine cnd_mk (fun hq => ?_) (fun hq => ?_)
  · obtain ⟨x, hx, hv⟩ := hb p (by omega)
    simp (disch := omega) [load_eq, hs, hbr, hv]
    exact ret _ (tmod_lt hx.1 (by omega))
  · have hlz : (l.length : Int) ≠ 0 := by omega
    have t1 := @tmod_lt p l.length (by omega) (by omega)
    have t2 := @tmod_lt (p * 7 + 3) l.length (by omega) (by omega)
    have t3 := @tdiv_lt p l.length (by omega) (by omega)
    obtain ⟨x, hx, hv⟩ := hb _ t1
    obtain ⟨y, hy, hv'⟩ := hb _ t2
    have hX : 0 ≤ x * 131 + y * 1117 + p * 29 + p.tdiv l.length * 53 ∧ x * 131 + y * 1117 + p * 29 + p.tdiv l.length * 53 < 4611686018427387904 := by omega
    have t4 := @tdiv_lt _ 64 hX.1 (by omega)
    simp (disch := omega) [load_eq, hs, hbr, hv, hv', h3.1, ibits_xor]
    exact ret _ (tmod_lt (by omega) (by omega))

theorem SlI.bytes {v : AV} {zs : List Int} (h : SlI H .u8 v zs) (hz : ∀ n ∈ zs, 0 ≤ n ∧ n < 256) {r : Nat} (hr : H.n ≤ r) (hl : zs.length ≤ 1048576) : Bytes H r v zs := by
  rcases h with ⟨rfl, rfl⟩ | ⟨rfl, rfl⟩ | ⟨b, rest, hb, rfl, h⟩
  · exact ⟨rfl, by simp, fun i x hx => by simp at hx⟩
  · exact ⟨rfl, by simp, fun i x hx => by simp at hx⟩
  · refine ⟨rfl, by omega, fun i x hx => ⟨hz x (List.mem_of_getElem? hx), b, 0, rfl, by omega, hb, ?_⟩⟩
    have hi := (List.getElem?_eq_some_iff.1 hx).1
    rw [h]
    simp only [Option.bind_some, Nat.zero_add, List.getElem?_map, List.getElem?_append_left hi, hx, Option.map_some]
theorem SlI.len {v : AV} {k : IntKind} {zs : List Int} (h : SlI H k v zs) : alen v = some zs.length := by
  rcases h with ⟨rfl, rfl⟩ | ⟨rfl, rfl⟩ | ⟨b, rest, hb, rfl, h⟩ <;> rfl
theorem SlI.cut {v : AV} {k : IntKind} {zs : List Int} (h : SlI H k v zs) (hl : 2000 < zs.length) : ∃ v', aslice 1 v none (some (.I 2000)) none = some v' ∧ SlI H k v' (zs.take 2000) := by
  rcases h with ⟨rfl, rfl⟩ | ⟨rfl, rfl⟩ | ⟨b, rest, hb, rfl, h⟩
  · simp at hl
  · simp at hl
  · refine ⟨.sl b 0 2000 .ro, ?_, .inr (.inr ⟨b, zs.drop 2000 ++ rest, hb, ?_, ?_⟩)⟩
    · simp [aslice, bnd, aint]; omega
    · rw [List.length_take, Nat.min_eq_left (by omega)]
    · rw [h, ← List.append_assoc, List.take_append_drop]
theorem K_l6Open {v : AV} {zs : List Int} (h : SlI H .u8 v zs) (hz : ∀ n ∈ zs, 0 ≤ n ∧ n < 256) (hl : zs.length ≤ 1048576)
    (k : ∀ H', Rd H' H.n 0 → St H.n H H' → K (.ptr H.n 0) H') : CallF Cd f_sl6Open [v] H K w := by
  rw [CallF_eq e_sl6Open rfl]
  simp [h.len]
  have fin : ∀ v zs, SlI H .u8 v zs → (∀ n ∈ zs, 0 ≤ n ∧ n < 256) → zs.length ≤ 1048576 → K (.ptr H.n 0) (H.push [v, .I 0]) := by
    intro v zs h hz hl
    refine k _ ⟨Nat.lt_succ_self _, v, zs, by simp, (h.bytes hz (Nat.le_refl _) hl).st (St.push St.refl)⟩ (St.push St.refl)
  have flat : ∀ v zs, SlI H .u8 v zs → v.cells = [v] ∧ v.isTup = false := by
    intro v zs h
    rcases h with ⟨rfl, rfl⟩ | ⟨rfl, rfl⟩ | ⟨b, rest, hb, rfl, h⟩ <;> exact ⟨rfl, rfl⟩
  refine cnd_mk (fun hq => ?_) (fun hq => ?_)
  · obtain ⟨v', e, h'⟩ := h.cut (by omega)
    obtain ⟨f1, f2⟩ := flat _ _ h'
    simp [e, f1, f2]
    exact fin _ _ h' (fun n hn => hz n (List.mem_of_mem_take hn)) (by rw [List.length_take]; omega)
  · obtain ⟨f1, f2⟩ := flat _ _ h
    simp [f1, f2]
    exact fin _ _ h hz hl

/-- A reader that stands at m at most. -/
def Rdx (H : AH) (r : Nat) (m : Int) : Prop := ∃ p, 0 ≤ p ∧ p ≤ m ∧ Rd H r p
theorem Rdx.push {r m cs} (h : Rdx H r m) : Rdx (H.push cs) r m := let ⟨p, a, b, c⟩ := h; ⟨p, a, b, c.push⟩
theorem Rdx.up {r m m'} (h : Rdx H r m) (k : m ≤ m') : Rdx H r m' := let ⟨p, a, b, c⟩ := h; ⟨p, a, by omega, c⟩
theorem Rdx.lt {r m} (h : Rdx H r m) : r < H.n := let ⟨p, a, b, c⟩ := h; c.1
theorem P_pick {m : Int} (h : Rdx H r m) (hm : m ≤ 1099511627776) (hn : 1 ≤ n ∧ n ≤ 1099511627776)
    (k : ∀ x H', 0 ≤ x ∧ x < n → Rdx H' r (m + 1) → St r H H' → K (.I x) H') : CallF Cd f_sl6Rd_pick [.ptr r 0, .I n] H K w := by
  obtain ⟨p, a, b, c⟩ := h
  exact K_pick c (by omega) hn fun x H' hx hR hS => k x H' hx ⟨p + 1, by omega, by omega, hR⟩ hS
def Ints (l : List Int) : List AV := l.map (.i .i64 ·)
theorem Ints_get {l : List Int} {x : Int} {j : Nat} (h : 0 ≤ x ∧ x < j) (hj : j = l.length) : ∃ y, y ∈ l ∧ (Ints l)[x.toNat]? = some (.I y) := by
  have hi : x.toNat < l.length := by omega
  exact ⟨l[x.toNat], List.getElem_mem hi, by simp [Ints, hi]⟩
theorem St.at {r : Nat} {H H' : AH} {b : Nat} (h : St r H H') (hb : b < H.n) (hr : b ≠ r) {o} (e : H.bk b = o) : H'.bk b = o := (h.2 b hb hr).trans e

theorem K_l91Word {m : Int} (h : Rdx H r m) (hm : m ≤ 1000000000000)
    (k : ∀ x H', -2147483648 ≤ x ∧ x ≤ 2147483647 → Rdx H' r (m + 5) → St r H H' → K (.I x) H') : CallF Cd f_sl91Word [.ptr r 0] H K w := by
  rw [CallF_eq e_sl91Word rfl]
  simp
  refine P_pick h (by omega) (by omega) fun x0 H0 hx0 hR0 hS0 => ?_
  simp
  refine cnd_mk (fun _ => ?_) (fun _ => ?_)
  · simp
    refine P_pick hR0.push (by omega) (by omega) fun x1 H1 hx1 hR1 hS1 => ?_
    obtain ⟨y, hy, e⟩ := @Ints_get [-2147483648, 2147483647, -1, 0, 1, -2147483647, 65536, -65536] x1 8 (by omega) rfl
    have eb : H1.bk H0.n = some ⟨Ints [-2147483648, 2147483647, -1, 0, 1, -2147483647, 65536, -65536], true⟩ := hS1.at (Nat.lt_succ_self _) (Nat.ne_of_gt hR0.lt) (by simp; rfl)
    simp (disch := omega) [load_eq, eb, e]
    refine k _ _ ?_ (hR1.up (by omega)) (hS0.trans ((St.push St.refl).trans hS1))
    simp at hy; omega
  simp
  refine cnd_mk (fun _ => ?_) (fun _ => ?_)
  · simp
    refine P_pick hR0 (by omega) (by omega) fun x1 H1 hx1 hR1 hS1 => ?_
    simp (disch := omega)
    refine P_pick hR1 (by omega) (by omega) fun x2 H2 hx2 hR2 hS2 => ?_
    simp (disch := omega)
    refine P_pick hR2 (by omega) (by omega) fun x3 H3 hx3 hR3 hS3 => ?_
    simp (disch := omega)
    refine P_pick hR3 (by omega) (by omega) fun x4 H4 hx4 hR4 hS4 => ?_
    simp [K_sWrap]
    exact k _ _ wrapM_lt (hR4.up (by omega)) (hS0.trans (hS1.trans (hS2.trans (hS3.trans hS4))))
  simp
  refine cnd_mk (fun _ => ?_) (fun _ => ?_)
  · simp
    refine P_pick hR0 (by omega) (by omega) fun x1 H1 hx1 hR1 hS1 => ?_
    simp (disch := omega)
    exact k _ _ (by omega) (hR1.up (by omega)) (hS0.trans hS1)
  simp
  refine P_pick hR0 (by omega) (by omega) fun x1 H1 hx1 hR1 hS1 => ?_
  simp (disch := omega)
  exact k _ _ (by omega) (hR1.up (by omega)) (hS0.trans hS1)

end
end Go.Proofs.YtdgmihohmkdpjaaDoor.AM
