/-
  The abstract machine and its walks, merged by program out of smaller texts (part 4). No condition.
-/
import Derived.Test.YtmecbehegmgbhaaGreatYM3
namespace Go.Proofs.YtmecbehegmgbhaaGreat.AM
set_option linter.unusedSimpArgs false
set_option linter.unusedVariables false
set_option maxRecDepth 100000
set_option maxHeartbeats 2000000
open Go
def RunT (base : Nat) (M : List Nat) (H : AH) (R : Nat) (vv : AV) (V : Nat) (p : AV) (t : Tk) : Prop :=
  H.bk R = some ⟨[vv, p], true⟩ ∧ R < H.n ∧ base ≤ R ∧ GrS base H vv t.vars.length 1 (Ints t.vars) V ∧ R ≠ V ∧ V < H.n ∧ base ≤ V ∧ PL (fun b => b ≠ R ∧ b ≠ V ∧ b ∉ M) H p t.rest.list
def evS (t : Tk) (bs : List Bx) : Option (Int × Int × Int) :=
  match t.rest.list with
  | [] => none
  | s :: _ =>
    if s.k = 4 then (match bs[s.b.toNat]? with | some b => if b.items.length < b.room then some (1, s.b, evE t.vars s.e) else none | none => none)
    else if s.k = 5 then (match bs[s.b.toNat]? with | some b => (match b.items with | [] => none | y :: _ => some (2, s.b, y)) | none => none)
    else if s.k = 7 then some (3, 0, evE t.vars s.e) else none
theorem RunT.only {base M cs H H' R vv V p t} (h : RunT base M H R vv V p t) (k : Only cs H H') (hR : R ∉ cs) (hV : V ∉ cs) (hM : ∀ b ∈ cs, b ∈ M ∨ H.n ≤ b) : RunT base M H' R vv V p t := by
  obtain ⟨h1, h2, h3, h4, h5, h6, h7, h8⟩ := h
  exact ⟨k.bk h2 hR h1, Nat.lt_of_lt_of_le h2 k.1, h3, h4.only k (fun b hb => .inr (fun e => hV (by rw [← e]; exact hb))), h5, Nat.lt_of_lt_of_le h6 k.1, h7,
    h8.mono k.1 (fun b hb hb2 => k.2 b hb2 (fun hm => by rcases hM b hm with q | q; exact hb.2.2 q; omega)) (fun _ h _ => h)⟩
theorem RB.mem' {base H v bs B rs} (h : RB base H v bs B rs) {b : Nat} (hb : b ∈ fpB B rs) : base ≤ b ∧ b < H.n := by
  rw [mem_fpB] at hb
  rcases hb with ⟨h1, rfl⟩ | ⟨p, hp, hb⟩
  · cases rs with
    | nil => exact absurd rfl h1
    | cons q rs =>
      cases bs with
      | nil => have := h.1; simp at this
      | cons x bs =>
        obtain ⟨_, _, _, _, e3, e4, _⟩ := h.at (i := 0) (x := x) rfl
        exact ⟨e3, e4⟩
  · obtain ⟨i, hi⟩ := List.getElem?_of_mem hp
    obtain ⟨y, hy⟩ : ∃ y, bs[i]? = some y := ⟨_, List.getElem?_eq_getElem (by rw [← h.1]; exact (List.getElem?_eq_some_iff.1 hi).1)⟩
    have := (h.2.2.1 i y p hy hi).1.mem hb
    omega
section
variable {H : AH} {K : AV → AH → Prop} {w : Fk K}
theorem PL.head {ok : Nat → Prop} {p : AV} {s : St1} {r : List St1} (h : PL ok H p (s :: r)) : ∃ q sb so c nx, p = .ptr q 0 ∧ ok q ∧ q < H.n ∧ H.bk q = some ⟨[.ptr sb so, nx], true⟩ ∧ ok sb ∧ sb < H.n ∧ H.loadN sb so 8 = some c ∧ S1 ok H c s ∧ nx.flat = true ∧ PL ok H nx r := h
theorem K_irunning_step_end {base : Nat} {M : List Nat} {R V : Nat} {vv p vb fv : AV} {t : Tk} (h : RunT base M H R vv V p t) (hr : t.rest.list = []) (k : K (.I 4) H) : CallF Cd f_irunning_step [.ptr R 0, vb, fv] H K w := by
  rw [CallF_eq e_irunning_step rfl]
  obtain ⟨h1, h2, h3, h4, h5, h6, h7, h8⟩ := h
  rw [hr] at h8
  have : p = .nilp := h8
  subst this
  simp [load_bk h1]
  exact k
theorem K_irunning_step_yield {base : Nat} {M : List Nat} {R V : Nat} {vv p vb fv : AV} {t : Tk} {s : St1} {r : List St1} (h : RunT base M H R vv V p t) (hr : t.rest.list = s :: r) (hk : s.k = 6)
    (k : ∀ p' H', RunT base M H' R vv V p' ⟨t.vars, Sts.of r⟩ → Only [R] H H' → K (.I 2) H') : CallF Cd f_irunning_step [.ptr R 0, vb, fv] H K w := by
  rw [CallF_eq e_irunning_step rfl]
  have h' := h
  obtain ⟨h1, h2, h3, h4, h5, h6, h7, h8⟩ := h
  rw [hr] at h8
  obtain ⟨q, sb, so, c, nx, rfl, oq, hq, gq, osb, hsb, l1, s1, fnx, hp⟩ := h8.head
  obtain ⟨va, vy, vz, rfl, ea, ey, ez⟩ := s1
  have g0 := loadN_get l1 (i := 0) (by omega)
  simp at g0
  have st : H.store R 1 [nx] = some (H.put R (some ⟨[vv, nx], true⟩)) := store_bk h1 (by simp)
  rw [hk] at g0
  simp [load_bk h1, load_bk gq, g0, flat_cells fnx, flat_tup fnx, st]
  have o : Only [R] H (H.put R (some ⟨[vv, nx], true⟩)) := Only.refl.put (by simp)
  refine k nx _ ⟨put_same, by simpa using h2, h3, h4.only o (by simp; omega), h5, by simpa using h6, h7, ?_⟩ o
  rw [Sts.list_of]
  exact PL.mono (H := H) (H' := H.put R (some ⟨[vv, nx], true⟩)) (Nat.le_refl _) (fun b hb _ => by rw [put_bk, if_neg hb.1]) (fun _ h _ => h) hp
theorem loadN_part {H : AH} {b o : Nat} {c : List AV} (h : H.loadN b o 8 = some c) {j n : Nat} (hj : j + n ≤ 8) : H.loadN b (o + j) n = seg c j n := by
  unfold AH.loadN at h ⊢
  obtain ⟨k, hk, hs⟩ := Option.bind_eq_some_iff.1 h
  rw [hk]; exact seg_seg hs hj
theorem K_irunning_step_set {base : Nat} {M : List Nat} {R V : Nat} {vv p vb fv : AV} {t : Tk} {s : St1} {r : List St1} (h : RunT base M H R vv V p t) (hr : t.rest.list = s :: r) (hk : s.k = 1) (hoe : okE 5 s.e = true) (h44 : t.vars.length = 4) (hw : t.vars.all isW = true) (hsv : 0 ≤ s.v ∧ s.v < 4)
    (k : ∀ p' H', RunT base M H' R vv V p' ⟨t.vars.set s.v.toNat (evE t.vars s.e), Sts.of r⟩ → Only [R, V] H H' → K (.I 1) H') : CallF Cd f_irunning_step [.ptr R 0, vb, fv] H K w := by
  rw [CallF_eq e_irunning_step rfl]
  obtain ⟨h1, h2, h3, h4, h5, h6, h7, h8⟩ := h
  rw [hr] at h8
  obtain ⟨q, sb, so, c, nx, rfl, oq, hq, gq, osb, hsb, l1, s1, fnx, hp⟩ := h8.head
  obtain ⟨va, vy, vz, rfl, ea, ey, ez⟩ := s1
  have g0 := loadN_get l1 (i := 0) (by omega)
  have g1 := loadN_get l1 (i := 1) (by omega)
  have g3 : H.loadN sb (so + 3) 3 = some [.I s.e.op, .I s.e.n, va] := (loadN_part l1 (by omega)).trans rfl
  simp at g0 g1
  rw [hk] at g0
  simp [load_bk h1, load_bk gq, g0, g1]
  refine K_iexprEval s.e.args (d := 5) ea hsb g3 h4.iv.sees h44 hw hoe fun H1 x1 => ?_
  have ev : evE t.vars s.e = evE1 t.vars s.e.op s.e.n (evF t.vars s.e.args) := rfl
  rw [ev] at k
  generalize evE1 t.vars s.e.op s.e.n (evF t.vars s.e.args) = X at *
  have n1 := x1.1
  obtain ⟨cap, H2, rfl, s2, s3, s4, s5, s6⟩ := (h4.ext x1).store (i := s.v.toNat) (c := [.I X]) (by omega) rfl
  rw [Nat.mul_one] at s2
  have hR2 : H2.bk R = some ⟨[.sl V 0 t.vars.length cap, .ptr q 0], true⟩ := s4.bk (by omega) (by simp; exact h5) ((x1.2 R h2).trans h1)
  have st : H2.store R 1 [nx] = some (H2.put R (some ⟨[.sl V 0 t.vars.length cap, nx], true⟩)) := store_bk hR2 (by simp)
  simp (disch := omega) [x1, s2, flat_cells fnx, flat_tup fnx, st]
  have n2 := s4.1
  have o : Only [R, V] H (H2.put R (some ⟨[.sl V 0 t.vars.length cap, nx], true⟩)) := ((show Only [R, V] H H1 from ⟨n1, fun b hb _ => x1.2 b hb⟩).trans ⟨n2, fun b hb hm => s4.2 b hb (fun hq => hm (by simp at hq; simp [hq]))⟩).put (by simp)
  have oR : Only [R] H2 (H2.put R (some ⟨[.sl V 0 t.vars.length cap, nx], true⟩)) := Only.refl.put (by simp)
  have e3 : splice (Ints t.vars) (s.v.toNat * 1) [.I X] = Ints (t.vars.set s.v.toNat X) := by rw [Nat.mul_one]; exact Ints_set (by omega)
  rw [e3] at s3
  have hl : (t.vars.set s.v.toNat X).length = t.vars.length := by simp
  refine k nx _ ⟨?_, by simp; omega, h3, by rw [hl]; exact s3.only oR (by simp; omega), h5, by simp; omega, h7, ?_⟩ o
  · rw [put_same]
  · rw [Sts.list_of]
    exact PL.mono (H := H) (H' := H2.put R (some ⟨[.sl V 0 t.vars.length cap, nx], true⟩)) (by simp; omega) (fun b hb hb2 => o.2 b hb2 (by simp; exact ⟨hb.1, hb.2.1⟩)) (fun _ h _ => h) hp
theorem K_irunning_step_blk {base : Nat} {M : List Nat} {R V : Nat} {vv p vb fv : AV} {t : Tk} {s : St1} {r : List St1} (h : RunT base M H R vv V p t) (hM : ∀ b ∈ M, b < H.n) (hr : t.rest.list = s :: r) (hk : s.k = 2 ∨ s.k = 3) (hoe : okE 5 s.e = true) (h44 : t.vars.length = 4) (hw : t.vars.all isW = true)
    (k : ∀ p' H', RunT base M H' R vv V p' ⟨t.vars, blkR s r (evE t.vars s.e)⟩ → Only [R] H H' → K (.I 1) H') : CallF Cd f_irunning_step [.ptr R 0, vb, fv] H K w := by
  rw [CallF_eq e_irunning_step rfl]
  obtain ⟨h1, h2, h3, h4, h5, h6, h7, h8⟩ := h
  rw [hr] at h8
  have h8' := h8
  obtain ⟨q, sb, so, c, nx, rfl, oq, hq, gq, osb, hsb, l1, s1, fnx, hp⟩ := h8.head
  obtain ⟨va, vy, vz, rfl, ea, ey, ez⟩ := s1
  have g0 := loadN_get l1 (i := 0) (by omega)
  have g6 := loadN_get l1 (i := 6) (by omega)
  have g7 := loadN_get l1 (i := 7) (by omega)
  have g3 : H.loadN sb (so + 3) 3 = some [.I s.e.op, .I s.e.n, va] := (loadN_part l1 (by omega)).trans rfl
  simp at g0 g6 g7
  have ev : evE t.vars s.e = evE1 t.vars s.e.op s.e.n (evF t.vars s.e.args) := rfl
  have fin : ∀ (H2 : AH) (p' : AV) (l : List St1), Ext H H2 → PL (fun b => b ≠ R ∧ b ≠ V ∧ b ∉ M) H2 p' l → blkR s r (evE t.vars s.e) = Sts.of l → ∃ H3, H2.store R 1 [p'] = some H3 ∧ K (.I 1) H3 := by
    intro H2 p' l x2 hp2 he
    have n2 := x2.1
    have hR2 : H2.bk R = some ⟨[vv, .ptr q 0], true⟩ := (x2.2 R h2).trans h1
    have st : H2.store R 1 [p'] = some (H2.put R (some ⟨[vv, p'], true⟩)) := store_bk hR2 (by simp)
    refine ⟨_, st, ?_⟩
    have oR : Only [R] H2 (H2.put R (some ⟨[vv, p'], true⟩)) := Only.refl.put (by simp)
    refine k p' _ ⟨put_same, by simp; omega, h3, (h4.ext x2).only oR (by simp; omega), h5, by simp; omega, h7, ?_⟩ ((show Only [R] H H2 from ⟨n2, fun b hb _ => x2.2 b hb⟩).trans oR)
    rw [he, Sts.list_of]
    exact PL.mono (H := H2) (H' := H2.put R (some ⟨[vv, p'], true⟩)) (Nat.le_refl _) (fun b hb _ => by rw [put_bk, if_neg hb.1]) (fun _ h _ => h) hp2
  rw [ev] at fin
  have okn : ∀ (H1 : AH), H.n ≤ H1.n → ∀ b, H1.n ≤ b → b ≠ R ∧ b ≠ V ∧ b ∉ M := fun H1 hn b hb => ⟨by omega, by omega, fun hm => by have := hM b hm; omega⟩
  rcases hk with hk | hk
  · rw [hk] at g0
    simp [load_bk h1, load_bk gq, g0, g7]
    refine K_iexprEval s.e.args (d := 5) ea hsb g3 h4.iv.sees h44 hw hoe fun H1 x1 => ?_
    generalize evE1 t.vars s.e.op s.e.n (evF t.vars s.e.args) = X at *
    have n1 := x1.1
    have g6' : H1.load sb (so + 6) = some vy := by rw [load_ext x1 hsb]; exact g6
    by_cases hX : X = 0
    · simp [x1, hX]
      refine K_iahead (ok := fun b => b ≠ R ∧ b ≠ V ∧ b ∉ M) (f := s.els) (rs := r) H1.n (Nat.le_refl _) (okn H1 n1) (ez.ext x1) (hp.ext x1) fun p' H2 hp2 x2 => ?_
      obtain ⟨H3, e1, e2⟩ := fin H2 p' _ (x1.trans x2) hp2 (by simp [blkR, hk, hX])
      have fp := hp2.flat
      simp [x2, flat_cells fp, flat_tup fp, e1]
      exact e2
    · simp [x1, hX, g6']
      refine K_iahead (ok := fun b => b ≠ R ∧ b ≠ V ∧ b ∉ M) (f := s.body) (rs := r) H1.n (Nat.le_refl _) (okn H1 n1) (ey.ext x1) (hp.ext x1) fun p' H2 hp2 x2 => ?_
      obtain ⟨H3, e1, e2⟩ := fin H2 p' _ (x1.trans x2) hp2 (by simp [blkR, hk, hX])
      have fp := hp2.flat
      simp [x2, flat_cells fp, flat_tup fp, e1]
      exact e2
  · rw [hk] at g0
    simp [load_bk h1, load_bk gq, g0]
    refine K_iexprEval s.e.args (d := 5) ea hsb g3 h4.iv.sees h44 hw hoe fun H1 x1 => ?_
    generalize evE1 t.vars s.e.op s.e.n (evF t.vars s.e.args) = X at *
    have n1 := x1.1
    have g6' : H1.load sb (so + 6) = some vy := by rw [load_ext x1 hsb]; exact g6
    have h1' : H1.bk R = _ := (x1.2 R h2).trans h1
    by_cases hX : X = 0
    · obtain ⟨H3, e1, e2⟩ := fin H1 nx r x1 (hp.ext x1) (by simp [blkR, hk, hX])
      simp [x1, hX, flat_cells fnx, flat_tup fnx, e1]
      exact e2
    · simp [x1, hX, g6', load_bk h1']
      refine K_iahead (ok := fun b => b ≠ R ∧ b ≠ V ∧ b ∉ M) (f := s.body) (rs := s :: r) H1.n (Nat.le_refl _) (okn H1 n1) (ey.ext x1) (h8'.ext x1) fun p' H2 hp2 x2 => ?_
      obtain ⟨H3, e1, e2⟩ := fin H2 p' _ (x1.trans x2) hp2 (by simp [blkR, hk, hX])
      have fp := hp2.flat
      simp [x2, flat_cells fp, flat_tup fp, e1]
      exact e2
def TellOk (ft : FuncId) (cap : List AV) (tb : List Nat) (P : AH → Prop) (TI : Int × Int × Int → AH → AH → Prop) : Prop :=
  ∀ (kd bx x : Int) (H1 : AH) (K1 : AV → AH → Prop) (w1 : Fk K1), P H1 → (∀ H2, TI (kd, bx, x) H1 H2 → Only tb H1 H2 → K1 (.tup []) H2) → CallF Cd ft (.I kd :: .I bx :: .I x :: cap) H1 K1 w1
theorem K_irunning_step_print {base : Nat} {M : List Nat} {R V : Nat} {vv p vb : AV} {t : Tk} {s : St1} {r : List St1} {ft : FuncId} {cap : List AV} {tb : List Nat} {P : AH → Prop} {TI : Int × Int × Int → AH → AH → Prop}
    (h : RunT base M H R vv V p t) (hr : t.rest.list = s :: r) (hk : s.k = 7) (hoe : okE 5 s.e = true) (h44 : t.vars.length = 4) (hw : t.vars.all isW = true)
    (hT : TellOk ft cap tb P TI) (hP : ∀ H1, Ext H H1 → P H1) (hRt : R ∉ tb) (hVt : V ∉ tb) (htM : ∀ b ∈ tb, b ∈ M)
    (k : ∀ p' H1 H2 H', (∀ M2 : List Nat, (∀ b ∈ M2, b ∈ M ∨ H.n ≤ b) → RunT base M2 H' R vv V p' ⟨t.vars, Sts.of r⟩) → Ext H H1 → TI (3, 0, evE t.vars s.e) H1 H2 → Only tb H1 H2 → Only [R] H2 H' → K (.I 1) H') : CallF Cd f_irunning_step [.ptr R 0, vb, .fn ft [] cap] H K w := by
  rw [CallF_eq e_irunning_step rfl]
  have h' := h
  obtain ⟨h1, h2, h3, h4, h5, h6, h7, h8⟩ := h
  rw [hr] at h8
  obtain ⟨q, sb, so, c, nx, rfl, oq, hq, gq, osb, hsb, l1, s1, fnx, hp⟩ := h8.head
  obtain ⟨va, vy, vz, rfl, ea, ey, ez⟩ := s1
  have g0 := loadN_get l1 (i := 0) (by omega)
  have g3 : H.loadN sb (so + 3) 3 = some [.I s.e.op, .I s.e.n, va] := (loadN_part l1 (by omega)).trans rfl
  simp at g0
  rw [hk] at g0
  simp [load_bk h1, load_bk gq, g0]
  refine K_iexprEval s.e.args (d := 5) ea hsb g3 h4.iv.sees h44 hw hoe fun H1 x1 => ?_
  have ev : evE t.vars s.e = evE1 t.vars s.e.op s.e.n (evF t.vars s.e.args) := rfl
  rw [ev] at k
  generalize evE1 t.vars s.e.op s.e.n (evF t.vars s.e.args) = X at *
  have n1 := x1.1
  simp [x1]
  refine hT 3 0 X H1 _ _ (hP H1 x1) fun H2 ti o2 => ?_
  have n2 := o2.1
  have hR2 : H2.bk R = some ⟨[vv, .ptr q 0], true⟩ := o2.bk (by omega) hRt ((x1.2 R h2).trans h1)
  have st : H2.store R 1 [nx] = some (H2.put R (some ⟨[vv, nx], true⟩)) := store_bk hR2 (by simp)
  simp [flat_cells fnx, flat_tup fnx, st]
  have oR : Only [R] H2 (H2.put R (some ⟨[vv, nx], true⟩)) := Only.refl.put (by simp)
  refine k nx H1 H2 _ (fun M2 hM2 => ⟨put_same, by simp; omega, h3, ((h4.ext x1).only o2 (fun b hb => .inr (fun e => hVt (by rw [← e]; exact hb)))).only oR (by simp; omega), h5, by simp; omega, h7, ?_⟩) x1 ti o2 oR
  rw [Sts.list_of]
  exact PL.mono (H := H) (H' := H2.put R (some ⟨[vv, nx], true⟩)) (by simp; omega) (fun b hb hb2 => by rw [put_bk, if_neg hb.1, o2.2 b (by omega) (fun hm => hb.2.2 (htM b hm)), x1.2 b hb2]) (fun b hb hb2 => ⟨hb.1, hb.2.1, fun hm => by rcases hM2 b hm with q | q; exact hb.2.2 q; omega⟩) hp
theorem grB_sub {v : AV} {I b : Nat} (h : b ∈ grB v I) : b = I := by
  cases v <;> simp [grB] at h <;> exact h
theorem fpB_set {B : Nat} {rs : List (AV × Nat)} {i : Nat} {v' : AV} {I' b : Nat} (h : b ∈ fpB B (rs.set i (v', I'))) : b ∈ fpB B rs ∨ b = I' := by
  rw [mem_fpB] at h ⊢
  rcases h with h | ⟨p, hp, hb⟩
  · exact .inl (.inl ⟨fun e => h.1 (by rw [e]; rfl), h.2⟩)
  · rcases List.mem_or_eq_of_mem_set hp with q | q
    · exact .inl (.inr ⟨p, q, hb⟩)
    · subst q; exact .inr (grB_sub hb)
theorem K_irunning_step_send {base : Nat} {M : List Nat} {R V : Nat} {vv p vb : AV} {t : Tk} {s : St1} {r : List St1} {ft : FuncId} {cap : List AV} {tb : List Nat} {P : AH → Prop} {TI : Int × Int × Int → AH → AH → Prop} {bs : List Bx} {B : Nat} {rs : List (AV × Nat)} {bx : Bx}
    (h : RunT base M H R vv V p t) (hr : t.rest.list = s :: r) (hk : s.k = 4) (hoe : okE 5 s.e = true) (h44 : t.vars.length = 4) (hw : t.vars.all isW = true) (hsb : 0 ≤ s.b) (hbase : base ≤ H.n)
    (hb : RB base H vb bs B rs) (hbx : bs[s.b.toNat]? = some bx) (hroom : bx.items.length ≤ bx.room ∧ bx.room ≤ 100) (hbl : bs.length ≤ 1000)
    (hRf : R ∉ fpB B rs) (hVf : V ∉ fpB B rs) (hfM : ∀ b ∈ fpB B rs, b ∈ M) (htf : ∀ b ∈ tb, b ∉ fpB B rs) (htn : ∀ b ∈ tb, b < H.n)
    (hT : TellOk ft cap tb P TI) (hP : ∀ H1, Only (fpB B rs) H H1 → P H1) (hRt : R ∉ tb) (hVt : V ∉ tb) (htM : ∀ b ∈ tb, b ∈ M)
    (k1 : (bx.items.length : Int) = bx.room → ∀ H1, Ext H H1 → K (.I 3) H1)
    (k2 : (bx.items.length : Int) < bx.room → ∀ p' rs' H1 H2 H', (∀ M2 : List Nat, (∀ b ∈ M2, b ∈ M ∨ H.n ≤ b) → RunT base M2 H' R vv V p' ⟨t.vars, Sts.of r⟩) → RB base H' vb (bs.set s.b.toNat ⟨bx.room, bx.items ++ [evE t.vars s.e]⟩) B rs' → (∀ b ∈ fpB B rs', b ∈ fpB B rs ∨ H.n ≤ b ∧ b < H1.n) →
      Only (fpB B rs) H H1 → TI (1, s.b, evE t.vars s.e) H1 H2 → Only tb H1 H2 → Only [R] H2 H' → K (.I 1) H') : CallF Cd f_irunning_step [.ptr R 0, vb, .fn ft [] cap] H K w := by
  rw [CallF_eq e_irunning_step rfl]
  obtain ⟨h1, h2, h3, h4, h5, h6, h7, h8⟩ := h
  rw [hr] at h8
  obtain ⟨q, sb, so, c, nx, rfl, oq, hq, gq, osb, hsb', l1, s1, fnx, hp⟩ := h8.head
  obtain ⟨va, vy, vz, rfl, ea, ey, ez⟩ := s1
  have g0 := loadN_get l1 (i := 0) (by omega)
  have g2 := loadN_get l1 (i := 2) (by omega)
  have g3 : H.loadN sb (so + 3) 3 = some [.I s.e.op, .I s.e.n, va] := (loadN_part l1 (by omega)).trans rfl
  simp at g0 g2
  rw [hk] at g0
  simp [load_bk h1, load_bk gq, g0]
  refine K_iexprEval s.e.args (d := 5) ea hsb' g3 h4.iv.sees h44 hw hoe fun H1 x1 => ?_
  have ev : evE t.vars s.e = evE1 t.vars s.e.op s.e.n (evF t.vars s.e.args) := rfl
  rw [ev] at k2
  generalize evE1 t.vars s.e.op s.e.n (evF t.vars s.e.args) = X at *
  have n1 := x1.1
  have hi := (List.getElem?_eq_some_iff.1 hbx).1
  have hne : bs ≠ [] := fun e => by rw [e] at hi; simp at hi
  have hb1 : RB base H1 vb bs B rs := hb.only x1.only (cs := []) (by simp) hne
  obtain ⟨pr, bcap, e1, e2, e3, e4, e5, e6, e7, e8⟩ := hb1.at hbx
  have g2' : H1.load sb (so + 2) = some (.I s.b) := by rw [load_ext x1 hsb']; exact g2
  subst e2
  simp (disch := omega) [x1, g2']
  refine K_iBox_put e5 e4 e6 e7 (by omega) e8 hroom (fun hq => ?_) (fun hlt v' I' H2 H3 i1 i2 i3 i4 i5 i6 i7 => ?_)
  · simp
    exact k1 hq H1 x1
  · obtain ⟨u1, u2, u3⟩ := hb1.upd hbx e1 i1 i2 (by omega) i3 i6
    have o3 : Only (fpB B rs) H H3 := (show Only (fpB B rs) H H1 from ⟨n1, fun b hb _ => x1.2 b hb⟩).trans u2
    have n3 := o3.1
    have hsf : sb ∉ fpB B rs := fun hm => osb.2.2 (hfM sb hm)
    have g2'' : H3.load sb (so + 2) = some (.I s.b) := by unfold AH.load at g2' ⊢; rw [u2.2 sb (by omega) hsf]; exact g2'
    simp [g2'']
    refine hT 1 s.b X H3 _ _ (hP H3 o3) fun H4 ti o4 => ?_
    have n4 := o4.1
    have hR4 : H4.bk R = some ⟨[vv, .ptr q 0], true⟩ := o4.bk (by omega) hRt (o3.bk h2 hRf h1)
    have st : H4.store R 1 [nx] = some (H4.put R (some ⟨[vv, nx], true⟩)) := store_bk hR4 (by simp)
    simp [flat_cells fnx, flat_tup fnx, st]
    have oR : Only [R] H4 (H4.put R (some ⟨[vv, nx], true⟩)) := Only.refl.put (by simp)
    have hI : I' ∈ M ∨ H.n ≤ I' := by
      rcases i2 with z | z
      · refine .inl (hfM I' ?_)
        rw [mem_fpB]
        exact .inr ⟨pr, List.mem_of_getElem? e1, by rw [z.1]; exact z.2⟩
      · exact .inr (by omega)
    have hIf : ∀ b, b ∈ fpB B (rs.set s.b.toNat (v', I')) → b ∈ fpB B rs ∨ H.n ≤ b := fun b hb => by
      rcases fpB_set hb with z | z
      · exact .inl z
      · subst z
        rcases i2 with y | y
        · refine .inl ?_
          rw [mem_fpB]
          exact .inr ⟨pr, List.mem_of_getElem? e1, by rw [y.1]; exact y.2⟩
        · exact .inr (by omega)
    have hne' : bs.set s.b.toNat (⟨bx.room, bx.items ++ [X]⟩ : Bx) ≠ [] := fun e => by
      have := congrArg List.length e
      simp at this; exact hne this
    have rb4 := (u1.only o4 (fun b hb => .inr (fun hm => by rcases hIf b hm with z | z; exact htf b hb z; have := htn b hb; omega)) hne').only oR (fun b hb => .inr (fun hm => by
      simp at hb; subst hb
      rcases hIf b hm with z | z
      · exact hRf z
      · omega)) hne'
    refine k2 hlt nx _ H3 H4 _ (fun M2 hM2 => ⟨put_same, by simp; omega, h3, ((h4.only o3 (fun b hb => .inr (fun e => hVf (by rw [← e]; exact hb)))).only o4 (fun b hb => .inr (fun e => hVt (by rw [← e]; exact hb)))).only oR (by simp; omega), h5, by simp; omega, h7, ?_⟩) rb4 (fun b hb => ?_) o3 ti o4 oR
    · rw [Sts.list_of]
      exact PL.mono (H := H) (H' := H4.put R (some ⟨[vv, nx], true⟩)) (by simp; omega) (fun b hb hb2 => by rw [put_bk, if_neg hb.1, o4.2 b (by omega) (fun hm => hb.2.2 (htM b hm)), o3.2 b hb2 (fun hm => hb.2.2 (hfM b hm))]) (fun b hb hb2 => ⟨hb.1, hb.2.1, fun hm => by rcases hM2 b hm with q | q; exact hb.2.2 q; omega⟩) hp
    · rcases hIf b hb with z | z
      · exact .inl z
      · exact .inr ⟨z, (u1.mem' hb).2⟩
theorem K_irunning_step_recv {base : Nat} {M : List Nat} {R V : Nat} {vv p vb : AV} {t : Tk} {s : St1} {r : List St1} {ft : FuncId} {cap : List AV} {tb : List Nat} {P : AH → Prop} {TI : Int × Int × Int → AH → AH → Prop} {bs : List Bx} {B : Nat} {rs : List (AV × Nat)} {bx : Bx}
    (h : RunT base M H R vv V p t) (hr : t.rest.list = s :: r) (hk : s.k = 5) (h44 : t.vars.length = 4) (hsv : 0 ≤ s.v ∧ s.v < 4) (hsb : 0 ≤ s.b) (hbase : base ≤ H.n)
    (hb : RB base H vb bs B rs) (hbx : bs[s.b.toNat]? = some bx) (hbl : bs.length ≤ 1000)
    (hRf : R ∉ fpB B rs) (hVf : V ∉ fpB B rs) (hfM : ∀ b ∈ fpB B rs, b ∈ M) (htf : ∀ b ∈ tb, b ∉ fpB B rs) (htn : ∀ b ∈ tb, b < H.n)
    (hT : TellOk ft cap tb P TI) (hP : ∀ H1, Only (V :: fpB B rs) H H1 → P H1) (hRt : R ∉ tb) (hVt : V ∉ tb) (htM : ∀ b ∈ tb, b ∈ M)
    (k1 : bx.items = [] → K (.I 3) H)
    (k2 : ∀ y q, bx.items = y :: q → ∀ p' rs' H1 H2 H', (∀ M2 : List Nat, (∀ b ∈ M2, b ∈ M ∨ H.n ≤ b) → RunT base M2 H' R vv V p' ⟨t.vars.set s.v.toNat y, Sts.of r⟩) → RB base H' vb (bs.set s.b.toNat ⟨bx.room, q⟩) B rs' → (∀ b ∈ fpB B rs', b ∈ fpB B rs) →
      Only (V :: fpB B rs) H H1 → TI (2, s.b, y) H1 H2 → Only tb H1 H2 → Only [R] H2 H' → K (.I 1) H') : CallF Cd f_irunning_step [.ptr R 0, vb, .fn ft [] cap] H K w := by
  rw [CallF_eq e_irunning_step rfl]
  obtain ⟨h1, h2, h3, h4, h5, h6, h7, h8⟩ := h
  rw [hr] at h8
  obtain ⟨q, sb, so, c, nx, rfl, oq, hq, gq, osb, hsb', l1, s1, fnx, hp⟩ := h8.head
  obtain ⟨va, vy, vz, rfl, ea, ey, ez⟩ := s1
  have g0 := loadN_get l1 (i := 0) (by omega)
  have g1 := loadN_get l1 (i := 1) (by omega)
  have g2 := loadN_get l1 (i := 2) (by omega)
  simp at g0 g1 g2
  rw [hk] at g0
  have hi := (List.getElem?_eq_some_iff.1 hbx).1
  have hne : bs ≠ [] := fun e => by rw [e] at hi; simp at hi
  obtain ⟨pr, bcap, e1, e2, e3, e4, e5, e6, e7, e8⟩ := hb.at hbx
  subst e2
  simp (disch := omega) [load_bk h1, load_bk gq, g0, g2]
  refine K_iBox_take e5 e4 e6 e7 e8 (fun hq => ?_) (fun y qq hyq v' H2 H3 i1 i3 i4 i5 i6 i7 => ?_)
  · simp
    exact k1 hq
  · have i3' : Only (grB pr.1 pr.2) H H2 := by rw [i4]; exact i3
    obtain ⟨u1, u2, u3⟩ := hb.upd hbx e1 i1 (.inl ⟨rfl, by rw [i4]; simp⟩) hbase i3' i6
    have n3 := u2.1
    have hsf : sb ∉ fpB B rs := fun hm => osb.2.2 (hfM sb hm)
    have g1'' : H3.load sb (so + 1) = some (.I s.v) := by unfold AH.load at g1 ⊢; rw [u2.2 sb hsb' hsf]; exact g1
    have hR3 : H3.bk R = some ⟨[vv, .ptr q 0], true⟩ := u2.bk h2 hRf h1
    obtain ⟨cap', H4, rfl, s2, s3, s4, s5, s6⟩ := (h4.only u2 (fun b hb => .inr (fun e => hVf (by rw [← e]; exact hb)))).store (i := s.v.toNat) (c := [.I y]) (by omega) rfl
    rw [Nat.mul_one] at s2
    have n4 := s4.1
    have g2'' : H4.load sb (so + 2) = some (.I s.b) := by
      unfold AH.load at g2 ⊢
      rw [s4.2 sb (by omega) (by simp; exact osb.2.1), u2.2 sb hsb' hsf]; exact g2
    have o4 : Only (V :: fpB B rs) H H4 := ⟨by omega, fun b hb hm => by
      simp only [List.mem_cons, not_or] at hm
      rw [s4.2 b (by omega) (by simp; exact hm.1), u2.2 b hb hm.2]⟩
    simp (disch := omega) [load_bk hR3, g1'', s2, g2'']
    refine hT 2 s.b y H4 _ _ (hP H4 o4) fun H5 ti o5 => ?_
    have n5 := o5.1
    have hR5 : H5.bk R = some ⟨[.sl V 0 t.vars.length cap', .ptr q 0], true⟩ := o5.bk (by omega) hRt (s4.bk (by omega) (by simp; exact h5) hR3)
    have st : H5.store R 1 [nx] = some (H5.put R (some ⟨[.sl V 0 t.vars.length cap', nx], true⟩)) := store_bk hR5 (by simp)
    simp [flat_cells fnx, flat_tup fnx, st]
    have oR : Only [R] H5 (H5.put R (some ⟨[.sl V 0 t.vars.length cap', nx], true⟩)) := Only.refl.put (by simp)
    have hIf : ∀ b, b ∈ fpB B (rs.set s.b.toNat (v', pr.2)) → b ∈ fpB B rs := fun b hb => by
      rcases fpB_set hb with z | z
      · exact z
      · subst z
        rw [mem_fpB]
        exact .inr ⟨pr, List.mem_of_getElem? e1, by rw [i4]; simp⟩
    have hne' : bs.set s.b.toNat (⟨bx.room, qq⟩ : Bx) ≠ [] := fun e => by
      have := congrArg List.length e
      simp at this; exact hne this
    have rb5 := ((u1.only s4 (fun b hb => .inr (fun hm => by simp at hb; subst hb; exact hVf (hIf _ hm))) hne').only o5 (fun b hb => .inr (fun hm => htf b hb (hIf b hm))) hne').only oR (fun b hb => .inr (fun hm => by
      simp at hb; subst hb; exact hRf (hIf _ hm))) hne'
    have e9 : splice (Ints t.vars) (s.v.toNat * 1) [.I y] = Ints (t.vars.set s.v.toNat y) := by rw [Nat.mul_one]; exact Ints_set (by omega)
    rw [e9] at s3
    have hl : (t.vars.set s.v.toNat y).length = t.vars.length := by simp
    refine k2 y qq hyq nx _ H4 H5 _ (fun M2 hM2 => ⟨put_same, by simp; omega, h3, by rw [hl]; exact (s3.only o5 (fun b hb => .inr (fun e => hVt (by rw [← e]; exact hb)))).only oR (by simp; omega), h5, by simp; omega, h7, ?_⟩) rb5 (fun b hb => hIf b hb) o4 ti o5 oR
    rw [Sts.list_of]
    exact PL.mono (H := H) (H' := H5.put R (some ⟨[.sl V 0 t.vars.length cap', nx], true⟩)) (by simp; omega) (fun b hb hb2 => by rw [put_bk, if_neg hb.1, o5.2 b (by omega) (fun hm => hb.2.2 (htM b hm)), o4.2 b hb2 (fun hm => by rcases List.mem_cons.1 hm with z | z; exact hb.2.1 z; exact hb.2.2 (hfM b z))]) (fun b hb hb2 => ⟨hb.1, hb.2.1, fun hm => by rcases hM2 b hm with q | q; exact hb.2.2 q; omega⟩) hp
end
end Go.Proofs.YtmecbehegmgbhaaGreat.AM
namespace Go.Proofs.YtmecbehegmgbhaaGreat.AM
set_option linter.unusedSimpArgs false
set_option linter.unusedVariables false
set_option maxRecDepth 100000
set_option maxHeartbeats 2000000
open Go
end Go.Proofs.YtmecbehegmgbhaaGreat.AM
namespace Go.Proofs.YtmecbehegmgbhaaGreat.AM
set_option linter.unusedSimpArgs false
set_option linter.unusedVariables false
set_option maxRecDepth 100000
set_option maxHeartbeats 2000000
open Go
theorem RunT.more {base M M' H R vv V p t} (h : RunT base M H R vv V p t) (hM : ∀ b ∈ M', b ∈ M ∨ H.n ≤ b) : RunT base M' H R vv V p t := by
  obtain ⟨h1, h2, h3, h4, h5, h6, h7, h8⟩ := h
  exact ⟨h1, h2, h3, h4, h5, h6, h7, h8.mono (Nat.le_refl _) (fun _ _ _ => rfl) (fun b hb hn => ⟨hb.1, hb.2.1, fun hm => by rcases hM b hm with q | q; exact hb.2.2 q; omega⟩)⟩
theorem Only.mono {bs cs H H'} (h : Only bs H H') (k : ∀ b ∈ bs, b ∈ cs ∨ H.n ≤ b) : Only cs H H' := ⟨h.1, fun b hb hm => h.2 b hb (fun q => by rcases k b q with q | q; exact hm q; omega)⟩
def Told (TI : Int × Int × Int → AH → AH → Prop) (tb : List Nat) (e : Option (Int × Int × Int)) (H1 H2 : AH) : Prop :=
  match e with
  | none => H2 = H1
  | some e => TI e H1 H2 ∧ Only tb H1 H2
theorem vaBs_facts {l : List Bx} (h : vaBs l = true) : l.length ≤ 3 ∧ ∀ x ∈ l, 1 ≤ x.room ∧ x.room ≤ 4 ∧ (x.items.length : Int) ≤ x.room ∧ x.items.all isW = true := by
  unfold vaBs at h
  simp only [Bool.and_eq_true, decide_eq_true_eq] at h
  refine ⟨h.2, fun x hx => ?_⟩
  have := List.all_eq_true.1 h.1 x hx
  unfold vaB at this
  simp only [Bool.and_eq_true, decide_eq_true_eq] at this
  exact ⟨this.1.1, this.1.2.1, this.1.2.2, this.2⟩
section
variable {H : AH} {K : AV → AH → Prop} {w : Fk K}
theorem K_irunning_step {base : Nat} {M : List Nat} {R V : Nat} {vv p vb : AV} {t : Tk} {ft : FuncId} {cap : List AV} {tb : List Nat} {P : AH → Prop} {TI : Int × Int × Int → AH → AH → Prop} {bs : List Bx} {B : Nat} {rs : List (AV × Nat)}
    (h : RunT base M H R vv V p t) (hM : ∀ b ∈ M, b < H.n) (hva : vaT 3 t = true) (hbase : base ≤ H.n) (hb : RB base H vb bs B rs) (hbs : vaBs bs = true) (hrd : rdT t bs.length = true)
    (hRf : R ∉ fpB B rs) (hVf : V ∉ fpB B rs) (hfM : ∀ b ∈ fpB B rs, b ∈ M) (htf : ∀ b ∈ tb, b ∉ fpB B rs) (htn : ∀ b ∈ tb, b < H.n)
    (hT : TellOk ft cap tb P TI) (hP : ∀ H1, Only (V :: fpB B rs) H H1 → P H1) (hRt : R ∉ tb) (hVt : V ∉ tb) (htM : ∀ b ∈ tb, b ∈ M)
    (k : ∀ p' rs' H1 H2 H', (∀ M2 : List Nat, (∀ b ∈ M2, b ∈ M ∨ (H1.n ≤ b ∧ b < H2.n) ∨ b ∈ fpB B rs') → RunT base M2 H' R vv V p' (stepP t bs).1) → RB base H' vb (stepP t bs).2.1 B rs' → (∀ b ∈ fpB B rs', b ∈ fpB B rs ∨ H.n ≤ b ∧ b < H1.n) →
      Only (V :: fpB B rs) H H1 → Told TI tb (evS t bs) H1 H2 → Only [R, V] H2 H' → K (.I (stepP t bs).2.2.2) H') : CallF Cd f_irunning_step [.ptr R 0, vb, .fn ft [] cap] H K w := by
  obtain ⟨f1, f2, f3, f4⟩ := vaT_facts hva
  obtain ⟨g1, g2⟩ := vaBs_facts hbs
  have plain : ∀ (H' : AH) (p' : AV) (t' : Tk), RunT base M H' R vv V p' t' → ∀ M2 : List Nat, (∀ b ∈ M2, b ∈ M ∨ (H.n ≤ b ∧ b < H.n) ∨ b ∈ fpB B rs) → RunT base M2 H' R vv V p' t' := fun H' p' t' r M2 hM2 => r.more (fun b hb => by
    rcases hM2 b hb with q | q | q
    · exact .inl q
    · omega
    · exact .inl (hfM b q))
  cases hr : t.rest.list with
  | nil =>
    refine K_irunning_step_end h hr ?_
    have e1 : stepP t bs = (t, bs, [], 4) := by unfold stepP; rw [hr]
    have e2 : evS t bs = none := by unfold evS; rw [hr]
    rw [e1, e2] at k
    exact k p rs H H H (plain _ _ _ h) hb (fun b hb => .inl hb) Only.refl rfl Only.refl
  | cons s r =>
    obtain ⟨q1, q2, q3, q4, q5⟩ := okT_facts (f3 s (by rw [hr]; exact List.mem_cons_self)).1
    have hcase : s.k = 1 ∨ s.k = 2 ∨ s.k = 3 ∨ s.k = 4 ∨ s.k = 5 ∨ s.k = 6 ∨ s.k = 7 := by omega
    rcases hcase with k1 | k2 | k3 | k4 | k5 | k6 | k7
    · have e1 : stepP t bs = (⟨t.vars.set s.v.toNat (evE t.vars s.e), Sts.of r⟩, bs, [], 1) := by unfold stepP; rw [hr]; simp [k1]
      have e2 : evS t bs = none := by unfold evS; rw [hr]; simp [k1]
      rw [e1, e2] at k
      refine K_irunning_step_set h hr k1 (q2 (by omega) (by omega)) f1 f2 (q3 (by omega)) fun p' H' r1 o1 => ?_
      exact k p' rs H H H' (plain _ _ _ r1) (hb.onlyA o1 (fun b hb => .inr (fun hm => by simp at hb; rcases hb with rfl | rfl; exact hRf hm; exact hVf hm))) (fun b hb => .inl hb) Only.refl rfl o1
    all_goals try
      have e1 : stepP t bs = (⟨t.vars, blkR s r (evE t.vars s.e)⟩, bs, [], 1) := by unfold stepP; rw [hr]; simp [*]
      have e2 : evS t bs = none := by unfold evS; rw [hr]; simp [*]
      rw [e1, e2] at k
      refine K_irunning_step_blk h hM hr (by omega) (q2 (by omega) (by omega)) f1 f2 fun p' H' r1 o1 => ?_
      exact k p' rs H H H' (plain _ _ _ r1) (hb.onlyA o1 (fun b hb => .inr (fun hm => by simp at hb; rcases hb with rfl; exact hRf hm))) (fun b hb => .inl hb) Only.refl rfl (o1.mono (fun b hb => .inl (by simp at hb; simp [hb])))
    · have hsb := q4 (.inl k4)
      have hlt : s.b < bs.length := by unfold rdT at hrd; rw [hr] at hrd; simpa [k4] using hrd
      obtain ⟨bx, hbx⟩ : ∃ x, bs[s.b.toNat]? = some x := ⟨_, List.getElem?_eq_getElem (by omega)⟩
      have hx := g2 bx (List.mem_of_getElem? hbx)
      refine K_irunning_step_send h hr k4 (q2 (by omega) (by omega)) f1 f2 hsb.1 hbase hb hbx (by omega) (by omega) hRf hVf hfM htf htn hT (fun H1 o => hP H1 (o.mono (fun b hb => .inl (List.mem_cons_of_mem _ hb)))) hRt hVt htM ?_ ?_
      · intro hfull H1 x1
        have hnl : ¬ (bx.items.length : Int) < bx.room := by omega
        have e1 : stepP t bs = (t, bs, [], 3) := by unfold stepP talkP; rw [hr]; simp [k4, hbx, hnl]
        have e2 : evS t bs = none := by unfold evS; rw [hr]; simp [k4, hbx, hnl]
        rw [e1, e2] at k
        exact k p rs H1 H1 H1 (fun M2 hM2 => (h.only (x1.only (bs := [])) (by simp) (by simp) (by simp)).more (fun b hb => by
          rcases hM2 b hb with q | q | q
          · exact .inl q
          · omega
          · exact .inl (hfM b q))) (hb.onlyA (x1.only (bs := [])) (by simp)) (fun b hb => .inl hb) x1.only rfl Only.refl
      · intro hroom p' rs' H1 H2 H' r1 b1 m1 o1 ti o2 o3
        have e1 : stepP t bs = (⟨t.vars, Sts.of r⟩, bs.set s.b.toNat ⟨bx.room, bx.items ++ [evE t.vars s.e]⟩, [], 1) := by unfold stepP talkP; rw [hr]; simp [k4, hbx, hroom]
        have e2 : evS t bs = some (1, s.b, evE t.vars s.e) := by unfold evS; rw [hr]; simp [k4, hbx, hroom]
        rw [e1, e2] at k
        have hfp : ∀ b ∈ fpB B rs', b ∈ M ∨ H.n ≤ b := fun b hb => by
          rcases m1 b hb with q | q
          · exact .inl (hfM b q)
          · exact .inr q.1
        have n1 := o1.1
        exact k p' rs' H1 H2 H' (fun M2 hM2 => r1 M2 (fun b hb => by
          rcases hM2 b hb with q | q | q
          · exact .inl q
          · exact .inr (by omega)
          · exact hfp b q)) b1 m1 (o1.mono (fun b hb => .inl (List.mem_cons_of_mem _ hb))) ⟨ti, o2⟩ (o3.mono (fun b hb => .inl (by simp at hb; simp [hb])))
    · have hsb := q4 (.inr k5)
      have hlt : s.b < bs.length := by unfold rdT at hrd; rw [hr] at hrd; simpa [k5] using hrd
      obtain ⟨bx, hbx⟩ : ∃ x, bs[s.b.toNat]? = some x := ⟨_, List.getElem?_eq_getElem (by omega)⟩
      refine K_irunning_step_recv h hr k5 f1 (q3 (.inr k5)) hsb.1 hbase hb hbx (by omega) hRf hVf hfM htf htn hT hP hRt hVt htM ?_ ?_
      · intro hemp
        have e1 : stepP t bs = (t, bs, [], 3) := by unfold stepP talkP; rw [hr]; simp [k5, hbx, hemp]
        have e2 : evS t bs = none := by unfold evS; rw [hr]; simp [k5, hbx, hemp]
        rw [e1, e2] at k
        exact k p rs H H H (plain _ _ _ h) hb (fun b hb => .inl hb) Only.refl rfl Only.refl
      · intro y q hy p' rs' H1 H2 H' r1 b1 m1 o1 ti o2 o3
        have e1 : stepP t bs = (⟨t.vars.set s.v.toNat y, Sts.of r⟩, bs.set s.b.toNat ⟨bx.room, q⟩, [], 1) := by unfold stepP talkP; rw [hr]; simp [k5, hbx, hy]
        have e2 : evS t bs = some (2, s.b, y) := by unfold evS; rw [hr]; simp [k5, hbx, hy]
        rw [e1, e2] at k
        have n1 := o1.1
        exact k p' rs' H1 H2 H' (fun M2 hM2 => r1 M2 (fun b hb => by
          rcases hM2 b hb with q | q | q
          · exact .inl q
          · exact .inr (by omega)
          · exact .inl (hfM b (m1 b q)))) b1 (fun b hb => .inl (m1 b hb)) o1 ⟨ti, o2⟩ (o3.mono (fun b hb => .inl (by simp at hb; simp [hb])))
    · have e1 : stepP t bs = (⟨t.vars, Sts.of r⟩, bs, [], 2) := by unfold stepP; rw [hr]; simp [k6]
      have e2 : evS t bs = none := by unfold evS; rw [hr]; simp [k6]
      rw [e1, e2] at k
      refine K_irunning_step_yield h hr k6 fun p' H' r1 o1 => ?_
      exact k p' rs H H H' (plain _ _ _ r1) (hb.onlyA o1 (fun b hb => .inr (fun hm => by simp at hb; rcases hb with rfl; exact hRf hm))) (fun b hb => .inl hb) Only.refl rfl (o1.mono (fun b hb => .inl (by simp at hb; simp [hb])))
    · have e1 : stepP t bs = (⟨t.vars, Sts.of r⟩, bs, [evE t.vars s.e], 1) := by unfold stepP; rw [hr]; simp [k7]
      have e2 : evS t bs = some (3, 0, evE t.vars s.e) := by unfold evS; rw [hr]; simp [k7]
      rw [e1, e2] at k
      refine K_irunning_step_print h hr k7 (q2 (by omega) (by omega)) f1 f2 hT (fun H1 x => hP H1 x.only) hRt hVt htM fun p' H1 H2 H' r1 x1 ti o2 o3 => ?_
      have n1 := x1.1
      refine k p' rs H1 H2 H' (fun M2 hM2 => r1 M2 (fun b hb => by
          rcases hM2 b hb with q | q | q
          · exact .inl q
          · exact .inr (by omega)
          · exact .inl (hfM b q))) ?_ (fun b hb => .inl hb) x1.only ⟨ti, o2⟩ (o3.mono (fun b hb => .inl (by simp at hb; simp [hb])))
      refine ((hb.onlyA (x1.only (bs := [])) (by simp)).onlyA o2 (fun b hb => .inr (htf b hb))).onlyA o3 (fun b hb => .inr (fun hm => by simp at hb; rcases hb with rfl; exact hRf hm))
end
end Go.Proofs.YtmecbehegmgbhaaGreat.AM
namespace Go.Proofs.YtmecbehegmgbhaaGreat.AM
set_option linter.unusedSimpArgs false
set_option linter.unusedVariables false
open Go
theorem okS_mono {boxes : Int} : ∀ {f : Sts} {n m : Int}, n ≤ m → okS boxes n f = true → okS boxes m f = true
  | .nil, _, _, _, _ => rfl
  | .cons k v b e y z r, n, m, hnm, h => by
    simp only [okS, Bool.and_eq_true] at h ⊢
    refine ⟨?_, okS_mono hnm h.2⟩
    have h1 := h.1
    unfold okS1 at h1 ⊢
    simp only [Bool.and_eq_true, Bool.or_eq_true, decide_eq_true_eq] at h1 ⊢
    refine ⟨h1.1, ?_⟩
    rcases h1.2 with q | q
    · exact .inl q
    · exact .inr ⟨⟨by omega, okS_mono (by omega) q.1.2⟩, okS_mono (by omega) q.2⟩
def vaW (boxes : Int) (s : St1) : Bool := vaS boxes (Sts.of [s])
theorem vaW_iff {boxes : Int} {s : St1} : vaW boxes s = true ↔ okT boxes 3 s = true ∧ ctT s ≤ 16 := by
  constructor
  · exact vaS_one
  · intro h
    unfold vaW vaS
    simp only [Bool.and_eq_true, decide_eq_true_eq]
    refine ⟨?_, ?_⟩
    · rw [okS_mem]; simpa using h.1
    · rw [ctS_of]; simpa using h.2
theorem vaT_iff {boxes : Int} {t : Tk} : vaT boxes t = true ↔ t.vars.length = 4 ∧ t.vars.all isW = true ∧ ∀ s ∈ t.rest.list, vaW boxes s = true := by
  unfold vaT
  simp only [Bool.and_eq_true, decide_eq_true_eq, List.all_eq_true, vaW, and_assoc]
theorem va_body {boxes : Int} {s : St1} (h : vaW boxes s = true) : (∀ x ∈ s.body.list, vaW boxes x = true) ∧ (∀ x ∈ s.els.list, vaW boxes x = true) := by
  obtain ⟨h1, h2⟩ := vaW_iff.1 h
  have h1' := h1
  unfold okT okS1 at h1
  simp only [Bool.and_eq_true, Bool.or_eq_true, decide_eq_true_eq] at h1
  unfold ctT at h2
  rcases h1.2 with q | q
  · obtain ⟨e1, e2⟩ := stV_leaf h1.1 q.1 q.2
    have e1 : s.body.list = [] := List.eq_nil_of_length_eq_zero e1
    have e2 : s.els.list = [] := List.eq_nil_of_length_eq_zero e2
    rw [e1, e2]; simp
  · refine ⟨fun x hx => vaW_iff.2 ⟨?_, ?_⟩, fun x hx => vaW_iff.2 ⟨?_, ?_⟩⟩
    · have := okS_mono (m := 3) (by omega) q.1.2
      rw [okS_mem] at this
      exact List.all_eq_true.1 this x hx
    · have := ctS_mem hx; unfold ctT; omega
    · have := okS_mono (m := 3) (by omega) q.2
      rw [okS_mem] at this
      exact List.all_eq_true.1 this x hx
    · have := ctS_mem hx; unfold ctT; omega
theorem body_len {boxes : Int} {s : St1} (h : vaW boxes s = true) : s.body.list.length ≤ 16 ∧ s.els.list.length ≤ 16 := by
  obtain ⟨_, h2⟩ := vaW_iff.1 h
  unfold ctT at h2
  have := @len_ctS s.body
  have := @len_ctS s.els
  omega
theorem blkR_va {boxes : Int} {s : St1} {r : List St1} {x : Int} (hs : vaW boxes s = true) (hr : ∀ x ∈ r, vaW boxes x = true) : (∀ y ∈ (blkR s r x).list, vaW boxes y = true) ∧ (blkR s r x).list.length ≤ r.length + 17 := by
  obtain ⟨h1, h2⟩ := va_body hs
  have := body_len hs
  unfold blkR
  split
  · rw [Sts.list_of]
    split
    · exact ⟨fun y hy => by rcases List.mem_append.1 hy with q | q; exact h1 y q; exact hr y q, by simp; omega⟩
    · exact ⟨fun y hy => by rcases List.mem_append.1 hy with q | q; exact h2 y q; exact hr y q, by simp; omega⟩
  · split
    · rw [Sts.list_of]
      refine ⟨fun y hy => ?_, by simp; omega⟩
      rcases List.mem_append.1 hy with q | q
      · exact h1 y q
      · rcases List.mem_cons.1 q with rfl | q
        · exact hs
        · exact hr y q
    · rw [Sts.list_of]; exact ⟨hr, by omega⟩
theorem all_set {l : List Int} {i : Nat} {x : Int} (h : l.all isW = true) (hx : isW x = true) : (l.set i x).all isW = true := by
  rw [List.all_eq_true] at h ⊢
  intro y hy
  rcases List.mem_or_eq_of_mem_set hy with q | q
  · exact h y q
  · subst q; exact hx
theorem vaBs_set {bs : List Bx} {i : Nat} {x : Bx} (h : vaBs bs = true) (hx : vaB x = true) : vaBs (bs.set i x) = true := by
  unfold vaBs at h ⊢
  simp only [Bool.and_eq_true, decide_eq_true_eq, List.length_set] at h ⊢
  refine ⟨?_, h.2⟩
  rw [List.all_eq_true] at h ⊢
  intro y hy
  rcases List.mem_or_eq_of_mem_set hy with q | q
  · exact h.1 y q
  · subst q; exact hx
theorem rooms_set {bs : List Bx} {i : Nat} {b : Bx} {l : List Int} (h : bs[i]? = some b) : (bs.set i ⟨b.room, l⟩).map (·.room) = bs.map (·.room) := by
  rw [List.map_set]
  refine List.ext_getElem? fun j => ?_
  by_cases hj : j = i
  · subst hj
    have := (List.getElem?_eq_some_iff.1 h).1
    rw [List.getElem?_set_self (by simpa using this), List.getElem?_map, h]; rfl
  · rw [List.getElem?_set_ne (by omega)]
theorem step_keeps {boxes : Int} {t : Tk} {bs : List Bx} (ht : vaT boxes t = true) (hb : vaBs bs = true) (hrd : rdT t bs.length = true) :
    vaT boxes (stepP t bs).1 = true ∧ vaBs (stepP t bs).2.1 = true ∧ (stepP t bs).2.1.length = bs.length ∧ (stepP t bs).2.1.map (·.room) = bs.map (·.room) ∧ (stepP t bs).2.2.1.all isW = true ∧ (stepP t bs).1.rest.list.length ≤ t.rest.list.length + 16 := by
  obtain ⟨h1, h2, h3⟩ := vaT_iff.1 ht
  cases hr : t.rest.list with
  | nil =>
    have e : stepP t bs = (t, bs, [], 4) := by unfold stepP; rw [hr]
    rw [e]; exact ⟨ht, hb, rfl, rfl, rfl, by simp [hr]⟩
  | cons s r =>
    rw [hr] at h3
    have hs := h3 s List.mem_cons_self
    have hrr : ∀ x ∈ r, vaW boxes x = true := fun x hx => h3 x (List.mem_cons_of_mem _ hx)
    obtain ⟨q1, q2, q3, q4, q5⟩ := okT_facts (vaW_iff.1 hs).1
    have hev : s.k ≠ 5 → s.k ≠ 6 → isW (evE t.vars s.e) = true := fun a b => evE_word h2 s.e.args (d := 5) (q2 a b)
    have tl : ∀ l : List Int, l.length = 4 → l.all isW = true → vaT boxes ⟨l, Sts.of r⟩ = true := fun l a b => vaT_iff.2 ⟨a, b, by rw [Sts.list_of]; exact hrr⟩
    have hcase : s.k = 1 ∨ s.k = 2 ∨ s.k = 3 ∨ s.k = 4 ∨ s.k = 5 ∨ s.k = 6 ∨ s.k = 7 := by omega
    by_cases k45 : s.k = 4 ∨ s.k = 5
    · have hlt : s.b < bs.length := by unfold rdT at hrd; rw [hr] at hrd; simp at hrd; omega
      have hsb := q4 k45
      obtain ⟨bx, hbx⟩ : ∃ x, bs[s.b.toNat]? = some x := ⟨_, List.getElem?_eq_getElem (by omega)⟩
      have hbv : vaB bx = true := by
        unfold vaBs at hb
        simp only [Bool.and_eq_true] at hb
        exact List.all_eq_true.1 hb.1 bx (List.mem_of_getElem? hbx)
      have e : stepP t bs = ((talkP t bs s r).1, (talkP t bs s r).2.1, [], (talkP t bs s r).2.2) := by unfold stepP; rw [hr]; simp [k45]
      rw [e]
      have same : talkP t bs s r = (t, bs, 3) → vaT boxes (talkP t bs s r).1 = true ∧ vaBs (talkP t bs s r).2.1 = true ∧ (talkP t bs s r).2.1.length = bs.length ∧ (talkP t bs s r).2.1.map (·.room) = bs.map (·.room) ∧ ([] : List Int).all isW = true ∧ (talkP t bs s r).1.rest.list.length ≤ (s :: r).length + 16 := by
        intro h; rw [h]; exact ⟨ht, hb, rfl, rfl, rfl, by simp [hr]⟩
      unfold vaB at hbv
      simp only [Bool.and_eq_true, decide_eq_true_eq] at hbv
      rcases k45 with k4 | k5
      · by_cases hroom : (bx.items.length : Int) < bx.room
        · have e2 : talkP t bs s r = (⟨t.vars, Sts.of r⟩, bs.set s.b.toNat ⟨bx.room, bx.items ++ [evE t.vars s.e]⟩, 1) := by unfold talkP; simp [k4, hbx, hroom]
          rw [e2]
          refine ⟨tl _ h1 h2, vaBs_set hb ?_, by simp, rooms_set hbx, rfl, by simp [Sts.list_of]; omega⟩
          unfold vaB
          simp only [Bool.and_eq_true, decide_eq_true_eq, List.length_append, List.length_singleton, List.all_append, List.all_cons, List.all_nil, Bool.and_true]
          exact ⟨by omega, hbv.2, hev (by omega) (by omega)⟩
        · exact same (by unfold talkP; simp [k4, hbx, hroom])
      · cases hi : bx.items with
        | nil => exact same (by unfold talkP; simp [k5, hbx, hi])
        | cons y q =>
          have e2 : talkP t bs s r = (⟨t.vars.set s.v.toNat y, Sts.of r⟩, bs.set s.b.toNat ⟨bx.room, q⟩, 1) := by unfold talkP; simp [k5, hbx, hi]
          rw [hi] at hbv
          simp only [List.all_cons, Bool.and_eq_true, List.length_cons] at hbv
          rw [e2]
          refine ⟨tl _ (by simpa using h1) (all_set h2 hbv.2.1), vaBs_set hb ?_, by simp, rooms_set hbx, rfl, by simp [Sts.list_of]; omega⟩
          unfold vaB
          simp only [Bool.and_eq_true, decide_eq_true_eq]
          exact ⟨by omega, hbv.2.2⟩
    · by_cases k23 : s.k = 2 ∨ s.k = 3
      · have e : stepP t bs = (⟨t.vars, blkR s r (evE t.vars s.e)⟩, bs, [], 1) := by unfold stepP; rw [hr]; simp [k45, k23]
        rw [e]
        obtain ⟨b1, b2⟩ := blkR_va (x := evE t.vars s.e) hs hrr
        exact ⟨vaT_iff.2 ⟨h1, h2, b1⟩, hb, rfl, rfl, rfl, by simp; omega⟩
      by_cases k1 : s.k = 1
      · have e : stepP t bs = (⟨t.vars.set s.v.toNat (evE t.vars s.e), Sts.of r⟩, bs, [], 1) := by unfold stepP; rw [hr]; simp [k1]
        rw [e]
        exact ⟨tl _ (by simpa using h1) (all_set h2 (hev (by omega) (by omega))), hb, rfl, rfl, rfl, by simp [Sts.list_of]; omega⟩
      by_cases k6 : s.k = 6
      · have e : stepP t bs = (⟨t.vars, Sts.of r⟩, bs, [], 2) := by unfold stepP; rw [hr]; simp [k6]
        rw [e]
        exact ⟨tl _ h1 h2, hb, rfl, rfl, rfl, by simp [Sts.list_of]; omega⟩
      · have k7 : s.k = 7 := by omega
        have e : stepP t bs = (⟨t.vars, Sts.of r⟩, bs, [evE t.vars s.e], 1) := by unfold stepP; rw [hr]; simp [k7]
        rw [e]
        exact ⟨tl _ h1 h2, hb, rfl, rfl, by simpa using hev (by omega) (by omega), by simp [Sts.list_of]; omega⟩
def prE : Option (Int × Int × Int) → List Int
  | some e => if e.1 = 3 then [e.2.2] else []
  | none => []
theorem step_prints {t : Tk} {bs : List Bx} (hk : ∀ s ∈ t.rest.list, 1 ≤ s.k ∧ s.k ≤ 7) : (stepP t bs).2.2.1 = prE (evS t bs) := by
  unfold stepP evS
  cases hr : t.rest.list with
  | nil => rfl
  | cons s r =>
    have h17 := hk s (by rw [hr]; exact List.mem_cons_self)
    have hcase : s.k = 1 ∨ s.k = 2 ∨ s.k = 3 ∨ s.k = 4 ∨ s.k = 5 ∨ s.k = 6 ∨ s.k = 7 := by omega
    rcases hcase with k1 | k2 | k3 | k4 | k5 | k6 | k7
    · simp [k1, prE]
    · simp [k2, prE]
    · simp [k3, prE]
    · simp [k4]
      cases bs[s.b.toNat]? with
      | none => rfl
      | some b => simp; split <;> rfl
    · simp [k5]
      cases bs[s.b.toNat]? with
      | none => rfl
      | some b => cases hb : b.items <;> simp [hb, prE]
    · simp [k6, prE]
    · simp [k7, prE]
end Go.Proofs.YtmecbehegmgbhaaGreat.AM
namespace Go.Proofs.YtmecbehegmgbhaaGreat.AM
set_option linter.unusedSimpArgs false
set_option linter.unusedVariables false
set_option maxRecDepth 100000
set_option maxHeartbeats 2000000
open Go
theorem cellsB_LF {base : Nat} {H : AH} : ∀ {l : List Bx} {r : List (AV × Nat)}, r.length = l.length → (∀ (i : Nat) (x : Bx) (p : AV × Nat), l[i]? = some x → r[i]? = some p → ISl base H p.1 x.items p.2) → LF 2 (BC (fun b => base ≤ b) H) l (cellsB l r)
  | [], [], _, _ => rfl
  | x :: l, p :: r, h, k => ⟨[.I x.room, p.1], cellsB l r, rfl, rfl, ⟨p.1, rfl, (k 0 x p rfl rfl).grs.iv⟩, cellsB_LF (by simpa using h) (fun i y q h1 h2 => k (i + 1) y q (by simpa using h1) (by simpa using h2))⟩
  | [], _ :: _, h, _ => by simp at h
  | _ :: _, [], h, _ => by simp at h
theorem RB.bv {base H v bs B rs} (h : RB base H v bs B rs) : BV (fun b => base ≤ b) H v bs := ⟨_, h.2.1.slc, cellsB_LF h.1 (fun i x p hx hp => (h.2.2.1 i x p hx hp).1)⟩
theorem ISl.up {base base' G v l I} (h : ISl base G v l I) (hb : base' ≤ base) : ISl base' G v l I := by
  obtain ⟨h1, h2 | ⟨h3, h4⟩⟩ := h
  · exact ⟨h1, .inl h2⟩
  · exact ⟨h1, .inr ⟨by omega, h4⟩⟩
theorem GrS.up {base base' G v n sz cs B} (h : GrS base G v n sz cs B) (hb : base' ≤ base) : GrS base' G v n sz cs B := by
  obtain ⟨h1, h0, h2 | ⟨h3, h4⟩⟩ := h
  · exact ⟨h1, h0, .inl h2⟩
  · exact ⟨h1, h0, .inr ⟨by omega, h4⟩⟩
theorem RB.up {base base' H v bs B rs} (h : RB base H v bs B rs) (hb : base' ≤ base) : RB base' H v bs B rs :=
  ⟨h.1, h.2.1.up hb, fun i x p hx hp => ⟨(h.2.2.1 i x p hx hp).1.up hb, (h.2.2.1 i x p hx hp).2⟩, h.2.2.2⟩
theorem RB.mem {base H v bs B rs} (h : RB base H v bs B rs) {b : Nat} (hb : b ∈ fpB B rs) : base ≤ b ∧ b < H.n := by
  rw [mem_fpB] at hb
  rcases hb with ⟨h1, rfl⟩ | ⟨p, hp, hb⟩
  · cases rs with
    | nil => exact absurd rfl h1
    | cons q rs =>
      cases bs with
      | nil => have := h.1; simp at this
      | cons x bs =>
        obtain ⟨_, _, _, _, e3, e4, _⟩ := h.at (i := 0) (x := x) rfl
        exact ⟨e3, e4⟩
  · obtain ⟨i, hi⟩ := List.getElem?_of_mem hp
    obtain ⟨y, hy⟩ : ∃ y, bs[i]? = some y := ⟨_, List.getElem?_eq_getElem (by rw [← h.1]; exact (List.getElem?_eq_some_iff.1 hi).1)⟩
    have := (h.2.2.1 i y p hy hi).1.mem hb
    omega
section
variable {ok : Nat → Prop} {H : AH} {K : AV → AH → Prop} {w : Fk K} {c : List AV} {t : Tk} {s : St1} {r : List St1} {bs : List Bx} {vb : AV}
end
end Go.Proofs.YtmecbehegmgbhaaGreat.AM
namespace Go.Proofs.YtmecbehegmgbhaaGreat.AM
set_option linter.unusedSimpArgs false
set_option linter.unusedVariables false
open Go
structure Wd where
  tasks : List Tk
  boxes : List Bx
  turn : Int
  idle : Int
  out : List Int
deriving DecidableEq, Inhabited
def TV (ok : Nat → Prop) (H : AH) (v : AV) (l : List Tk) : Prop := ∃ ca, SlC ok H v l.length 2 ca ∧ LF 2 (TC ok H) l ca
theorem TV.mono {ok ok' : Nat → Prop} {H H' v l} (h : TV ok H v l) (hn : H.n ≤ H'.n) (hk : ∀ b, ok b → b < H.n → H'.bk b = H.bk b) (ho : ∀ b, ok b → b < H.n → ok' b) : TV ok' H' v l := by
  obtain ⟨ca, h1, h2⟩ := h
  exact ⟨ca, h1.mono hn hk ho, h2.imp fun c a h => h.mono hn hk ho⟩
theorem TV.ext {ok H H' c t} (h : TV ok H c t) (k : Ext H H') : TV ok H' c t := h.mono k.1 (fun b _ hb => k.2 b hb) (fun _ h _ => h)
theorem TV.alen {ok H v l} (h : TV ok H v l) : alen v = some l.length := h.choose_spec.1.alen
theorem TV.flat {ok H v l} (h : TV ok H v l) : v.flat = true := h.choose_spec.1.flat
theorem TV.big {ok H v l} (h : TV ok H v l) : l.length ≤ 8589934592 := h.choose_spec.1.1
theorem TV.at {ok H v l} (h : TV ok H v l) {i : Nat} {x : Tk} (hi : l[i]? = some x) : ∃ b o cap vv vr, v = .sl b o l.length cap ∧ ok b ∧ b < H.n ∧ H.loadN b (o + i * 2) 2 = some [vv, vr] ∧ IV ok H vv x.vars ∧ SV ok H vr x.rest := by
  obtain ⟨ca, h1, h2⟩ := h
  have hl := (List.getElem?_eq_some_iff.1 hi).1
  obtain ⟨b, o, cap, e, ob, hb, hs⟩ := h1.at hl
  obtain ⟨c, hc, vv, vr, rfl, i1, i2⟩ := h2.get hi
  exact ⟨b, o, cap, vv, vr, e, ob, hb, by rw [hs _ _ (by omega)]; exact hc, i1, i2⟩
def WC (ok : Nat → Prop) (H : AH) (c : List AV) (w : Wd) : Prop := ∃ vt vb vo, c = [vt, vb, .I w.turn, .I w.idle, vo] ∧ TV ok H vt w.tasks ∧ BV ok H vb w.boxes ∧ IV ok H vo w.out
theorem WC.mono {ok ok' : Nat → Prop} {H H' c t} (h : WC ok H c t) (hn : H.n ≤ H'.n) (hk : ∀ b, ok b → b < H.n → H'.bk b = H.bk b) (ho : ∀ b, ok b → b < H.n → ok' b) : WC ok' H' c t := by
  obtain ⟨vt, vb, vo, e, h1, h2, h3⟩ := h
  exact ⟨vt, vb, vo, e, h1.mono hn hk ho, h2.mono hn hk ho, h3.mono hn hk ho⟩
theorem WC.ext {ok H H' c t} (h : WC ok H c t) (k : Ext H H') : WC ok H' c t := h.mono k.1 (fun b _ hb => k.2 b hb) (fun _ h _ => h)
def vaWd (w : Wd) : Bool := decide (1 ≤ w.tasks.length ∧ w.tasks.length ≤ 3 ∧ 0 ≤ w.turn ∧ w.turn < w.tasks.length ∧ 0 ≤ w.idle ∧ w.idle ≤ w.tasks.length) && w.out.all isW && vaBs w.boxes && w.tasks.all (vaT w.boxes.length)
theorem vaWd_iff {w : Wd} : vaWd w = true ↔ (1 ≤ w.tasks.length ∧ w.tasks.length ≤ 3 ∧ 0 ≤ w.turn ∧ w.turn < w.tasks.length ∧ 0 ≤ w.idle ∧ w.idle ≤ w.tasks.length) ∧ w.out.all isW = true ∧ vaBs w.boxes = true ∧ ∀ t ∈ w.tasks, vaT w.boxes.length t = true := by
  unfold vaWd
  simp only [Bool.and_eq_true, decide_eq_true_eq, List.all_eq_true, and_assoc]
def nextT (many turn idle code : Int) : Int × Int :=
  if code = 1 then (turn, 0) else if code = 2 then ((turn + 1) % many, 0) else ((turn + 1) % many, idle + 1)
def stepW (w : Wd) : Wd :=
  match w.tasks[w.turn.toNat]? with
  | none => w
  | some t =>
    let r := stepP t w.boxes
    let n := nextT w.tasks.length w.turn w.idle r.2.2.2
    ⟨w.tasks.set w.turn.toNat r.1, r.2.1, n.1, n.2, w.out ++ r.2.2.1⟩
def runW : Nat → Wd → Wd
  | 0, w => w
  | n + 1, w => if w.idle < w.tasks.length then runW n (stepW w) else w
theorem rd_of_va {t : Tk} {many : Nat} (h : vaT many t = true) : rdT t many = true := by
  unfold rdT
  cases hr : t.rest.list with
  | nil => rfl
  | cons s r =>
    obtain ⟨_, _, h3⟩ := vaT_iff.1 h
    have := okT_facts (vaW_iff.1 (h3 s (by rw [hr]; exact List.mem_cons_self))).1
    simp only [Bool.or_eq_true, decide_eq_true_eq]
    by_cases hk : s.k = 4 ∨ s.k = 5
    · exact .inr (this.2.2.2.1 hk).2
    · exact .inl (by omega)
theorem okS_boxes {a b : Int} (hab : a ≤ b) : ∀ {f : Sts} {n : Int}, okS a n f = true → okS b n f = true
  | .nil, _, _ => rfl
  | .cons k v bx e y z r, n, h => by
    simp only [okS, Bool.and_eq_true] at h ⊢
    refine ⟨?_, okS_boxes hab h.2⟩
    have h1 := h.1
    unfold okS1 at h1 ⊢
    simp only [Bool.and_eq_true, Bool.or_eq_true, decide_eq_true_eq] at h1 ⊢
    refine ⟨?_, ?_⟩
    · have h2 := h1.1
      unfold stV at h2 ⊢
      split
      · rename_i q; rw [if_pos q] at h2; exact h2
      rename_i q; rw [if_neg q] at h2
      split
      · rename_i q; rw [if_pos q] at h2; exact h2
      rename_i q; rw [if_neg q] at h2
      split
      · rename_i q; rw [if_pos q] at h2; exact h2
      rename_i q; rw [if_neg q] at h2
      split
      · rename_i q; rw [if_pos q] at h2
        simp only [Bool.and_eq_true, decide_eq_true_eq] at h2 ⊢
        exact ⟨by omega, h2.2⟩
      rename_i q; rw [if_neg q] at h2
      split
      · rename_i q; rw [if_pos q] at h2
        simp only [Bool.and_eq_true, decide_eq_true_eq] at h2 ⊢
        exact ⟨by omega, h2.2⟩
      rename_i q; rw [if_neg q] at h2
      exact h2
    · rcases h1.2 with q | q
      · exact .inl q
      · exact .inr ⟨⟨q.1.1, okS_boxes hab q.1.2⟩, okS_boxes hab q.2⟩
theorem vaT_boxes {a b : Int} (hab : a ≤ b) {t : Tk} (h : vaT a t = true) : vaT b t = true := by
  obtain ⟨h1, h2, h3⟩ := vaT_iff.1 h
  refine vaT_iff.2 ⟨h1, h2, fun s hs => ?_⟩
  have := h3 s hs
  unfold vaW vaS at this ⊢
  simp only [Bool.and_eq_true] at this ⊢
  exact ⟨okS_boxes hab this.1, this.2⟩
theorem ctS_sum_le2 {boxes : Int} {t : Tk} (h : vaT boxes t = true) : ctS t.rest ≤ 16 * t.rest.list.length := by
  rw [ctS_sum]
  obtain ⟨_, _, h3⟩ := vaT_iff.1 h
  have : ∀ l : List St1, (∀ s ∈ l, vaW boxes s = true) → (l.map ctT).sum ≤ 16 * l.length := by
    intro l
    induction l with
    | nil => simp
    | cons s l ih =>
      intro hl
      have h1 := (vaW_iff.1 (hl s List.mem_cons_self)).2
      have h2 := ih (fun x hx => hl x (List.mem_cons_of_mem _ hx))
      simp only [List.map_cons, List.sum_cons, List.length_cons]
      omega
  exact this _ h3
theorem step_code' {boxes : Int} {t : Tk} {bs : List Bx} (ht : vaT boxes t = true) : 1 ≤ (stepP t bs).2.2.2 ∧ (stepP t bs).2.2.2 ≤ 4 := by
  unfold stepP
  cases hr : t.rest.list with
  | nil => simp
  | cons s r =>
    simp only
    split
    · unfold talkP
      split
      · simp
      · split
        · split <;> simp
        · split <;> simp
    split
    · simp
    split
    · simp
    split <;> simp
def uL : List St1 → Nat
  | [] => 0
  | s :: r => max (ctT s + r.length) (uL r)
theorem len_uL : ∀ l : List St1, l.length ≤ uL l
  | [] => by simp
  | s :: r => by
    have h1 : 1 ≤ ctT s := by
      unfold ctT; omega
    simp only [uL, List.length_cons]
    omega
theorem uL_app : ∀ (a b : List St1), uL (a ++ b) ≤ max ((a.map ctT).sum + b.length) (uL b)
  | [], b => by simp; omega
  | s :: a, b => by
    have := uL_app a b
    have h2 : a.length ≤ (a.map ctT).sum := by
      have := @len_ctS (Sts.of a)
      rw [Sts.list_of, ctS_of] at this; exact this
    simp only [List.cons_append, uL, List.map_cons, List.sum_cons, List.length_append]
    omega
theorem uL_le {l : List St1} {m : Nat} (h : ∀ s ∈ l, ctT s ≤ m) : uL l ≤ m + l.length := by
  induction l with
  | nil => simp [uL]
  | cons s r ih =>
    have := ih (fun x hx => h x (List.mem_cons_of_mem _ hx))
    have h1 := h s List.mem_cons_self
    simp only [uL, List.length_cons]; omega
theorem uL_tail {s : St1} {r : List St1} : uL r ≤ uL (s :: r) := by simp only [uL]; omega
theorem uL_blk {s : St1} {r : List St1} {x : Int} : uL (blkR s r x).list ≤ uL (s :: r) := by
  have hy : (s.body.list.map ctT).sum = ctS s.body := (ctS_sum ..).symm
  have hz : (s.els.list.map ctT).sum = ctS s.els := (ctS_sum ..).symm
  have a1 := uL_app s.body.list r
  have a2 := uL_app s.els.list r
  have a3 := uL_app s.body.list (s :: r)
  have e : ctT s = 1 + ctS s.body + ctS s.els := rfl
  unfold blkR
  split
  · rw [Sts.list_of]
    split
    · simp only [uL] at *; omega
    · simp only [uL] at *; omega
  · split
    · rw [Sts.list_of]
      simp only [uL, List.length_cons] at *; omega
    · rw [Sts.list_of]; exact uL_tail
theorem step_uL {t : Tk} {bs : List Bx} : uL (stepP t bs).1.rest.list ≤ uL t.rest.list := by
  unfold stepP
  cases hr : t.rest.list with
  | nil => simp [hr]
  | cons s r =>
    have tl := @uL_tail s r
    simp only
    split
    · unfold talkP
      split
      · rw [hr]; exact Nat.le_refl _
      · split
        · split
          · simpa [Sts.list_of] using tl
          · rw [hr]; exact Nat.le_refl _
        · split
          · rw [hr]; exact Nat.le_refl _
          · simpa [Sts.list_of] using tl
    split
    · exact uL_blk
    split
    · simpa [Sts.list_of] using tl
    split <;> simpa [Sts.list_of] using tl
theorem ctS_uL {boxes : Int} {t : Tk} (h : vaT boxes t = true) : ctS t.rest ≤ 16 * uL t.rest.list := by
  have := ctS_sum_le2 h
  have := len_uL t.rest.list
  omega
theorem stepW_keeps {w : Wd} (h : vaWd w = true) (hi : w.idle < w.tasks.length) : vaWd (stepW w) = true ∧ (stepW w).tasks.length = w.tasks.length ∧ (stepW w).boxes.length = w.boxes.length ∧ (stepW w).boxes.map (·.room) = w.boxes.map (·.room) ∧
    (∃ p, (stepW w).out = w.out ++ p ∧ p.length ≤ 1) ∧ (∀ m, (∀ t ∈ w.tasks, uL t.rest.list ≤ m) → ∀ t ∈ (stepW w).tasks, uL t.rest.list ≤ m) := by
  obtain ⟨h1, h2, h3, h4⟩ := vaWd_iff.1 h
  obtain ⟨t, ht⟩ : ∃ t, w.tasks[w.turn.toNat]? = some t := ⟨_, List.getElem?_eq_getElem (by omega)⟩
  have hm := List.mem_of_getElem? ht
  have hva := h4 t hm
  obtain ⟨u1, u2, u3, u4, u5, u6⟩ := step_keeps hva h3 (rd_of_va hva)
  have hc := step_code' (bs := w.boxes) hva
  have e : stepW w = ⟨w.tasks.set w.turn.toNat (stepP t w.boxes).1, (stepP t w.boxes).2.1, (nextT w.tasks.length w.turn w.idle (stepP t w.boxes).2.2.2).1, (nextT w.tasks.length w.turn w.idle (stepP t w.boxes).2.2.2).2, w.out ++ (stepP t w.boxes).2.2.1⟩ := by
    unfold stepW; rw [ht]
  have hn : 0 ≤ (nextT w.tasks.length w.turn w.idle (stepP t w.boxes).2.2.2).1 ∧ (nextT w.tasks.length w.turn w.idle (stepP t w.boxes).2.2.2).1 < w.tasks.length ∧ 0 ≤ (nextT w.tasks.length w.turn w.idle (stepP t w.boxes).2.2.2).2 ∧ (nextT w.tasks.length w.turn w.idle (stepP t w.boxes).2.2.2).2 ≤ w.tasks.length := by
    have m1 := Int.emod_nonneg (w.turn + 1) (show (w.tasks.length : Int) ≠ 0 by omega)
    have m2 := Int.emod_lt_of_pos (w.turn + 1) (show 0 < (w.tasks.length : Int) by omega)
    unfold nextT
    split
    · omega
    split <;> omega
  rw [e]
  refine ⟨vaWd_iff.2 ⟨by simp only [List.length_set]; omega, ?_, u2, fun x hx => ?_⟩, by simp, u3, u4, ⟨_, rfl, ?_⟩, fun m hm' x hx => ?_⟩
  · simp only [List.all_append, Bool.and_eq_true]; exact ⟨h2, u5⟩
  · rw [u3]
    rcases List.mem_or_eq_of_mem_set hx with q | q
    · exact h4 x q
    · subst q; exact u1
  · unfold stepP
    cases t.rest.list with
    | nil => simp
    | cons s r =>
      simp only
      split
      · simp
      split
      · simp
      split
      · simp
      split <;> simp
  · rcases List.mem_or_eq_of_mem_set hx with q | q
    · exact hm' x q
    · subst q; exact Nat.le_trans step_uL (hm' t hm)
theorem runW_keeps (n : Nat) : ∀ {w : Wd}, vaWd w = true → vaWd (runW n w) = true ∧ (runW n w).tasks.length = w.tasks.length ∧ (runW n w).boxes.length = w.boxes.length ∧ (runW n w).boxes.map (·.room) = w.boxes.map (·.room) ∧
    (∃ p, (runW n w).out = w.out ++ p ∧ p.length ≤ n) ∧ (∀ m, (∀ t ∈ w.tasks, uL t.rest.list ≤ m) → ∀ t ∈ (runW n w).tasks, uL t.rest.list ≤ m) := by
  induction n with
  | zero => intro w h; exact ⟨h, rfl, rfl, rfl, ⟨[], by simp [runW], by simp⟩, fun m hm => hm⟩
  | succ n ih =>
    intro w h
    unfold runW
    split
    · rename_i hi
      obtain ⟨a1, a2, a3, a4, ⟨p, a5, a6⟩, a7⟩ := stepW_keeps h hi
      obtain ⟨b1, b2, b3, b4, ⟨q, b5, b6⟩, b7⟩ := ih a1
      exact ⟨b1, b2.trans a2, b3.trans a3, b4.trans a4, ⟨p ++ q, by rw [b5, a5, List.append_assoc], by simp; omega⟩, fun m hm => b7 m (a7 m hm)⟩
    · exact ⟨h, rfl, rfl, rfl, ⟨[], by simp, by simp⟩, fun m hm => hm⟩
end Go.Proofs.YtmecbehegmgbhaaGreat.AM
namespace Go.Proofs.YtmecbehegmgbhaaGreat.AM
set_option linter.unusedSimpArgs false
set_option linter.unusedVariables false
set_option maxRecDepth 100000
set_option maxHeartbeats 2000000
open Go
section
variable {H : AH} {K : AV → AH → Prop} {w : Fk K} {many turn idle code : Int}
theorem rem_turn (h : 1 ≤ many ∧ many ≤ 3) (ht : 0 ≤ turn ∧ turn < many) : (turn + 1).tmod many = (turn + 1) % many := Int.tmod_eq_emod_of_nonneg (by omega)
theorem K_iNextTurn (hm : 1 ≤ many ∧ many ≤ 3) (ht : 0 ≤ turn ∧ turn < many) (hi : 0 ≤ idle ∧ idle < many) (hc : 1 ≤ code ∧ code ≤ 4) (k : K (.tup [.I (nextT many turn idle code).1, .I (nextT many turn idle code).2, .b true]) H) : CallF Cd f_iNextTurn [.I many, .I turn, .I idle, .I code] H K w := by
  rw [CallF_eq e_iNextTurn rfl]
  have e := rem_turn hm ht
  have hc4 : code = 1 ∨ code = 2 ∨ code = 3 ∨ code = 4 := by omega
  have n1 : ¬ many < 1 := by omega
  have n2 : ¬ 3 < many := by omega
  have n3 : ¬ turn < 0 := by omega
  have n4 : ¬ many ≤ turn := by omega
  have n5 : ¬ idle < 0 := by omega
  have n6 : ¬ many ≤ idle := by omega
  have n7 : ¬ many = 0 := by omega
  rcases hc4 with rfl | rfl | rfl | rfl
  all_goals
    simp (disch := omega) [n1, n2, n3, n4, n5, n6, n7, e]
    simpa [nextT] using k
theorem K_iturnsValid {vo : AV} {out : List Int} (h : SeesZ H vo out) (k : K (.b (decide (1 ≤ many ∧ many ≤ 3 ∧ 0 ≤ turn ∧ turn < many ∧ 0 ≤ idle ∧ idle ≤ many) && out.all isW)) H) : CallF Cd f_iturnsValid [.I many, .I turn, .I idle, vo] H K w := by
  rw [CallF_eq e_iturnsValid rfl]
  by_cases h1 : 1 ≤ many
  case neg =>
    have e : decide (1 ≤ many ∧ many ≤ 3 ∧ 0 ≤ turn ∧ turn < many ∧ 0 ≤ idle ∧ idle ≤ many) = false := by simp; omega
    rw [e] at k
    simp [h1]; simpa using k
  by_cases h2 : many ≤ 3
  case neg =>
    have e : decide (1 ≤ many ∧ many ≤ 3 ∧ 0 ≤ turn ∧ turn < many ∧ 0 ≤ idle ∧ idle ≤ many) = false := by simp; omega
    rw [e] at k
    simp [h1, h2]; simpa using k
  by_cases h3 : 0 ≤ turn
  case neg =>
    have e : decide (1 ≤ many ∧ many ≤ 3 ∧ 0 ≤ turn ∧ turn < many ∧ 0 ≤ idle ∧ idle ≤ many) = false := by simp; omega
    rw [e] at k
    simp [h1, h2, h3]; simpa using k
  by_cases h4 : turn < many
  case neg =>
    have e : decide (1 ≤ many ∧ many ≤ 3 ∧ 0 ≤ turn ∧ turn < many ∧ 0 ≤ idle ∧ idle ≤ many) = false := by simp; omega
    rw [e] at k
    simp [h1, h2, h3, h4]; simpa using k
  by_cases h5 : 0 ≤ idle
  case neg =>
    have e : decide (1 ≤ many ∧ many ≤ 3 ∧ 0 ≤ turn ∧ turn < many ∧ 0 ≤ idle ∧ idle ≤ many) = false := by simp; omega
    rw [e] at k
    simp [h1, h2, h3, h4, h5]; simpa using k
  by_cases h6 : idle ≤ many
  case neg =>
    have e : decide (1 ≤ many ∧ many ≤ 3 ∧ 0 ≤ turn ∧ turn < many ∧ 0 ≤ idle ∧ idle ≤ many) = false := by simp; omega
    rw [e] at k
    simp [h1, h2, h3, h4, h5, h6]; simpa using k
  have e : decide (1 ≤ many ∧ many ≤ 3 ∧ 0 ≤ turn ∧ turn < many ∧ 0 ≤ idle ∧ idle ≤ many) = true := by simp; omega
  rw [e] at k
  simp [h1, h2, h3, h4, h5, h6, K_iareWords h]; simpa using k
end
theorem K_iWorldValid_l {w : Wd} {ok : Nat → Prop} {K : AV → AH → Prop} {vt vb : AV} {P : Nat} {x2 x3 x4 : AV} (hct : ∀ t ∈ w.tasks, ctS t.rest ≤ 100000) {Q : Out → Env → AH → Prop} (h1 : ∀ e G, Q (.brk 0) e G = K (.b true) G) (h2 : ∀ e H, Q .ret e H = bindO (get e 2) fun v => K v H)
    (m i : Nat) (hm : i + m = w.tasks.length) {H : AH} (hP : P < H.n) (gP : H.bk P = some ⟨[vt, vb, x2, x3, x4], true⟩) (h : TV ok H vt w.tasks) (hb : alen vb = some w.boxes.length) (hbl : w.boxes.length ≤ 100)
    (k : ∀ H', Ext H H' → K (.b ((w.tasks.drop i).all (vaT w.boxes.length))) H') :
    W Cd (.loop c_iWorldValid_l0) [(1, .ptr P 0), (23, vt), (24, .I w.tasks.length), (25, .I i)] H Q := by
  have hbig := h.big
  induction m generalizing i H with
  | zero =>
    rw [W_loop_as c_iWorldValid_l0.eq_1]
    have : i = w.tasks.length := by omega
    subst this
    simp [h1]
    have := k H (Ext.refl _)
    rwa [List.drop_eq_nil_of_le (Nat.le_refl _)] at this
  | succ m ih =>
    rw [W_loop_as c_iWorldValid_l0.eq_1]
    have hlt : i < w.tasks.length := by omega
    have hlt' : (i : Int) < w.tasks.length := by omega
    obtain ⟨t, ht⟩ : ∃ t, w.tasks[i]? = some t := ⟨_, List.getElem?_eq_getElem hlt⟩
    obtain ⟨b, o, cap, vv, vr, e1, ob, hbn, l1, i1, s1⟩ := h.at ht
    have e1' := e1
    subst e1
    have q0 : (H.push [vv, vr]).bk P = some ⟨[.sl b o w.tasks.length cap, vb, x2, x3, x4], true⟩ := push_old hP gP
    have st : (H.push [.nils, .nils]).store H.n 0 [vv, vr] = some (H.push [vv, vr]) := by rw [store_bk push_new (by simp), push_put]; rfl
    simp (disch := omega) [hlt', l1, st, loadN_push, load_bk q0, hb]
    refine K_itaskValid ⟨vv, vr, rfl, i1.ext (Ext.push _ _), s1.ext (Ext.push _ _)⟩ (hct t (List.mem_of_getElem? ht)) fun H2 x2' => ?_
    have y2 := (Ext.push H [vv, vr]).trans x2'
    rw [all_dropB ht] at k
    cases hv : vaT w.boxes.length t with
    | false =>
      simp [h2]
      have := k H2 y2
      rw [hv] at this
      exact this
    | true =>
      simp (disch := omega)
      have := ih (i + 1) (by omega) (H := H2) (by have := y2.1; omega) ((y2.2 _ hP).trans gP) (h.ext y2) (fun H' x' => by have := k H' (y2.trans x'); rw [hv] at this; simpa using this)
      simpa using this
theorem K_iWorldValid {ok : Nat → Prop} {H : AH} {K : AV → AH → Prop} {wf : Fk K} {c : List AV} {w : Wd} (h : WC ok H c w) (hct : ∀ t ∈ w.tasks, ctS t.rest ≤ 100000) (hbl : w.boxes.length ≤ 100) (k : ∀ H', Ext H H' → K (.b (vaWd w)) H') : CallF Cd f_iWorldValid [.agg c] H K wf := by
  obtain ⟨vt, vb, vo, rfl, h1, h2, h3⟩ := h
  rw [CallF_eq e_iWorldValid rfl]
  have x0 := Ext.push H [vt, vb, .I w.turn, .I w.idle, vo]
  have q0 : (H.push [vt, vb, .I w.turn, .I w.idle, vo]).bk H.n = some ⟨[vt, vb, .I w.turn, .I w.idle, vo], true⟩ := push_new
  have hbig := h1.big
  simp [load_bk q0, h1.alen]
  refine K_iturnsValid (h3.ext x0).sees ?_
  have hi : ∀ a b : Int, 1 ≤ a ∧ a ≤ 3 ∧ 0 ≤ b ∧ b < a → True := fun _ _ _ => trivial
  cases hv : (decide (1 ≤ (w.tasks.length : Int) ∧ (w.tasks.length : Int) ≤ 3 ∧ 0 ≤ w.turn ∧ w.turn < w.tasks.length ∧ 0 ≤ w.idle ∧ w.idle ≤ w.tasks.length) && w.out.all isW) with
  | false =>
    have e : vaWd w = false := by
      unfold vaWd
      have e2 : decide (1 ≤ w.tasks.length ∧ w.tasks.length ≤ 3 ∧ 0 ≤ w.turn ∧ w.turn < w.tasks.length ∧ 0 ≤ w.idle ∧ w.idle ≤ w.tasks.length) = decide (1 ≤ (w.tasks.length : Int) ∧ (w.tasks.length : Int) ≤ 3 ∧ 0 ≤ w.turn ∧ w.turn < w.tasks.length ∧ 0 ≤ w.idle ∧ w.idle ≤ w.tasks.length) := by
        apply decide_eq_decide.2; omega
      rw [e2, hv]; rfl
    rw [e] at k
    simp
    exact k _ x0
  | true =>
    simp [load_bk q0]
    refine K_iboxesValid (h2.ext x0) fun H1 x1 => ?_
    have y1 := x0.trans x1
    have q1 := (x1.2 H.n (by simp)).trans q0
    have e : vaWd w = (vaBs w.boxes && w.tasks.all (vaT w.boxes.length)) := by
      unfold vaWd
      have e2 : decide (1 ≤ w.tasks.length ∧ w.tasks.length ≤ 3 ∧ 0 ≤ w.turn ∧ w.turn < w.tasks.length ∧ 0 ≤ w.idle ∧ w.idle ≤ w.tasks.length) = decide (1 ≤ (w.tasks.length : Int) ∧ (w.tasks.length : Int) ≤ 3 ∧ 0 ≤ w.turn ∧ w.turn < w.tasks.length ∧ 0 ≤ w.idle ∧ w.idle ≤ w.tasks.length) := by
        apply decide_eq_decide.2; omega
      rw [e2, hv]; rfl
    rw [e] at k
    cases hvb : vaBs w.boxes with
    | false =>
      rw [hvb] at k
      simp
      exact k _ y1
    | true =>
      rw [hvb] at k
      simp [load_bk q1, h1.alen]
      have := K_iWorldValid_l (w := w) (K := K) (Q := ?_) (x2 := .I w.turn) (x3 := .I w.idle) (x4 := vo) hct ?_ ?_ w.tasks.length 0 (by omega) (P := H.n) (H := H1) (by have := x1.1; simp at this; omega) q1 (h1.ext y1) h2.alen hbl (fun H' x' => by simpa using k H' (y1.trans x'))
      · simpa using this
      · intros; simp
      · intros; simp
end Go.Proofs.YtmecbehegmgbhaaGreat.AM
namespace Go.Proofs.YtmecbehegmgbhaaGreat.AM
set_option linter.unusedSimpArgs false
set_option linter.unusedVariables false
set_option maxRecDepth 100000
set_option maxHeartbeats 2000000
open Go
def bxS (many : Int) : Sts → Bool
  | .nil => true
  | .cons k v b e y z r => (decide (¬ ((k = 4 ∨ k = 5) ∧ many ≤ b)) && (bxS many y && bxS many z)) && bxS many r
def bxT (many : Int) (s : St1) : Bool := decide (¬ ((s.k = 4 ∨ s.k = 5) ∧ many ≤ s.b)) && (bxS many s.body && bxS many s.els)
theorem bxS_mem {many : Int} : ∀ {f : Sts}, bxS many f = f.list.all (bxT many)
  | .nil => rfl
  | .cons k v b e y z r => by simp only [bxS, Sts.list, List.all_cons, bxS_mem (f := r)]; rfl
theorem ok_bx {many : Int} (hm : many ≤ 3) : ∀ {f : Sts} {n : Int}, okS 3 n f = true → (okS many n f = true ↔ bxS many f = true)
  | .nil, _, _ => by simp [okS, bxS]
  | .cons k v b e y z r, n, h => by
    simp only [okS, bxS, Bool.and_eq_true] at h ⊢
    have hr := ok_bx hm (f := r) h.2
    have h1 := h.1
    rw [hr]
    refine and_congr_left fun _ => ?_
    unfold okS1 at h1 ⊢
    simp only [Bool.and_eq_true, Bool.or_eq_true, decide_eq_true_eq] at h1 ⊢
    have hst : stV many k v b (okE 5 e) (plE e) y.list.length z.list.length = true ↔ ¬ ((k = 4 ∨ k = 5) ∧ many ≤ b) := by
      have h2 := h1.1
      by_cases k4 : k = 4
      · have e : ∀ m : Int, stV m k v b (okE 5 e) (plE e) y.list.length z.list.length = (decide (v = 0 ∧ 0 ≤ b ∧ b < m ∧ y.list.length = 0 ∧ z.list.length = 0) && okE 5 e) := fun m => by unfold stV; simp [k4]
        rw [e] at h2 ⊢
        simp only [Bool.and_eq_true, decide_eq_true_eq] at h2 ⊢
        exact ⟨fun h h' => by have := h.1; have := h'.2; omega, fun h => ⟨by have := h2.1; have : b < many := Int.not_le.1 (fun q => h ⟨.inl k4, q⟩); omega, h2.2⟩⟩
      by_cases k5 : k = 5
      · have e : ∀ m : Int, stV m k v b (okE 5 e) (plE e) y.list.length z.list.length = (decide (0 ≤ v ∧ v < 4 ∧ 0 ≤ b ∧ b < m ∧ y.list.length = 0 ∧ z.list.length = 0) && plE e) := fun m => by unfold stV; simp [k5]
        rw [e] at h2 ⊢
        simp only [Bool.and_eq_true, decide_eq_true_eq] at h2 ⊢
        exact ⟨fun h h' => by have := h.1; have := h'.2; omega, fun h => ⟨by have := h2.1; have : b < many := Int.not_le.1 (fun q => h ⟨.inr k5, q⟩); omega, h2.2⟩⟩
      · have e : stV many k v b (okE 5 e) (plE e) y.list.length z.list.length = stV 3 k v b (okE 5 e) (plE e) y.list.length z.list.length := by unfold stV; simp only [k4, k5, if_false]
        rw [e]
        exact ⟨fun _ h => by omega, fun _ => h2⟩
    rw [hst]
    refine and_congr_right fun _ => ?_
    rcases h1.2 with q | q
    · obtain ⟨e1, e2⟩ := stV_leaf h1.1 q.1 q.2
      have e1 : y = .nil := by rw [← Sts.of_list y, List.eq_nil_of_length_eq_zero e1]; rfl
      have e2 : z = .nil := by rw [← Sts.of_list z, List.eq_nil_of_length_eq_zero e2]; rfl
      subst e1 e2
      simp [bxS, q]
    · have hy := ok_bx hm (f := y) q.1.2
      have hz := ok_bx hm (f := z) q.2
      rw [← hy, ← hz]
      constructor
      · rintro (p | p)
        · obtain ⟨e1, e2⟩ := stV_leaf h1.1 p.1 p.2
          have e1 : y = .nil := by rw [← Sts.of_list y, List.eq_nil_of_length_eq_zero e1]; rfl
          have e2 : z = .nil := by rw [← Sts.of_list z, List.eq_nil_of_length_eq_zero e2]; rfl
          subst e1 e2
          simp [okS]
        · exact ⟨p.1.2, p.2⟩
      · intro p
        exact .inr ⟨⟨q.1.1, p.1⟩, p.2⟩
theorem store_push8' {H : AH} {l : List AV} (hl : l.length = 8) : (H.push [.I 0, .I 0, .I 0, .I 0, .I 0, .nils, .nils, .nils]).store H.n 0 l = some (H.push l) := by
  rw [store_bk push_new (by simp; omega), push_put]
  congr 2; unfold splice; simp; omega
def BxC (f : Sts) : Prop := ∀ {many : Nat} {ok : Nat → Prop} {H : AH} {K : AV → AH → Prop} {w : Fk K} {v : AV}, SV ok H v f → (∀ H', Ext H H' → K (.b (bxS many f)) H') → CallF Cd f_sl12Boxes [v, .I many] H K w
theorem K_sl12Boxes_l {f : Sts} (ih : ∀ s ∈ f.list, BxC s.body ∧ BxC s.els) {many : Nat} {ok : Nat → Prop} {K : AV → AH → Prop} {v : AV} {Q : Out → Env → AH → Prop} (h1 : ∀ e H, Q (.brk 0) e H = K (.b true) H) (h2 : ∀ e H, Q .ret e H = bindO (get e 4) fun v => K v H)
    (m i : Nat) (hm : i + m = f.list.length) {H : AH} (h : SV ok H v f) (k : ∀ H', Ext H H' → K (.b ((f.list.drop i).all (bxT many))) H') :
    W Cd (.loop c_sl12Boxes_l0) [(0, v), (1, .I many), (5, .I i)] H Q := by
  have hbig := h.big
  induction m generalizing i H with
  | zero =>
    rw [W_loop_as c_sl12Boxes_l0.eq_1]
    have : i = f.list.length := by omega
    subst this
    simp [h.alen, h1]
    have := k H (Ext.refl _)
    rwa [List.drop_eq_nil_of_le (Nat.le_refl _)] at this
  | succ m ihm =>
    rw [W_loop_as c_sl12Boxes_l0.eq_1]
    have hlt : i < f.list.length := by omega
    have hlt' : (i : Int) < f.list.length := by omega
    obtain ⟨s, hs⟩ : ∃ s, f.list[i]? = some s := ⟨_, List.getElem?_eq_getElem hlt⟩
    obtain ⟨b, o, cap, c, e1, ob, hbn, l1, s1⟩ := h.at hs
    have hv := h
    subst e1
    have s1' := s1
    obtain ⟨va, vy, vz, rfl, ea, ey, ez⟩ := s1
    obtain ⟨iy, iz⟩ := ih s (List.mem_of_getElem? hs)
    rw [all_dropB hs] at k
    have st : (H.push [.I 0, .I 0, .I 0, .I 0, .I 0, .nils, .nils, .nils]).store H.n 0 [.I s.k, .I s.v, .I s.b, .I s.e.op, .I s.e.n, va, vy, vz] = some (H.push [.I s.k, .I s.v, .I s.b, .I s.e.op, .I s.e.n, va, vy, vz]) := store_push8' rfl
    have x0 := Ext.push H [.I s.k, .I s.v, .I s.b, .I s.e.op, .I s.e.n, va, vy, vz]
    have q0 : (H.push [.I s.k, .I s.v, .I s.b, .I s.e.op, .I s.e.n, va, vy, vz]).bk H.n = some ⟨[.I s.k, .I s.v, .I s.b, .I s.e.op, .I s.e.n, va, vy, vz], true⟩ := push_new
    by_cases hk : (s.k = 4 ∨ s.k = 5) ∧ (many : Int) ≤ s.b
    · have hb : bxT many s = false := by unfold bxT; simp [hk]
      have k' := k _ x0
      rw [hb] at k'
      obtain ⟨h45, hle⟩ := hk
      rcases h45 with h4 | h5
      · rw [h4] at st q0 k'
        simp (disch := omega) [hlt', l1, st, load_bk q0, h4, hle, h2]
        simpa using k'
      · rw [h5] at st q0 k'
        simp (disch := omega) [hlt', l1, st, load_bk q0, h5, hle, h2]
        simpa using k'
    · have hd : decide (¬ ((s.k = 4 ∨ s.k = 5) ∧ (many : Int) ≤ s.b)) = true := decide_eq_true hk
      by_cases h4 : s.k = 4
      · have hle : ¬ (many : Int) ≤ s.b := fun z => hk ⟨.inl h4, z⟩
        rw [h4] at st q0 x0
        simp (disch := omega) [hlt', l1, st, load_bk q0, h4, hle]
        refine iy (ey.ext x0) fun H2 x2 => ?_
        have y2 := x0.trans x2
        have q2 := (x2.2 H.n (by simp)).trans q0
        cases hy : bxS many s.body with
        | false =>
          have hb : bxT many s = false := by unfold bxT; rw [hy]; simp
          have k' := k _ y2
          rw [hb] at k'
          simp [h2]
          simpa using k'
        | true =>
        simp [load_bk q2]
        refine iz (ez.ext y2) fun H3 x3 => ?_
        have y3 := y2.trans x3
        have hb : bxT many s = bxS many s.els := by unfold bxT; rw [hy, hd]; simp
        rw [hb] at k
        cases hz : bxS many s.els with
        | false =>
          have k' := k _ y3
          rw [hz] at k'
          simp [h2]
          simpa using k'
        | true =>
        rw [hz] at k
        simp (disch := omega)
        have := ihm (i + 1) (by omega) (H := H3) (hv.ext y3) (fun H' x' => by simpa using k H' (y3.trans x'))
        simpa using this
      by_cases h5 : s.k = 5
      · have hle : ¬ (many : Int) ≤ s.b := fun z => hk ⟨.inr h5, z⟩
        rw [h5] at st q0 x0
        simp (disch := omega) [hlt', l1, st, load_bk q0, h5, hle]
        refine iy (ey.ext x0) fun H2 x2 => ?_
        have y2 := x0.trans x2
        have q2 := (x2.2 H.n (by simp)).trans q0
        cases hy : bxS many s.body with
        | false =>
          have hb : bxT many s = false := by unfold bxT; rw [hy]; simp
          have k' := k _ y2
          rw [hb] at k'
          simp [h2]
          simpa using k'
        | true =>
        simp [load_bk q2]
        refine iz (ez.ext y2) fun H3 x3 => ?_
        have y3 := y2.trans x3
        have hb : bxT many s = bxS many s.els := by unfold bxT; rw [hy, hd]; simp
        rw [hb] at k
        cases hz : bxS many s.els with
        | false =>
          have k' := k _ y3
          rw [hz] at k'
          simp [h2]
          simpa using k'
        | true =>
        rw [hz] at k
        simp (disch := omega)
        have := ihm (i + 1) (by omega) (H := H3) (hv.ext y3) (fun H' x' => by simpa using k H' (y3.trans x'))
        simpa using this
      · simp (disch := omega) [hlt', l1, st, load_bk q0, h4, h5]
        refine iy (ey.ext x0) fun H2 x2 => ?_
        have y2 := x0.trans x2
        have q2 := (x2.2 H.n (by simp)).trans q0
        cases hy : bxS many s.body with
        | false =>
          have hb : bxT many s = false := by unfold bxT; rw [hy]; simp
          have k' := k _ y2
          rw [hb] at k'
          simp [h2]
          simpa using k'
        | true =>
        simp [load_bk q2]
        refine iz (ez.ext y2) fun H3 x3 => ?_
        have y3 := y2.trans x3
        have hb : bxT many s = bxS many s.els := by unfold bxT; rw [hy, hd]; simp
        rw [hb] at k
        cases hz : bxS many s.els with
        | false =>
          have k' := k _ y3
          rw [hz] at k'
          simp [h2]
          simpa using k'
        | true =>
        rw [hz] at k
        simp (disch := omega)
        have := ihm (i + 1) (by omega) (H := H3) (hv.ext y3) (fun H' x' => by simpa using k H' (y3.trans x'))
        simpa using this
theorem K_sl12Boxes (f : Sts) : BxC f := by
  induction f using Sts.ind with
  | h f ih =>
    intro many ok H K w v h k
    rw [CallF_eq e_sl12Boxes rfl]
    simp
    have := K_sl12Boxes_l ih (many := many) (K := K) (Q := ?_) ?_ ?_ f.list.length 0 (by omega) h (fun H' x' => by have := k H' x'; rw [bxS_mem] at this; simpa using this)
    · simpa using this
    · intros; simp
    · intros; simp
end Go.Proofs.YtmecbehegmgbhaaGreat.AM
namespace Go.Proofs.YtmecbehegmgbhaaGreat.AM
set_option linter.unusedSimpArgs false
set_option linter.unusedVariables false
set_option maxRecDepth 100000
set_option maxHeartbeats 2000000
open Go
theorem K_in_t {n lo hi : Int} (h : lo ≤ n ∧ n ≤ hi) {H : AH} {K : AV → AH → Prop} {w : Fk K} : CallF Cd f_sl6In [.I n, .I lo, .I hi] H K w = K (.b true) H := by rw [K_sl6In, decide_eq_true h]
theorem K_in_f {n lo hi : Int} (h : ¬ (lo ≤ n ∧ n ≤ hi)) {H : AH} {K : AV → AH → Prop} {w : Fk K} : CallF Cd f_sl6In [.I n, .I lo, .I hi] H K w = K (.b false) H := by rw [K_sl6In, decide_eq_false h]
end Go.Proofs.YtmecbehegmgbhaaGreat.AM
namespace Go.Proofs.YtmecbehegmgbhaaGreat.AM
set_option linter.unusedSimpArgs false
set_option linter.unusedVariables false
set_option maxRecDepth 100000
set_option maxHeartbeats 2000000
open Go
attribute [-simp] AM.elems
theorem LF.snoc2 {α : Type} {sz : Nat} {E : (Nat → Prop) → AH → List AV → α → Prop} (mono : ∀ {ok ok' : Nat → Prop} {H H' : AH} {c a}, E ok H c a → H.n ≤ H'.n → (∀ b, ok b → b < H.n → H'.bk b = H.bk b) → (∀ b, ok b → b < H.n → ok' b) → E ok' H' c a)
    {base lo B : Nat} {G G1 : AH} {g : AV} {l : List α} {i : Nat} {x : α} {cs c : List AV} (hs : l[i]? = some x) (hg : GrS base G g i sz cs B) (he : LF sz (E (fun b => lo ≤ b ∧ b ≠ B) G) (l.take i) cs)
    (hb : base ≤ G.n) (hlo : lo ≤ G.n) (x1 : Ext G G1) (hc : c.length = sz) (hx : E (fun b => G.n ≤ b) G1 c x) (hi : i < 1000000) :
    ∃ g' G' B', aapp G1 sz g 1 c = some (g', G') ∧ GrS base G' g' (i + 1) sz (cs ++ c) B' ∧ LF sz (E (fun b => lo ≤ b ∧ b ≠ B') G') (l.take (i + 1)) (cs ++ c) ∧ Only (grB g B) G1 G' ∧ ((B' = B ∧ B ∈ grB g B) ∨ B' = G1.n) ∧ g'.flat = true := by
  obtain ⟨g', G', B', a1, a2, a3, a4⟩ := (hg.ext x1).app (k := 1) (new := c) (by have := x1.1; omega) (by omega) (by omega)
  have hm : ∀ b, b ∈ grB g B → b = B ∧ base ≤ B ∧ B < G.n := fun b hb => hg.mem hb
  have hB : (B' = B ∧ base ≤ B ∧ B < G.n) ∨ G1.n = B' := by
    rcases a3 with q | q
    · exact .inl ⟨q.1, (hm _ q.2).2⟩
    · exact .inr q.symm
  have n1 := x1.1
  refine ⟨g', G', B', a1, a2, ?_, a4, a3, a2.flat⟩
  rw [take_snoc hs]
  refine LF.app (he.imp fun c a h => mono h (by have := a4.1; omega) (fun b hb' h1 => ?_) (fun b hb' h1 => ⟨hb'.1, by omega⟩)) (LF.one (mono hx a4.1 (fun b hb' h1 => a4.2 b h1 (fun hm' => by have := hm b hm'; omega)) (fun b hb' h1 => by omega)) hc)
  rw [a4.2 b (by omega) (fun hm' => hb'.2 (hm b hm').1), x1.2 b h1]
def smW (w : Wd) : Prop := vaWd w = true ∧ (∀ t ∈ w.tasks, uL t.rest.list ≤ 4000) ∧ w.out.length ≤ 900000
theorem smW.task {w : Wd} (h : smW w) {t : Tk} (ht : t ∈ w.tasks) : vaT 3 t = true ∧ ctS t.rest ≤ 64000 ∧ t.rest.list.length ≤ 4000 ∧ cpS t.rest = true ∧ t.vars.length = 4 := by
  obtain ⟨h1, h2, h3⟩ := h
  obtain ⟨g1, g2, g3, g4⟩ := vaWd_iff.1 h1
  have hb := (vaBs_facts g3).1
  have h4 := vaT_boxes (b := 3) (by omega) (g4 t ht)
  have h5 := h2 t ht
  have h6 := ctS_uL h4
  have h7 := len_uL t.rest.list
  obtain ⟨f1, f2, f3, f4⟩ := vaT_facts h4
  exact ⟨h4, by omega, by omega, f4, f1⟩
theorem store_cell {H : AH} {b o : Nat} {cs : List AV} {v : AV} (h : H.bk b = some ⟨cs, true⟩) (ho : o < cs.length) : H.store b o [v] = some (H.put b (some ⟨cs.set o v, true⟩)) := by
  rw [store_bk h (by simp; omega)]
  congr 3
  unfold splice
  rw [List.set_eq_take_append_cons_drop, if_pos ho]
  simp
end Go.Proofs.YtmecbehegmgbhaaGreat.AM
namespace Go.Proofs.YtmecbehegmgbhaaGreat.AM
set_option linter.unusedSimpArgs false
set_option linter.unusedVariables false
set_option maxRecDepth 100000
set_option maxHeartbeats 2000000
open Go
attribute [-simp] AM.elems
theorem store_push5 {H : AH} {a b c d e : AV} {l : List AV} (hl : l.length = 5) : (H.push [a, b, c, d, e]).store H.n 0 l = some (H.push l) := by
  rw [store_bk push_new (by simp; omega), push_put]
  congr 2; unfold splice; simp; omega
theorem store_five {H : AH} {b : Nat} {cs l : List AV} (h : H.bk b = some ⟨cs, true⟩) (hc : cs.length = 5) (hl : l.length = 5) : H.store b 0 l = some (H.put b (some ⟨l, true⟩)) := by
  rw [store_bk h (by omega)]
  congr 3
  unfold splice
  simp; omega
theorem GrS.same {base H G v n sz cs B} (h : GrS base H v n sz cs B) (hn : H.n ≤ G.n) (hk : G.bk B = H.bk B) : GrS base G v n sz cs B := by
  obtain ⟨h1, h2, h3 | ⟨h4, h5, h6⟩⟩ := h
  · exact ⟨h1, h2, .inl h3⟩
  · exact ⟨h1, h2, .inr ⟨h4, by omega, by rw [hk]; exact h6⟩⟩
def WX (ok : Nat → Prop) (H : AH) (c : List AV) (w : Wd) : Prop := ∃ vt vb vo OB, c = [vt, vb, .I w.turn, .I w.idle, vo] ∧ TV (fun b => ok b ∧ b ≠ OB) H vt w.tasks ∧ BV (fun b => ok b ∧ b ≠ OB) H vb w.boxes ∧ GrS 0 H vo w.out.length 1 (Ints w.out) OB ∧ (vo = .nils ∨ ok OB)
theorem WX.mono {ok ok' : Nat → Prop} {H H' c w} (h : WX ok H c w) (hn : H.n ≤ H'.n) (hk : ∀ b, ok b → b < H.n → H'.bk b = H.bk b) (ho : ∀ b, ok b → b < H.n → ok' b) : WX ok' H' c w := by
  obtain ⟨vt, vb, vo, OB, e, h1, h2, h3, h4⟩ := h
  refine ⟨vt, vb, vo, OB, e, h1.mono hn (fun b hb => hk b hb.1) (fun b hb hb2 => ⟨ho b hb.1 hb2, hb.2⟩), h2.mono hn (fun b hb => hk b hb.1) (fun b hb hb2 => ⟨ho b hb.1 hb2, hb.2⟩), ?_, ?_⟩
  · rcases h4 with z | z
    · subst z
      obtain ⟨a, b, c | ⟨c, d, c' | ⟨_, _, c', _⟩⟩⟩ := h3
      · exact ⟨a, b, .inl c⟩
      · exact absurd c'.1 (by simp)
      · exact absurd c' (by simp)
    · by_cases q : OB < H.n
      · exact h3.same hn (hk OB z q)
      · obtain ⟨a, b, c | ⟨c, d, _⟩⟩ := h3
        · exact ⟨a, b, .inl c⟩
        · exact absurd d q
  · rcases h4 with z | z
    · exact .inl z
    · obtain ⟨a, b, c | ⟨c, d, _⟩⟩ := h3
      · exact .inl c.1
      · exact .inr (ho OB z d)
theorem WX.ext {ok H H' c t} (h : WX ok H c t) (k : Ext H H') : WX ok H' c t := h.mono k.1 (fun b _ hb => k.2 b hb) (fun _ h _ => h)
end Go.Proofs.YtmecbehegmgbhaaGreat.AM
namespace Go.Proofs.YtmecbehegmgbhaaGreat.AM
set_option linter.unusedSimpArgs false
set_option linter.unusedVariables false
set_option maxRecDepth 100000
set_option maxHeartbeats 2000000
open Go
attribute [-simp] AM.elems
theorem store_push5e {H : AH} {a b c d e v w x y z : AV} : (H.push [a, b, c, d, e]).store H.n 0 [v, w, x, y, z] = some (H.push [v, w, x, y, z]) := store_push5 rfl
theorem store_push2e {H : AH} {a b x y : AV} : (H.push [a, b]).store H.n 0 [x, y] = some (H.push [x, y]) := by
  rw [store_bk push_new (by simp), push_put]
  rfl
end Go.Proofs.YtmecbehegmgbhaaGreat.AM
namespace Go.Proofs.YtmecbehegmgbhaaGreat.AM
set_option linter.unusedSimpArgs false
set_option linter.unusedVariables false
set_option maxRecDepth 100000
set_option maxHeartbeats 2000000
open Go
attribute [-simp] AM.elems
abbrev zeroW : Wd := ⟨[], [], 0, 0, []⟩
abbrev zC : List AV := [.nils, .nils, .I 0, .I 0, .nils]
theorem TV.nil {ok H v} (h : v = .nils ∨ v = .esl) : TV ok H v [] := ⟨[], ⟨by simp, rfl, .inl ⟨rfl, h⟩⟩, rfl⟩
theorem BV.nil {ok H v} (h : v = .nils ∨ v = .esl) : BV ok H v [] := ⟨[], ⟨by simp, rfl, .inl ⟨rfl, h⟩⟩, rfl⟩
theorem zero_WC {ok H} : WC ok H zC zeroW := ⟨_, _, _, rfl, TV.nil (.inl rfl), BV.nil (.inl rfl), IV.nilp (.inl rfl)⟩
def boW (w : Wd) (n : Nat) : Prop := (∀ t ∈ w.tasks, ctS t.rest ≤ 100000 ∧ uL t.rest.list ≤ 4000) ∧ w.out.length + n ≤ 900000
theorem boW.sm {w : Wd} {n : Nat} (h : boW w n) (hv : vaWd w = true) : smW w := ⟨hv, fun t ht => (h.1 t ht).2, by have := h.2; omega⟩
theorem boW.step {w : Wd} {n : Nat} (h : boW w (n + 1)) (hv : vaWd w = true) (hi : w.idle < w.tasks.length) : boW (stepW w) n := by
  obtain ⟨a1, a2, a3, a4, ⟨p, a5, a6⟩, a7⟩ := stepW_keeps hv hi
  have hu := a7 4000 (fun t ht => (h.1 t ht).2)
  refine ⟨fun t ht => ⟨?_, hu t ht⟩, ?_⟩
  · have := (show smW (stepW w) from ⟨a1, hu, by rw [a5, List.length_append]; have := h.2; omega⟩).task ht
    omega
  · rw [a5, List.length_append]; have := h.2; omega
def runF (n : Int) (w : Wd) : Wd × Bool := if vaWd w = true ∧ 0 ≤ n ∧ n ≤ 100000 then (runW n.toNat w, true) else (zeroW, false)
end Go.Proofs.YtmecbehegmgbhaaGreat.AM
namespace Go.Proofs.YtmecbehegmgbhaaGreat.AM
set_option linter.unusedSimpArgs false
set_option linter.unusedVariables false
set_option maxRecDepth 100000
set_option maxHeartbeats 2000000
open Go
attribute [-simp] AM.elems
def turnsF {σ : Type} (many : Int) (nx : σ → Int → σ) (cd : σ → Int → Int) : Nat → σ → Int → Int → σ × Int × Int
  | 0, s, t, i => (s, t, i)
  | n + 1, s, t, i => if i < many then turnsF many nx cd n (nx s t) (nextT many t i (cd s t)).1 (nextT many t i (cd s t)).2 else (s, t, i)
theorem nextT_ok {many t i c : Int} (hm : 1 ≤ many ∧ many ≤ 3) (ht : 0 ≤ t ∧ t < many) (hi : 0 ≤ i ∧ i < many) : (0 ≤ (nextT many t i c).1 ∧ (nextT many t i c).1 < many) ∧ (0 ≤ (nextT many t i c).2 ∧ (nextT many t i c).2 ≤ many) := by
  have m1 := Int.emod_nonneg (t + 1) (show many ≠ 0 by omega)
  have m2 := Int.emod_lt_of_pos (t + 1) (show 0 < many by omega)
  unfold nextT
  split
  · omega
  split <;> omega
theorem K_itakeTurns_l {σ : Type} {fs : FuncId} {cap : List AV} {many : Int} (hm : 1 ≤ many ∧ many ≤ 3) (S : Nat → σ → AH → Prop) (nx : σ → Int → σ) (cd : σ → Int → Int)
    (hstep : ∀ m s t H (K : AV → AH → Prop) (w : Fk K), S (m + 1) s H → 0 ≤ t ∧ t < many → (∀ H', S m (nx s t) H' → K (.I (cd s t)) H') → CallF Cd fs (.I t :: cap) H K w)
    (hcd : ∀ m s t H, S (m + 1) s H → 0 ≤ t ∧ t < many → 1 ≤ cd s t ∧ cd s t ≤ 4) {Q : Out → Env → AH → Prop} (n : Nat) (hn : n ≤ 1000000) : ∀ {s : σ} {t i : Int} {H : AH}, S n s H → 0 ≤ t ∧ t < many → 0 ≤ i ∧ i ≤ many →
    (∀ e m H', S m (turnsF many nx cd n s t i).1 H' → get e 2 = some (.I (turnsF many nx cd n s t i).2.1) → get e 3 = some (.I (turnsF many nx cd n s t i).2.2) → Q (.brk 0) e H') →
    W Cd (.loop c_itakeTurns_l0) [(0, .I n), (1, .I many), (2, .I t), (3, .I i), (4, .fn fs [] cap)] H Q := by
  induction n with
  | zero =>
    intro s t i H hS ht hi hQ
    rw [W_loop_as c_itakeTurns_l0.eq_1]
    simp
    exact hQ _ 0 H hS rfl rfl
  | succ n ih =>
    intro s t i H hS ht hi hQ
    rw [W_loop_as c_itakeTurns_l0.eq_1]
    have h0 : (0 : Int) < (n + 1 : Nat) := by omega
    have h0' : (0 : Int) < (n : Int) + 1 := by omega
    by_cases hlt : i < many
    case neg =>
      simp [h0', hlt]
      have e : turnsF many nx cd (n + 1) s t i = (s, t, i) := by unfold turnsF; rw [if_neg hlt]
      rw [e] at hQ
      exact hQ _ (n + 1) H hS rfl rfl
    have e : turnsF many nx cd (n + 1) s t i = turnsF many nx cd n (nx s t) (nextT many t i (cd s t)).1 (nextT many t i (cd s t)).2 := by
      conv => lhs; unfold turnsF
      rw [if_pos hlt]
    rw [e] at hQ
    simp [h0', hlt]
    refine hstep n s t H _ _ hS ht fun H1 hS1 => ?_
    have hc := hcd n s t H hS ht
    have hok := nextT_ok (c := cd s t) hm ht ⟨hi.1, hlt⟩
    simp
    refine K_iNextTurn hm ht ⟨hi.1, hlt⟩ hc ?_
    have e3 : IntKind.i64.wrap (n : Int) = n := wrap64 (by omega)
    simp [e3]
    exact ih (by omega) hS1 hok.1 hok.2 hQ
theorem K_itakeTurns {σ : Type} {fs : FuncId} {cap : List AV} {many : Int} (hm : 1 ≤ many ∧ many ≤ 3) (S : Nat → σ → AH → Prop) (nx : σ → Int → σ) (cd : σ → Int → Int)
    (hstep : ∀ m s t H (K : AV → AH → Prop) (w : Fk K), S (m + 1) s H → 0 ≤ t ∧ t < many → (∀ H', S m (nx s t) H' → K (.I (cd s t)) H') → CallF Cd fs (.I t :: cap) H K w)
    (hcd : ∀ m s t H, S (m + 1) s H → 0 ≤ t ∧ t < many → 1 ≤ cd s t ∧ cd s t ≤ 4) {n : Nat} (hn : n ≤ 1000000) {s : σ} {t i : Int} {H : AH} {K : AV → AH → Prop} {w : Fk K} (hS : S n s H) (ht : 0 ≤ t ∧ t < many) (hi : 0 ≤ i ∧ i ≤ many)
    (k : ∀ m H', S m (turnsF many nx cd n s t i).1 H' → K (.tup [.I (turnsF many nx cd n s t i).2.1, .I (turnsF many nx cd n s t i).2.2, .b true]) H') : CallF Cd f_itakeTurns [.I n, .I many, .I t, .I i, .fn fs [] cap] H K w := by
  rw [CallF_eq e_itakeTurns rfl]
  simp
  have := K_itakeTurns_l hm S nx cd hstep hcd n hn hS ht hi (Q := ?_) ?_
  · simpa using this
  · intro e m H' h1 h2 h3
    simp [h2, h3]
    exact k m H' h1
abbrev WSt := List Tk × List Bx × List Int × List (Int × Int × Int × Int)
def evL (t : Int) (e : Option (Int × Int × Int)) : List (Int × Int × Int × Int) := match e with | none => [] | some e => [(t, e.1, e.2.1, e.2.2)]
def nxW (s : WSt) (t : Int) : WSt :=
  match s.1[t.toNat]? with
  | none => s
  | some x => (s.1.set t.toNat (stepP x s.2.1).1, (stepP x s.2.1).2.1, s.2.2.1 ++ (stepP x s.2.1).2.2.1, s.2.2.2 ++ evL t (evS x s.2.1))
def cdW (s : WSt) (t : Int) : Int :=
  match s.1[t.toNat]? with
  | none => 1
  | some x => (stepP x s.2.1).2.2.2
def evW (w : Wd) : List (Int × Int × Int × Int) :=
  match w.tasks[w.turn.toNat]? with
  | none => []
  | some x => evL w.turn (evS x w.boxes)
def trW : Nat → Wd → List (Int × Int × Int × Int)
  | 0, _ => []
  | n + 1, w => if w.idle < w.tasks.length then evW w ++ trW n (stepW w) else []
theorem turns_run (n : Nat) : ∀ {w : Wd} (h : vaWd w = true) (ev : List (Int × Int × Int × Int)),
    turnsF w.tasks.length nxW cdW n (w.tasks, w.boxes, w.out, ev) w.turn w.idle = (((runW n w).tasks, (runW n w).boxes, (runW n w).out, ev ++ trW n w), (runW n w).turn, (runW n w).idle) := by
  induction n with
  | zero => intro w h ev; simp [turnsF, runW, trW]
  | succ n ih =>
    intro w h ev
    unfold turnsF runW trW
    by_cases hi : w.idle < (w.tasks.length : Int)
    · rw [if_pos hi, if_pos hi, if_pos hi]
      obtain ⟨k1, k2, _⟩ := stepW_keeps h hi
      obtain ⟨t, ht⟩ : ∃ t, w.tasks[w.turn.toNat]? = some t := ⟨_, List.getElem?_eq_getElem (by have := (vaWd_iff.1 h).1; omega)⟩
      have e : stepW w = ⟨w.tasks.set w.turn.toNat (stepP t w.boxes).1, (stepP t w.boxes).2.1, (nextT w.tasks.length w.turn w.idle (stepP t w.boxes).2.2.2).1, (nextT w.tasks.length w.turn w.idle (stepP t w.boxes).2.2.2).2, w.out ++ (stepP t w.boxes).2.2.1⟩ := by
        unfold stepW; rw [ht]
      have e1 : nxW (w.tasks, w.boxes, w.out, ev) w.turn = ((stepW w).tasks, (stepW w).boxes, (stepW w).out, ev ++ evW w) := by
        rw [e]; unfold nxW evW; simp only [ht]
      have e2 : (nextT w.tasks.length w.turn w.idle (cdW (w.tasks, w.boxes, w.out, ev) w.turn)) = ((stepW w).turn, (stepW w).idle) := by
        rw [e]; unfold cdW; simp only [ht]
      rw [e1, e2]
      have := ih k1 (ev ++ evW w)
      rw [k2] at this
      rw [this, List.append_assoc]
    · rw [if_neg hi, if_neg hi, if_neg hi]
      simp
end Go.Proofs.YtmecbehegmgbhaaGreat.AM
namespace Go.Proofs.YtmecbehegmgbhaaGreat.AM
set_option linter.unusedSimpArgs false
set_option linter.unusedVariables false
set_option maxRecDepth 100000
set_option maxHeartbeats 2000000
open Go
attribute [-simp] AM.elems
abbrev Evt := Int × Int × Int × Int
def evC (e : Evt) : List AV := [.I e.1, .I e.2.1, .I e.2.2.1, .I e.2.2.2]
def evCs (l : List Evt) : List AV := l.flatMap evC
theorem evCs_len {l : List Evt} : (evCs l).length = l.length * 4 := by
  induction l with
  | nil => rfl
  | cons e l ih =>
    have : evCs (e :: l) = evC e ++ evCs l := rfl
    rw [this, List.length_append, ih]
    simp [evC]; omega
theorem evCs_app {a b : List Evt} : evCs (a ++ b) = evCs a ++ evCs b := by simp [evCs]
def ObT (base P5 : Nat) (tr : Option Nat) (H : AH) (evs : List Evt) (ve : AV) (OE : Nat) : Prop :=
  match tr with
  | none => H.bk P5 = some ⟨[.nilf], true⟩
  | some PU => H.bk P5 = some ⟨[.fn f_iWorldTrace_1 [] [.ptr PU 0]], true⟩ ∧ PU < H.n ∧ H.bk PU = some ⟨[ve], true⟩ ∧ GrS base H ve evs.length 4 (evCs evs) OE
def trB (tr : Option Nat) (ve : AV) (OE : Nat) : List Nat := match tr with | none => [] | some PU => PU :: grB ve OE
def Ob (base P7 P5 : Nat) (tr : Option Nat) (vb : AV) (H : AH) (out : List Int) (evs : List Evt) (vo : AV) (O : Nat) (ve : AV) (OE : Nat) : Prop :=
  H.bk P7 = some ⟨[.nils, vb, .I 0, .I 0, vo], true⟩ ∧ P7 < H.n ∧ P5 < H.n ∧ GrS base H vo out.length 1 (Ints out) O ∧ ObT base P5 tr H evs ve OE
def obB (P7 : Nat) (tr : Option Nat) (vo : AV) (O : Nat) (ve : AV) (OE : Nat) : List Nat := P7 :: (grB vo O ++ trB tr ve OE)
theorem ObT.only {base P5 tr H H' evs ve OE bs} (h : ObT base P5 tr H evs ve OE) (k : Only bs H H') (h5 : P5 ∉ bs) (h5n : P5 < H.n) (hb : ∀ b ∈ bs, b ∉ trB tr ve OE) : ObT base P5 tr H' evs ve OE := by
  cases tr with
  | none => exact k.bk h5n h5 h
  | some PU =>
    obtain ⟨h1, h2, h3, h4⟩ := h
    refine ⟨k.bk h5n h5 h1, Nat.lt_of_lt_of_le h2 k.1, k.bk h2 (fun hm => hb PU hm (by simp [trB])) h3, ?_⟩
    by_cases hn : ve = .nils
    · subst hn
      exact ⟨h4.1, h4.2.1, by rcases h4.2.2 with q | ⟨_, _, ⟨q, _⟩ | ⟨_, _, q, _⟩⟩; exact .inl q; cases q; cases q⟩
    · have hg : grB ve OE = [OE] := by
        rcases h4.2.2 with q | ⟨_, _, ⟨q, _⟩ | ⟨_, _, q, _⟩⟩
        · exact absurd q.1 hn
        · rw [q]; rfl
        · rw [q]; rfl
      exact h4.only k (fun b hb' => .inr (fun e => hb b hb' (by simp [trB, hg, e])))
theorem GrS.onlyB {base G G' v n sz cs B bs} (h : GrS base G v n sz cs B) (k : Only bs G G') (hb : ∀ b ∈ bs, b ∉ grB v B) : GrS base G' v n sz cs B := by
  obtain ⟨h1, h2, h3 | ⟨h4, h5, h6⟩⟩ := h
  · exact ⟨h1, h2, .inl h3⟩
  · have hg : grB v B = [B] := by
      rcases h6 with ⟨q, _⟩ | ⟨_, _, q, _⟩
      · rw [q]; rfl
      · rw [q]; rfl
    have hB : B ∉ bs := fun hm => hb B hm (by rw [hg]; simp)
    refine ⟨h1, h2, .inr ⟨h4, Nat.lt_of_lt_of_le h5 k.1, ?_⟩⟩
    rw [k.2 B h5 hB]
    exact h6
theorem ObT.lt {base P5 tr H evs ve OE} (h : ObT base P5 tr H evs ve OE) {b : Nat} (hb : b ∈ trB tr ve OE) : b < H.n := by
  cases tr with
  | none => simp [trB] at hb
  | some PU =>
    obtain ⟨h1, h2, h3, h4⟩ := h
    simp [trB] at hb
    rcases hb with rfl | q
    · exact h2
    · have := h4.mem q; omega
def rwA : AC := match c_irunWorld_1_1.body with | .seq a _ => a | _ => .skip
def rwB : AC := match c_irunWorld_1_1.body with | .seq _ b => b | _ => .skip
theorem eq_rw : Cd f_irunWorld_1_1 = some ⟨6, .seq rwA rwB, []⟩ := rfl
theorem W_rwB {base P5 X : Nat} {tr : Option Nat} {G : AH} {evs : List Evt} {ve : AV} {OE : Nat} {kd bx x turn : Int} {K : AV → AH → Prop} (hb : base ≤ G.n) (h : ObT base P5 tr G evs ve OE) (h5 : P5 < G.n) (hX : G.bk X = some ⟨[.I turn], true⟩)
    (hnd : (trB tr ve OE).Nodup) (h5t : P5 ∉ trB tr ve OE) (hl : evs.length < 900000)
    (k : ∀ ve' OE' G', ObT base P5 tr G' (evs ++ [(turn, kd, bx, x)]) ve' OE' → Only (trB tr ve OE) G G' → (∀ b ∈ trB tr ve' OE', b ∈ trB tr ve OE ∨ G.n ≤ b ∧ b < G'.n) → (trB tr ve' OE').Nodup → K (.tup []) G') :
    W Cd rwB [(0, .I kd), (1, .I bx), (2, .I x), (4, .ptr P5 0), (5, .ptr X 0)] G (retK [] K) := by
  cases tr with
  | none =>
    have h' : G.bk P5 = some ⟨[.nilf], true⟩ := h
    simp [rwB, c_irunWorld_1_1, load_bk h']
    exact k ve OE G h' Only.refl (fun b hb => .inl hb) (by simp [trB])
  | some PU =>
    obtain ⟨h1, h2, h3, h4⟩ := h
    have hd : PU ∉ grB ve OE := by simp [trB] at hnd; exact hnd.1
    simp [rwB, c_irunWorld_1_1, load_bk h1, load_bk hX]
    rw [CallF_eq e_iWorldTrace_1 rfl]
    have x1 := Ext.push G [.I turn, .I kd, .I bx, .I x]
    have x2 := x1.trans (Ext.push _ [.I turn, .I kd, .I bx, .I x])
    have g3 : (G.push [.I turn, .I kd, .I bx, .I x]).bk PU = some ⟨[ve], true⟩ := (x1.2 _ h2).trans h3
    obtain ⟨v', G', B', a1, a2, a3, a4⟩ := (h4.ext x2).app (by simp; omega) (k := 1) (new := [.I turn, .I kd, .I bx, .I x]) rfl (by omega)
    have n4 := a4.1
    simp only [push_n] at n4
    have hgm : ∀ b ∈ grB ve OE, b = OE ∧ base ≤ OE ∧ OE < G.n := fun b hb => h4.mem hb
    have g4 : G'.bk PU = some ⟨[ve], true⟩ := (a4.2 _ (by simp; omega) hd).trans ((x2.2 _ h2).trans h3)
    have f := a2.flat
    have st := store_cell (v := v') g4 (o := 0) (by simp)
    simp only [List.set_cons_zero] at st
    simp [AM.elems, load_bk g3, loadN_push, a1, flat_cells f, flat_tup f, st]
    have hB' : B' ≠ PU := by
      rcases a3 with q | q
      · rw [q.1]; rintro rfl; exact hd q.2
      · rw [q]; simp; omega
    have o : Only (PU :: grB ve OE) G (G'.put PU (some ⟨[v'], true⟩)) := ⟨by simp; omega, fun b hb hm => by
      simp at hm
      rw [put_bk, if_neg hm.1, a4.2 b (by simp; omega) hm.2]; exact x2.2 b hb⟩
    have hnew : ∀ b ∈ grB v' B', b ∈ grB ve OE ∨ G.n ≤ b ∧ b < G'.n := fun b hb => by
      have hb2 := a2.mem hb
      rcases a3 with q | q
      · exact .inl (by rw [hb2.1, q.1]; exact q.2)
      · exact .inr ⟨by rw [hb2.1, q]; simp; omega, by rw [hb2.1]; exact hb2.2.2⟩
    refine k v' B' _ ⟨o.bk h5 (by simpa [trB] using h5t) h1, by simp; omega, put_same, ?_⟩ o (fun b hb => ?_) ?_
    · have a2' : GrS base G' v' (evs ++ [(turn, kd, bx, x)]).length 4 (evCs (evs ++ [(turn, kd, bx, x)])) B' := by
        rw [evCs_app]; simpa [evCs, evC] using a2
      exact a2'.only (bs := [PU]) (Only.refl.put (by simp)) (fun b hb => .inr (by simp at hb; rw [hb]; exact Ne.symm hB'))
    · simp [trB] at hb ⊢
      rcases hb with q | q
      · exact .inl (.inl q)
      · rcases hnew b q with z | z
        · exact .inl (.inr z)
        · exact .inr z
    · simp [trB]
      refine ⟨fun hm => hB' (grB_sub hm).symm, ?_⟩
      cases v' <;> simp [grB]
theorem tell_runWorld {base P7 P5 X : Nat} {tr : Option Nat} {vb : AV} {out : List Int} {evs : List Evt} {vo : AV} {O : Nat} {ve : AV} {OE : Nat} {turn : Int} (hnd : (obB P7 tr vo O ve OE).Nodup) (h5 : P5 ∉ obB P7 tr vo O ve OE) (hX : X ∉ obB P7 tr vo O ve OE) (hl : out.length < 900000 ∧ evs.length < 900000) :
    TellOk f_irunWorld_1_1 [.ptr P7 0, .ptr P5 0, .ptr X 0] (obB P7 tr vo O ve OE)
      (fun H1 => Ob base P7 P5 tr vb H1 out evs vo O ve OE ∧ H1.bk X = some ⟨[.I turn], true⟩ ∧ X < H1.n ∧ base ≤ H1.n)
      (fun e H1 H2 => ∃ vo' O' ve' OE', Ob base P7 P5 tr vb H2 (out ++ prE (some e)) (evs ++ [(turn, e.1, e.2.1, e.2.2)]) vo' O' ve' OE' ∧ (∀ b ∈ obB P7 tr vo' O' ve' OE', b ∈ obB P7 tr vo O ve OE ∨ H1.n ≤ b ∧ b < H2.n) ∧ (obB P7 tr vo' O' ve' OE').Nodup) := by
  intro kd bx x H1 K1 w1 hP k
  obtain ⟨⟨h1, h2, h3, h4, h6⟩, h7, h8, h9⟩ := hP
  rw [CallF_eq eq_rw rfl]
  have hnd' := hnd
  simp only [obB, List.nodup_cons, List.mem_append, not_or, List.nodup_append] at hnd'
  obtain ⟨⟨d1, d2⟩, d3, d4, d5⟩ := hnd'
  have h5' := h5
  have hX' := hX
  simp only [obB, List.mem_cons, List.mem_append, not_or] at h5' hX'
  by_cases hk : kd = 3
  · subst hk
    have x1 := Ext.push H1 [.I x]
    obtain ⟨v', G', B', a1, a2, a3, a4⟩ := (h4.ext x1).app (by simp; omega) (k := 1) (new := [.I x]) rfl (by omega)
    have n4 := a4.1
    simp only [push_n] at n4
    have hgm : ∀ b ∈ grB vo O, b = O ∧ base ≤ O ∧ O < H1.n := fun b hb => h4.mem hb
    have g4 : G'.bk P7 = some ⟨[.nils, vb, .I 0, .I 0, vo], true⟩ := (a4.2 _ (by simp; omega) d1).trans ((x1.2 _ h2).trans h1)
    have f := a2.flat
    have st := store_cell (v := v') g4 (o := 4) (by simp)
    simp only [List.set_cons_succ, List.set_cons_zero] at st
    simp [rwA, c_irunWorld_1_1, AM.elems, load_bk h1, loadN_push, a1, flat_cells f, flat_tup f, st]
    have o : Only (P7 :: grB vo O) H1 (G'.put P7 (some ⟨[.nils, vb, .I 0, .I 0, v'], true⟩)) := ⟨by simp; omega, fun b hb hm => by
      simp at hm
      rw [put_bk, if_neg hm.1, a4.2 b (by simp; omega) hm.2]; exact x1.2 b hb⟩
    have hB' : B' ≠ P7 := by
      rcases a3 with q | q
      · rw [q.1]; rintro rfl; exact d1 q.2
      · rw [q]; simp; omega
    have hnew : ∀ b ∈ grB v' B', b ∈ grB vo O ∨ H1.n ≤ b ∧ b < G'.n := fun b hb => by
      have hb2 := a2.mem hb
      rcases a3 with q | q
      · exact .inl (by rw [hb2.1, q.1]; exact q.2)
      · exact .inr ⟨by rw [hb2.1, q]; simp, by rw [hb2.1]; exact hb2.2.2⟩
    have ht := h6.only o (by simp; exact ⟨h5'.1, h5'.2.1⟩) h3 (fun b hb => by
      rcases List.mem_cons.1 hb with rfl | q
      · exact d2
      · exact fun hm => d5 b q b hm rfl)
    have hXg : (G'.put P7 (some ⟨[.nils, vb, .I 0, .I 0, v'], true⟩)).bk X = some ⟨[.I turn], true⟩ := o.bk h8 (by simp; exact ⟨hX'.1, hX'.2.1⟩) h7
    refine W_rwB (by simp; omega) ht (by simp; omega) hXg d4 h5'.2.2 hl.2 fun ve' OE' G2 t1 t2 t3 t4 => ?_
    have n2 := t2.1
    simp only [put_n] at n2
    have a2' : GrS base G' v' (out ++ [x]).length 1 (Ints (out ++ [x])) B' := by
      have e1 : Ints out ++ [.I x] = Ints (out ++ [x]) := by simp [Ints]
      rw [← e1]; simpa using a2
    have a2'' := a2'.only (bs := [P7]) (G' := G'.put P7 (some ⟨[.nils, vb, .I 0, .I 0, v'], true⟩)) (Only.refl.put (by simp)) (fun b hb => .inr (by simp at hb; rw [hb]; exact Ne.symm hB'))
    have htb : ∀ b ∈ trB tr ve OE, b ∉ grB v' B' := fun b hb hm => by
      rcases hnew b hm with q | q
      · exact d5 b q b hb rfl
      · have := ht.lt hb; simp at this
        have := h6.lt hb; omega
    refine k G2 ⟨v', B', ve', OE', ⟨(t2.bk (by simp; omega) d2 put_same), by omega, by omega, by simpa [prE] using a2''.onlyB t2 htb, t1⟩, fun b hb => ?_, ?_⟩ ?_
    · simp only [obB, List.mem_cons, List.mem_append] at hb ⊢
      rcases hb with q | q | q
      · exact .inl (.inl q)
      · rcases hnew b q with z | z
        · exact .inl (.inr (.inl z))
        · exact .inr (by omega)
      · rcases t3 b q with z | z
        · exact .inl (.inr (.inr z))
        · simp at z; exact .inr (by omega)
    · simp only [obB, List.nodup_cons, List.mem_append, not_or, List.nodup_append]
      refine ⟨⟨fun hm => hB' (grB_sub hm).symm, fun hm => ?_⟩, by cases v' <;> simp [grB], t4, fun a ha b hb e => ?_⟩
      · rcases t3 _ hm with z | z
        · exact d2 z
        · simp at z; omega
      · subst e
        rcases t3 _ hb with z | z
        · exact htb _ z ha
        · simp at z
          have := a2.mem ha; omega
    · refine (o.mono (cs := obB P7 tr vo O ve OE) (fun b hb => .inl ?_)).trans (t2.mono (cs := obB P7 tr vo O ve OE) (fun b hb => .inl ?_))
      · simp only [obB, List.mem_cons, List.mem_append] at hb ⊢
        rcases hb with q | q
        · exact .inl q
        · exact .inr (.inl q)
      · simp only [obB, List.mem_cons, List.mem_append]; exact .inr (.inr hb)
  · simp [rwA, c_irunWorld_1_1, hk]
    refine W_rwB h9 h6 h3 h7 d4 h5'.2.2 hl.2 fun ve' OE' G2 t1 t2 t3 t4 => ?_
    have n2 := t2.1
    refine k G2 ⟨vo, O, ve', OE', ⟨t2.bk h2 d2 h1, by omega, by omega, by simpa [prE, hk] using h4.onlyB t2 (fun b hb hm => d5 b hm b hb rfl), t1⟩, fun b hb => ?_, ?_⟩ (t2.mono (fun b hb => .inl (by simp only [obB, List.mem_cons, List.mem_append]; exact .inr (.inr hb))))
    · simp only [obB, List.mem_cons, List.mem_append] at hb ⊢
      rcases hb with q | q | q
      · exact .inl (.inl q)
      · exact .inl (.inr (.inl q))
      · rcases t3 b q with z | z
        · exact .inl (.inr (.inr z))
        · exact .inr z
    · simp only [obB, List.nodup_cons, List.mem_append, not_or, List.nodup_append]
      refine ⟨⟨d1, fun hm => ?_⟩, d3, t4, fun a ha b hb e => ?_⟩
      · rcases t3 _ hm with z | z
        · exact d2 z
        · omega
      · subst e
        rcases t3 _ hb with z | z
        · exact d5 _ ha _ z rfl
        · have := h4.mem ha; omega
end Go.Proofs.YtmecbehegmgbhaaGreat.AM
namespace Go.Proofs.YtmecbehegmgbhaaGreat.AM
set_option linter.unusedSimpArgs false
set_option linter.unusedVariables false
set_option maxRecDepth 100000
set_option maxHeartbeats 4000000
open Go
attribute [-simp] AM.elems
abbrev RV := Nat × AV × Nat × AV
theorem Ob.only {base P7 P5 tr vb H H' out evs vo O ve OE bs} (h : Ob base P7 P5 tr vb H out evs vo O ve OE) (k : Only bs H H') (h5 : P5 ∉ bs) (hb : ∀ b ∈ bs, b ∉ obB P7 tr vo O ve OE) : Ob base P7 P5 tr vb H' out evs vo O ve OE := by
  obtain ⟨h1, h2, h3, h4, h6⟩ := h
  refine ⟨k.bk h2 (fun hm => hb P7 hm (by simp [obB])) h1, Nat.lt_of_lt_of_le h2 k.1, Nat.lt_of_lt_of_le h3 k.1, h4.onlyB k (fun b hm hg => hb b hm (by simp [obB, hg])), h6.only k h5 h3 (fun b hm hg => hb b hm (by simp [obB, hg]))⟩
def RunW (lo3 : Nat) (X : List Nat) (G0 : AH) (base P8 P7 P5 : Nat) (tr : Option Nat) (many : Nat) (vts : AV) (m : Nat) (s : WSt) (H : AH) : Prop :=
  ∃ (M : List Nat) (rvs : List RV) (rs : List (AV × Nat)) (B : Nat) (vb : AV) (vo : AV) (O : Nat) (ve : AV) (OE : Nat),
    (H.bk P8 = some ⟨[vts], true⟩ ∧ P8 < H.n ∧ P8 ∉ M ∧ SlC (fun b => b ∉ M) H vts many 1 (rvs.map fun q => .ptr q.1 0) ∧ rvs.length = many ∧ s.1.length = many) ∧
    (Ob base P7 P5 tr vb H s.2.2.1 s.2.2.2 vo O ve OE ∧ (obB P7 tr vo O ve OE).Nodup ∧ (∀ b ∈ obB P7 tr vo O ve OE, b ∈ M) ∧ P5 ∉ M) ∧
    (RB base H vb s.2.1 B rs ∧ (∀ b ∈ fpB B rs, b ∈ M) ∧ (∀ b ∈ obB P7 tr vo O ve OE, b ∉ fpB B rs)) ∧
    (∀ (i : Nat) (t : Tk) (q : RV), s.1[i]? = some t → rvs[i]? = some q → RunT base M H q.1 q.2.1 q.2.2.1 q.2.2.2 t ∧ (q.1 ∈ M ∧ q.2.2.1 ∈ M) ∧ (q.1 ∉ fpB B rs ∧ q.2.2.1 ∉ fpB B rs) ∧ (q.1 ∉ obB P7 tr vo O ve OE ∧ q.2.2.1 ∉ obB P7 tr vo O ve OE)) ∧
    (∀ (i j : Nat) (q q' : RV), i ≠ j → rvs[i]? = some q → rvs[j]? = some q' → q.1 ≠ q'.1 ∧ q.1 ≠ q'.2.2.1 ∧ q.2.2.1 ≠ q'.2.2.1) ∧
    ((∀ b ∈ M, b < H.n) ∧ base ≤ H.n ∧ (many ≤ 3 ∧ (∀ t ∈ s.1, vaT s.2.1.length t = true) ∧ vaBs s.2.1 = true) ∧ s.2.2.1.length + m ≤ 890000 ∧ s.2.2.2.length + m ≤ 890000) ∧
    ((∀ b ∈ M, lo3 ≤ b ∨ b ∈ X) ∧ lo3 ≤ H.n ∧ ∀ b, b < lo3 → b ∉ X → H.bk b = G0.bk b)
theorem prE_len {e : Option (Int × Int × Int)} : (prE e).length ≤ 1 := by
  unfold prE
  split
  · split <;> simp
  · simp
theorem runW_code {lo3 : Nat} {X : List Nat} {G0 : AH} {base P8 P7 P5 : Nat} {tr : Option Nat} {many : Nat} {vts : AV} {m : Nat} {s : WSt} {H : AH} (h : RunW lo3 X G0 base P8 P7 P5 tr many vts m s H) {t : Int} (ht : 0 ≤ t ∧ t < many) : 1 ≤ cdW s t ∧ cdW s t ≤ 4 := by
  obtain ⟨M, rvs, rs, B, vb, vo, O, ve, OE, ⟨_, _, _, _, _, hs⟩, _, _, _, _, ⟨_, _, ⟨_, h3, _⟩, _⟩, _⟩ := h
  unfold cdW
  obtain ⟨x, hx⟩ : ∃ x, s.1[t.toNat]? = some x := ⟨_, List.getElem?_eq_getElem (by omega)⟩
  rw [hx]
  exact step_code' (h3 x (List.mem_of_getElem? hx))
theorem runW_step {lo3 : Nat} {X : List Nat} {G0 : AH} {base P8 P7 P5 : Nat} {tr : Option Nat} {many : Nat} {vts : AV} {m : Nat} {s : WSt} {t : Int} {H : AH} {K : AV → AH → Prop} {w : Fk K} (h : RunW lo3 X G0 base P8 P7 P5 tr many vts (m + 1) s H) (ht : 0 ≤ t ∧ t < many)
    (k : ∀ H', RunW lo3 X G0 base P8 P7 P5 tr many vts m (nxW s t) H' → K (.I (cdW s t)) H') : CallF Cd f_irunWorld_1 [.I t, .ptr P8 0, .ptr P7 0, .ptr P5 0] H K w := by
  obtain ⟨M, rvs, rs, B, vb, vo, O, ve, OE, ⟨g8, n8, m8, sl, hrl, hs⟩, ⟨ob, nd, obM, m5⟩, ⟨rb, fpM, obf⟩, ts, dis, ⟨hM, hbase, ⟨hm3, va, vb3⟩, hlo, hle⟩, ⟨fX, fn, ff⟩⟩ := h
  obtain ⟨x, hx⟩ : ∃ x, s.1[t.toNat]? = some x := ⟨_, List.getElem?_eq_getElem (by omega)⟩
  obtain ⟨⟨R, vv, V, p⟩, hq⟩ : ∃ q, rvs[t.toNat]? = some q := ⟨_, List.getElem?_eq_getElem (by omega)⟩
  obtain ⟨rt, ⟨RM, VM⟩, ⟨Rf, Vf⟩, ⟨Ro, Vo⟩⟩ := ts t.toNat x _ hx hq
  simp only at rt RM VM Rf Vf Ro Vo
  have hva := va x (List.mem_of_getElem? hx)
  have hb3 := (vaBs_facts vb3).1
  have hva3 := vaT_boxes (b := 3) (by omega) hva
  have hrd := rd_of_va hva
  have e1 : nxW s t = (s.1.set t.toNat (stepP x s.2.1).1, (stepP x s.2.1).2.1, s.2.2.1 ++ (stepP x s.2.1).2.2.1, s.2.2.2 ++ evL t (evS x s.2.1)) := by unfold nxW; simp only [hx]
  have e2 : cdW s t = (stepP x s.2.1).2.2.2 := by unfold cdW; rw [hx]
  rw [e1, e2] at k
  rw [CallF_eq e_irunWorld_1 rfl]
  have x0 := Ext.push H [.I t]
  have g8' := (x0.2 _ n8).trans g8
  obtain ⟨o1, o2, o3, o4, o6⟩ := id ob
  have g7' := (x0.2 _ o2).trans o1
  obtain ⟨b, o, cap, ev, okb, hbn, hsl⟩ := sl.at (i := t.toNat) (by omega)
  have lp : (H.push [.I t]).load b (o + t.toNat) = some (.ptr R 0) := by
    have hh := hsl t.toNat 1 (by omega)
    have h2 : seg (rvs.map fun q => AV.ptr q.1 0) t.toNat 1 = some [.ptr R 0] := by
      unfold seg
      rw [if_pos (by simp; omega)]
      congr 1
      exact take_one (by rw [List.getElem?_map, hq]; rfl)
    rw [h2] at hh
    have := loadN_get (loadN_extE hh x0 hbn) (i := 0) (by omega)
    simpa using this
  subst ev
  have ht1 : 0 ≤ t := ht.1
  have ht2 : t < (many : Int) := ht.2
  simp (disch := omega) [load_push, load_bk g8', load_bk g7', ht1, ht2, lp, n8, Nat.ne_of_lt, show ¬ P8 = H.n by omega, show ¬ P7 = H.n by omega, load_bk g8, load_bk o1]
  have rt0 : RunT base M (H.push [.I t]) R vv V p x := rt.only (cs := []) x0.only (by simp) (by simp) (by simp)
  have rb0 := rb.onlyA (cs := []) x0.only (by simp)
  have ob0 := ob.only (bs := []) x0.only (by simp) (by simp)
  have hXo : H.n ∉ obB P7 tr vo O ve OE := fun hm => by have := hM _ (obM _ hm); omega
  refine K_irunning_step (P := fun H1 => Ob base P7 P5 tr vb H1 s.2.2.1 s.2.2.2 vo O ve OE ∧ H1.bk H.n = some ⟨[.I t], true⟩ ∧ H.n < H1.n ∧ base ≤ H1.n) rt0 (fun b hb => by have := hM b hb; simp; omega) hva3 (by simp; omega) rb0 vb3 hrd Rf Vf fpM (tb := obB P7 tr vo O ve OE) obf (fun b hb => by have := hM b (obM b hb); simp; omega)
    (tell_runWorld (turn := t) nd (fun hm => m5 (obM _ hm)) hXo (by omega))
    (fun H1 oo => ⟨ob0.only oo (fun hm => by rcases List.mem_cons.1 hm with q | q; exact m5 (by rw [q]; exact VM); exact m5 (fpM _ q)) (fun b hb hm => by rcases List.mem_cons.1 hb with q | q; rw [q] at hm; exact Vo hm; exact obf b hm q),
      oo.bk (by simp) (fun hm => by rcases List.mem_cons.1 hm with q | q; have := hM _ VM; omega; have := hM _ (fpM _ q); omega) push_new, by have := oo.1; simp at this; omega, by have := oo.1; simp at this; omega⟩)
    Ro Vo obM fun p' rs' H1 H2 H' r1 b1 m1 w1 tl w2 => ?_
  have n1 := w1.1
  simp only [push_n] at n1
  have hpr := step_prints (bs := s.2.1) (t := x) (fun y hy => (okT_facts ((vaT_facts hva3).2.2.1 y hy).1).1)
  obtain ⟨vo', O', ve', OE', ob2, obn, nd2, w12, n12⟩ : ∃ vo' O' ve' OE', Ob base P7 P5 tr vb H2 (s.2.2.1 ++ (stepP x s.2.1).2.2.1) (s.2.2.2 ++ evL t (evS x s.2.1)) vo' O' ve' OE' ∧
      (∀ b ∈ obB P7 tr vo' O' ve' OE', b ∈ obB P7 tr vo O ve OE ∨ H1.n ≤ b ∧ b < H2.n) ∧ (obB P7 tr vo' O' ve' OE').Nodup ∧ Only (obB P7 tr vo O ve OE) H1 H2 ∧ H1.n ≤ H2.n := by
    rw [hpr]
    cases he : evS x s.2.1 with
    | none =>
      rw [he] at tl
      have tl : H2 = H1 := tl
      subst tl
      refine ⟨vo, O, ve, OE, ?_, fun b hb => .inl hb, nd, Only.refl, Nat.le_refl _⟩
      have := ob0.only w1 (fun hm => by rcases List.mem_cons.1 hm with q | q; exact m5 (by rw [q]; exact VM); exact m5 (fpM _ q)) (fun b hb hm => by rcases List.mem_cons.1 hb with q | q; rw [q] at hm; exact Vo hm; exact obf b hm q)
      simpa [prE, evL] using this
    | some e =>
      rw [he] at tl
      obtain ⟨⟨vo', O', ve', OE', a1, a2, a3⟩, a4⟩ := tl
      exact ⟨vo', O', ve', OE', a1, a2, a3, a4, a4.1⟩
  have n2 := w2.1
  have wall : Only (R :: V :: (fpB B rs ++ obB P7 tr vo O ve OE)) H H' := by
    refine (((x0.only (bs := [])).mono (by simp)).trans (w1.mono (fun b hb => .inl ?_))).trans ((w12.mono (fun b hb => .inl ?_)).trans (w2.mono (fun b hb => .inl ?_)))
    · rcases List.mem_cons.1 hb with q | q
      · simp [q]
      · simp [q]
    · simp [hb]
    · simp at hb; rcases hb with q | q <;> simp [q]
  have wM : Only M H H' := wall.mono (fun b hb => .inl (by
    simp at hb
    rcases hb with q | q | q | q
    · rw [q]; exact RM
    · rw [q]; exact VM
    · exact fpM b q
    · exact obM b q))
  have hfp : ∀ b ∈ fpB B rs', b ∈ fpB B rs ∨ H.n < b ∧ b < H1.n := fun b hb => by
    rcases m1 b hb with q | q
    · exact .inl q
    · simp at q; exact .inr (by omega)
  have hM' : ∀ b ∈ M ++ (fpB B rs' ++ obB P7 tr vo' O' ve' OE'), b ∈ M ∨ H.n ≤ b ∧ b < H'.n := fun b hb => by
    simp only [List.mem_append] at hb
    rcases hb with q | q | q
    · exact .inl q
    · rcases hfp b q with z | z
      · exact .inl (fpM b z)
      · exact .inr (by omega)
    · rcases obn b q with z | z
      · exact .inl (obM b z)
      · exact .inr (by omega)
  have hold : ∀ b, b < H.n → b ∉ M → b ∉ M ++ (fpB B rs' ++ obB P7 tr vo' O' ve' OE') := fun b hb hn hm => by
    rcases hM' b hm with q | q
    · exact hn q
    · omega
  have Rn := hM _ RM
  have Vn := hM _ VM
  have obf' : ∀ b ∈ obB P7 tr vo' O' ve' OE', b ∉ fpB B rs' := fun b hb hm => by
    rcases obn b hb with q | q
    · rcases hfp b hm with z | z
      · exact obf b q z
      · have := hM _ (obM b q); omega
    · rcases hfp b hm with z | z
      · have := hM _ (fpM b z); omega
      · omega
  have out' : ∀ b, b < H.n → b ∉ fpB B rs → b ∉ fpB B rs' := fun b hb hn hm => by
    rcases hfp b hm with q | q
    · exact hn q
    · omega
  have outo : ∀ b, b < H.n → b ∉ obB P7 tr vo O ve OE → b ∉ obB P7 tr vo' O' ve' OE' := fun b hb hn hm => by
    rcases obn b hm with q | q
    · exact hn q
    · omega
  obtain ⟨sk1, sk2, sk3, sk4, sk5, sk6⟩ := step_keeps hva vb3 hrd
  simp
  refine k H' ⟨M ++ (fpB B rs' ++ obB P7 tr vo' O' ve' OE'), rvs.set t.toNat (R, vv, V, p'), rs', B, vb, vo', O', ve', OE',
    ⟨wM.bk n8 m8 g8, by have := wM.1; omega, hold _ n8 m8, ?_, by simp; exact hrl, by simp; exact hs⟩,
    ⟨ob2.only w2 (by simp; exact ⟨fun e => m5 (by rw [e]; exact RM), fun e => m5 (by rw [e]; exact VM)⟩) (fun b hb hm => ?_), nd2, fun b hb => by simp [hb], hold _ o3 m5⟩,
    ⟨b1, fun b hb => by simp [hb], obf'⟩, ?_, ?_, ⟨fun b hb => ?_, by have := wM.1; omega, ⟨hm3, ?_, sk2⟩, ?_, ?_⟩, ⟨fun b hb => ?_, by have := wM.1; omega, fun b hb hx => ?_⟩⟩
  · have e5 : (rvs.set t.toNat (R, vv, V, p')).map (fun q => AV.ptr q.1 0) = rvs.map fun q => AV.ptr q.1 0 := by
      rw [List.map_set]
      refine List.ext_getElem? fun j => ?_
      by_cases hj : j = t.toNat
      · subst hj
        rw [List.getElem?_set_self (by simp; omega), List.getElem?_map, hq]; rfl
      · rw [List.getElem?_set_ne (by omega)]
    rw [e5]
    exact sl.mono wM.1 (fun b hb hn => wM.2 b hn hb) (fun b hb hn => hold b hn hb)
  · simp at hb
    rcases hb with q | q
    · rw [q] at hm; exact outo R Rn Ro hm
    · rw [q] at hm; exact outo V Vn Vo hm
  · intro i y q hy hq'
    by_cases hi : i = t.toNat
    · subst hi
      rw [List.getElem?_set_self (by omega)] at hy hq'
      cases hy; cases hq'
      refine ⟨r1 _ (fun b hb => ?_), ⟨by simp [RM], by simp [VM]⟩, ⟨out' R Rn Rf, out' V Vn Vf⟩, ⟨outo R Rn Ro, outo V Vn Vo⟩⟩
      simp only [List.mem_append] at hb
      rcases hb with z | z | z
      · exact .inl z
      · exact .inr (.inr z)
      · rcases obn b z with u | u
        · exact .inl (obM b u)
        · exact .inr (.inl u)
    · rw [List.getElem?_set_ne (by omega)] at hy hq'
      obtain ⟨a1, ⟨a2, a3⟩, ⟨a4, a5⟩, ⟨a6, a7⟩⟩ := ts i y q hy hq'
      obtain ⟨d1, d2, d3⟩ := dis i t.toNat q _ hi hq' hq
      obtain ⟨d4, d5, d6⟩ := dis t.toNat i _ q (Ne.symm hi) hq hq'
      have hqn := hM _ a2
      have hvn := hM _ a3
      refine ⟨?_, ⟨by simp [a2], by simp [a3]⟩, ⟨out' _ hqn a4, out' _ hvn a5⟩, ⟨outo _ hqn a6, outo _ hvn a7⟩⟩
      have r2 : RunT base (M ++ (fpB B rs' ++ obB P7 tr vo' O' ve' OE')) H q.1 q.2.1 q.2.2.1 q.2.2.2 y := a1.more (fun b hb => by rcases hM' b hb with z | z; exact .inl z; exact .inr z.1)
      refine r2.only wall ?_ ?_ (fun b hb => .inl ?_)
      · simp; exact ⟨d1, d2, a4, a6⟩
      · simp; exact ⟨Ne.symm d5, d3, a5, a7⟩
      · simp at hb
        rcases hb with z | z | z | z
        · simp [z, RM]
        · simp [z, VM]
        · simp [fpM b z]
        · simp [obM b z]
  · intro i j q q' hij h1 h2
    have key : ∀ (i : Nat) (q : RV), (rvs.set t.toNat (R, vv, V, p'))[i]? = some q → ∃ q0 : RV, rvs[i]? = some q0 ∧ q0.1 = q.1 ∧ q0.2.2.1 = q.2.2.1 := fun i q h => by
      by_cases hi : i = t.toNat
      · subst hi
        rw [List.getElem?_set_self (by omega)] at h
        cases h
        exact ⟨_, hq, rfl, rfl⟩
      · rw [List.getElem?_set_ne (by omega)] at h
        exact ⟨q, h, rfl, rfl⟩
    obtain ⟨q0, z1, z2, z3⟩ := key i q h1
    obtain ⟨q1, y1, y2, y3⟩ := key j q' h2
    have := dis i j q0 q1 hij z1 y1
    rw [← z2, ← z3, ← y2, ← y3]
    exact this
  · rcases hM' b hb with q | q
    · have := hM b q; have := wM.1; omega
    · exact q.2
  · intro y hy
    simp only at hy ⊢
    rw [sk3]
    rcases List.mem_or_eq_of_mem_set hy with q | q
    · exact va y q
    · subst q; exact sk1
  · simp only [List.length_append]
    have := @prE_len (evS x s.2.1)
    rw [hpr]; omega
  · simp only [List.length_append]
    have : (evL t (evS x s.2.1)).length ≤ 1 := by unfold evL; cases evS x s.2.1 <;> simp
    omega
  · rcases hM' b hb with q | q
    · exact fX b q
    · exact .inl (by omega)
  · rw [wM.2 b (by omega) (fun hm => by rcases fX b hm with q | q; omega; exact hx q)]
    exact ff b hb hx
end Go.Proofs.YtmecbehegmgbhaaGreat.AM
namespace Go.Proofs.YtmecbehegmgbhaaGreat.AM
set_option linter.unusedSimpArgs false
set_option linter.unusedVariables false
set_option maxRecDepth 100000
set_option maxHeartbeats 4000000
open Go
attribute [-simp] AM.elems
theorem K_inewRunning2 {ok : Nat → Prop} {H : AH} {K : AV → AH → Prop} {w : Fk K} {c : List AV} {t : Tk} (h : TC ok H c t) (h4 : t.vars.length = 4)
    (k : ∀ R vv' V p H', H'.bk R = some ⟨[vv', p], true⟩ → GrS H.n H' vv' t.vars.length 1 (Ints t.vars) V → PL (fun b => (ok b ∧ b < H.n ∨ H.n ≤ b) ∧ b ≠ V ∧ b ≠ R) H' p t.rest.list → H.n ≤ V → V < R → R < H'.n → Ext H H' → K (.ptr R 0) H') : CallF Cd f_inewRunning [.agg c] H K w := by
  obtain ⟨vv, vr, rfl, h1, h2⟩ := h
  rw [CallF_eq e_inewRunning rfl]
  have x0 := Ext.push H [vv, vr]
  simp [load_push]
  refine K_cloneG (h1.ext x0).src (by omega) fun vv' H1 V g1 x1 => ?_
  have n1 := x1.1
  simp only [push_n] at n1
  have fv := g1.flat
  have hV : H.n + 1 ≤ V ∧ V < H1.n := by
    rcases g1.2.2 with q | q
    · omega
    · exact ⟨by simpa using q.1, q.2.1⟩
  have q1 : H1.bk H.n = some ⟨[vv, vr], true⟩ := (x1.2 _ (by simp)).trans push_new
  simp [x1, load_bk q1, AM.elems]
  have sv : SV (fun b => (ok b ∧ b < H.n ∨ H.n ≤ b) ∧ b ≠ V) H1 vr t.rest := h2.mono (by omega) (fun b _ hb => (x0.trans x1).2 b hb) (fun b ho hb => ⟨.inl ⟨ho, hb⟩, by omega⟩)
  refine K_iahead (ok := fun b => (ok b ∧ b < H.n ∨ H.n ≤ b) ∧ b ≠ V) (rs := []) H1.n (Nat.le_refl _) (fun b hb => ⟨.inr (by omega), by omega⟩) sv (show PL _ H1 .nilp [] from rfl) fun p H2 hp x2 => ?_
  have fp := hp.flat
  have n2 := x2.1
  rw [List.append_nil] at hp
  have x3 := Ext.push H2 [vv', p]
  simp [x2, flat_cells fv, flat_tup fv, flat_cells fp, flat_tup fp]
  refine k H2.n vv' V p _ push_new ?_ (hp.mono (by simp) (fun b _ hb => x3.2 b hb) (fun b h hb => ⟨h.1, h.2, by omega⟩)) (by omega) (by omega) (by simp) (((x0.trans x1).trans x2).trans x3)
  have g3 := (g1.ext x2).ext x3
  exact g3.up (by simp)
def rvB (l : List RV) : List Nat := l.flatMap fun q => [q.1, q.2.2.1]
theorem rvB_mem {l : List RV} {q : RV} (h : q ∈ l) : q.1 ∈ rvB l ∧ q.2.2.1 ∈ rvB l := ⟨List.mem_flatMap.2 ⟨q, h, by simp⟩, List.mem_flatMap.2 ⟨q, h, by simp⟩⟩
theorem rvB_app {a b : List RV} : rvB (a ++ b) = rvB a ++ rvB b := by simp [rvB]
def TSt (base lo : Nat) (F : List Nat) (G : AH) (ts : List Tk) (rvs : List RV) : Prop :=
  rvs.length = ts.length ∧ (∀ (j : Nat) (t : Tk) (q : RV), ts[j]? = some t → rvs[j]? = some q → RunT base (F ++ rvB rvs) G q.1 q.2.1 q.2.2.1 q.2.2.2 t) ∧ (∀ b ∈ rvB rvs, lo ≤ b ∧ b < G.n) ∧
  (∀ (i j : Nat) (q q' : RV), i ≠ j → rvs[i]? = some q → rvs[j]? = some q' → q.1 ≠ q'.1 ∧ q.1 ≠ q'.2.2.1 ∧ q.2.2.1 ≠ q'.2.2.1)
theorem TSt.only {base lo F G G' ts rvs cs} (h : TSt base lo F G ts rvs) (k : Only cs G G') (hF : ∀ b ∈ cs, b ∈ F ∨ G.n ≤ b) (hr : ∀ b ∈ cs, b ∉ rvB rvs) : TSt base lo F G' ts rvs := by
  obtain ⟨h1, h2, h3, h4⟩ := h
  refine ⟨h1, fun j t q ht hq => ?_, fun b hb => ⟨(h3 b hb).1, by have := (h3 b hb).2; have := k.1; omega⟩, h4⟩
  have hm := rvB_mem (List.mem_of_getElem? hq)
  exact (h2 j t q ht hq).only k (fun hc => hr _ hc hm.1) (fun hc => hr _ hc hm.2) (fun b hb => by rcases hF b hb with z | z; exact .inl (List.mem_append_left _ z); exact .inr z)
theorem TSt.more {base lo F F' G ts rvs} (h : TSt base lo F G ts rvs) (hF : ∀ b ∈ F', b ∈ F ∨ G.n ≤ b) : TSt base lo F' G ts rvs :=
  ⟨h.1, fun j t q ht hq => (h.2.1 j t q ht hq).more (fun b hb => by
    rcases List.mem_append.1 hb with z | z
    · rcases hF b z with u | u
      · exact .inl (List.mem_append_left _ u)
      · exact .inr u
    · exact .inl (List.mem_append_right _ z)), h.2.2.1, h.2.2.2⟩
theorem K_irunWorld_l0 {w : Wd} (hw : smW w) {vt b1 b2 b3 b4 n5 : AV} {P3 P5 P6 P7 P8 base lo : Nat} {F : List Nat} {Q : Out → Env → AH → Prop} {okw : Nat → Prop} (hok : ∀ b, okw b → b < lo ∧ b ≠ P8 ∧ b ∉ F) (hF : ∀ b ∈ F, b < lo ∧ b ≠ P8) (h8 : P8 < lo) (h3 : P3 < lo ∧ P3 ≠ P8) (hbl : base ≤ lo)
    (m i : Nat) (hm : i + m = w.tasks.length) {G : AH} {g : AV} {B : Nat} {rvs : List RV} (hlo : lo ≤ G.n) (gP : G.bk P3 = some ⟨[vt, b1, b2, b3, b4], true⟩) (hv : TV okw G vt w.tasks) (g8 : G.bk P8 = some ⟨[g], true⟩)
    (hg : GrS lo G g i 1 (rvs.map fun q => .ptr q.1 0) B) (hgr : ∀ b ∈ grB g B, b ∉ rvB rvs) (ht : TSt base lo (P8 :: (grB g B ++ F)) G (w.tasks.take i) rvs)
    (hQ : ∀ e G' g' B' rvs', GrS lo G' g' w.tasks.length 1 (rvs'.map fun q => .ptr q.1 0) B' → G'.bk P8 = some ⟨[g'], true⟩ → (∀ b ∈ grB g' B', b ∉ rvB rvs') → TSt base lo (P8 :: (grB g' B' ++ F)) G' w.tasks rvs' → (∀ b, b < lo → b ≠ P8 → G'.bk b = G.bk b) → G.n ≤ G'.n →
      get e 1 = some n5 → get e 3 = some (.ptr P3 0) → get e 5 = some (.ptr P5 0) → get e 6 = some (.ptr P6 0) → get e 7 = some (.ptr P7 0) → get e 8 = some (.ptr P8 0) → Q (.brk 0) e G') :
    W Cd (.loop c_irunWorld_l0) [(1, n5), (3, .ptr P3 0), (5, .ptr P5 0), (6, .ptr P6 0), (7, .ptr P7 0), (8, .ptr P8 0), (21, vt), (22, .I w.tasks.length), (23, .I i)] G Q := by
  have hbig := hv.big
  have hl3 : w.tasks.length ≤ 3 := (vaWd_iff.1 hw.1).1.2.1
  induction m generalizing i G g B rvs with
  | zero =>
    rw [W_loop_as c_irunWorld_l0.eq_1]
    have : i = w.tasks.length := by omega
    subst this
    simp
    rw [List.take_length] at ht
    exact hQ _ G g B rvs hg g8 hgr ht (fun _ _ _ => rfl) (Nat.le_refl _) rfl rfl rfl rfl rfl rfl
  | succ m ih =>
    rw [W_loop_as c_irunWorld_l0.eq_1]
    have hlt : i < w.tasks.length := by omega
    have hlt' : (i : Int) < w.tasks.length := by omega
    obtain ⟨t, htt⟩ : ∃ t, w.tasks[i]? = some t := ⟨_, List.getElem?_eq_getElem hlt⟩
    obtain ⟨b, o, cap, vv, vr, e1, ob, hbn, l1, i1, s1⟩ := hv.at htt
    obtain ⟨u1, u2, u3, u4, u5⟩ := hw.task (List.mem_of_getElem? htt)
    have hv' := hv
    subst e1
    have x0 := Ext.push G [vv, vr]
    have q8 := (x0.2 P8 (by omega)).trans g8
    have hne8 : ¬ P8 = G.n := by omega
    have st0 : (G.push [.nils, .nils]).store G.n 0 [vv, vr] = some (G.push [vv, vr]) := store_push2e
    simp (disch := omega) [hlt', l1, st0, load_bk q8, loadN_push]
    refine K_inewRunning2 (ok := fun b => okw b) ⟨vv, vr, rfl, i1.ext x0, s1.ext x0⟩ u5 fun R vv' V p H1 gR gv hp hV1 hVR hR x1 => ?_
    have n1 := x1.1
    simp only [push_n] at n1 hV1
    have x2 := (x0.trans x1).trans (Ext.push H1 [.ptr R 0])
    obtain ⟨g', G', B', a1, a2, a3, a4⟩ := (hg.ext x2).app (by simp; omega) (k := 1) (new := [.ptr R 0]) rfl (by omega)
    have n4 := a4.1
    simp only [push_n] at n4
    have hgm : ∀ b, b ∈ grB g B → b = B ∧ lo ≤ B ∧ B < G.n := fun b hb => hg.mem hb
    have g8' : G'.bk P8 = some ⟨[g], true⟩ := (a4.2 P8 (by simp; omega) (fun hm => by have := hgm _ hm; omega)).trans ((x2.2 P8 (by omega)).trans g8)
    have f := a2.flat
    have st := store_cell (v := g') g8' (o := 0) (by simp)
    simp only [List.set_cons_zero] at st
    have hB' : B' = B ∧ B ∈ grB g B ∨ B' = H1.n + 1 := by
      rcases a3 with q | q
      · exact .inl q
      · exact .inr (by rw [q]; simp)
    have hB8 : B' ≠ P8 := by
      rcases hB' with q | q
      · have := hgm _ q.2; omega
      · omega
    have hgr' : ∀ b ∈ grB g' B', b ∈ grB g B ∨ b = H1.n + 1 := fun b hb => by
      have := grB_sub hb
      rcases hB' with q | q
      · exact .inl (by rw [this, q.1]; exact q.2)
      · exact .inr (by rw [this, q])
    have rt : RunT base (P8 :: (grB g B ++ F) ++ rvB (rvs ++ [(R, vv', V, p)])) H1 R vv' V p t := by
      refine ⟨gR, hR, by omega, gv.up (by simp; omega), by omega, by omega, by omega, hp.mono (Nat.le_refl _) (fun _ _ _ => rfl) (fun b hb hbn => ⟨hb.2.2, hb.2.1, fun hm => ?_⟩)⟩
      rw [rvB_app] at hm
      simp only [List.cons_append, List.mem_cons, List.mem_append] at hm
      rcases hb.1 with ⟨z1, z2⟩ | z1
      · have z3 := hok b z1
        rcases hm with q | (q | q) | q | q
        · exact z3.2.1 q
        · have := hgm _ q; omega
        · exact z3.2.2 q
        · have := (ht.2.2.1 b q).1; omega
        · simp [rvB] at q; omega
      · simp only [push_n] at z1
        rcases hm with q | (q | q) | q | q
        · omega
        · have := hgm _ q; omega
        · have := hF b q; omega
        · have := (ht.2.2.1 b q).2; omega
        · simp [rvB] at q
          rcases q with q | q
          · exact hb.2.2 q
          · exact hb.2.1 q
    have hil : (w.tasks.take i).length = i := by simp; omega
    have hrl : rvs.length = i := by rw [ht.1, hil]
    have t1 : TSt base lo (P8 :: (grB g B ++ F)) H1 (w.tasks.take (i + 1)) (rvs ++ [(R, vv', V, p)]) := by
      have ht1 := ht.only (cs := []) (G' := H1) ((x0.trans x1).only) (by simp) (by simp)
      rw [take_snoc htt]
      have key : ∀ (j : Nat) (q : RV), (rvs ++ [(R, vv', V, p)])[j]? = some q → (j < i ∧ rvs[j]? = some q) ∨ (j = i ∧ q = (R, vv', V, p)) := fun j q hq => by
        by_cases hj : j < i
        · rw [List.getElem?_append_left (by omega)] at hq; exact .inl ⟨hj, hq⟩
        · have := (List.getElem?_eq_some_iff.1 hq).1
          rw [List.length_append, hrl, List.length_singleton] at this
          have hj' : j = i := by omega
          subst hj'
          rw [List.getElem?_append_right (by omega), hrl, Nat.sub_self] at hq
          simp at hq
          exact .inr ⟨rfl, hq.symm⟩
      have old : ∀ b ∈ rvB rvs, b < G.n := fun b hb => (ht.2.2.1 b hb).2
      refine ⟨by simp [hrl]; omega, fun j y q hy hq => ?_, fun b hb => ?_, fun j j' q q' hjj hq hq' => ?_⟩
      · rcases key j q hq with ⟨z1, z2⟩ | ⟨z1, rfl⟩
        · rw [List.getElem?_append_left (by omega)] at hy
          refine (ht.only (cs := []) (G' := G) Only.refl (by simp) (by simp)).2.1 j y q hy z2 |>.more (M' := P8 :: (grB g B ++ F) ++ rvB (rvs ++ [(R, vv', V, p)])) (fun b hb => ?_) |>.only (cs := []) (x0.trans x1).only (by simp) (by simp) (by simp)
          rw [rvB_app] at hb
          simp only [List.cons_append, List.mem_cons, List.mem_append] at hb ⊢
          rcases hb with u | (u | u) | u | u
          · exact .inl (.inl u)
          · exact .inl (.inr (.inl (.inl u)))
          · exact .inl (.inr (.inl (.inr u)))
          · exact .inl (.inr (.inr u))
          · simp [rvB] at u; exact .inr (by omega)
        · subst z1
          rw [List.getElem?_append_right (by omega), hil, Nat.sub_self] at hy
          simp at hy
          subst hy
          exact rt
      · rw [rvB_app] at hb
        rcases List.mem_append.1 hb with z | z
        · have := ht.2.2.1 b z; omega
        · simp [rvB] at z; omega
      · rcases key j q hq with ⟨z1, z2⟩ | ⟨z1, rfl⟩ <;> rcases key j' q' hq' with ⟨y1, y2⟩ | ⟨y1, rfl⟩
        · exact ht.2.2.2 j j' q q' hjj z2 y2
        · have m1 := rvB_mem (List.mem_of_getElem? z2)
          have := old _ m1.1; have := old _ m1.2
          simp only; omega
        · have m1 := rvB_mem (List.mem_of_getElem? y2)
          have := old _ m1.1; have := old _ m1.2
          simp only; omega
        · omega
    have t2 : TSt base lo (P8 :: (grB g' B' ++ F)) (G'.put P8 (some ⟨[g'], true⟩)) (w.tasks.take (i + 1)) (rvs ++ [(R, vv', V, p)]) := by
      have s1 := (t1.more (F' := P8 :: (grB g B ++ (grB g' B' ++ F))) (fun b hb => by
        simp only [List.mem_cons, List.mem_append] at hb ⊢
        rcases hb with q | q | q | q
        · exact .inl (.inl q)
        · exact .inl (.inr (.inl q))
        · rcases hgr' b q with z | z
          · exact .inl (.inr (.inl z))
          · exact .inr (by omega)
        · exact .inl (.inr (.inr q)))).only (cs := []) (G' := H1.push [.ptr R 0]) (Ext.push _ _).only (by simp) (by simp)
      have rvlo : ∀ b ∈ rvB (rvs ++ [(R, vv', V, p)]), b ∈ rvB rvs ∨ (G.n ≤ b ∧ b < H1.n) := fun b hb => by
        rw [rvB_app] at hb
        rcases List.mem_append.1 hb with z | z
        · exact .inl z
        · simp [rvB] at z; exact .inr (by omega)
      have s2 := s1.only a4 (fun b hb => .inl (by simp [hb])) (fun b hb hm => by
        rcases rvlo b hm with z | z
        · exact hgr b hb z
        · have := hgm b hb; omega)
      have s3 := s2.only (cs := [P8]) (G' := G'.put P8 (some ⟨[g'], true⟩)) (Only.refl.put (by simp)) (fun b hb => .inl (by simp at hb; simp [hb])) (fun b hb hm => by
        simp at hb
        have := (t1.2.2.1 b hm).1; omega)
      exact s3.more (fun b hb => .inl (by
        simp only [List.mem_cons, List.mem_append] at hb ⊢
        rcases hb with q | q | q
        · exact .inl q
        · exact .inr (.inr (.inl q))
        · exact .inr (.inr (.inr q))))
    have gg : ∀ b, b < lo → b ≠ P8 → (G'.put P8 (some ⟨[g'], true⟩)).bk b = G.bk b := fun b hb h2 => by
      rw [put_bk, if_neg h2, a4.2 b (by simp; omega) (fun hm => by have := hgm _ hm; omega), x2.2 b (by omega)]
    simp (disch := omega) [AM.elems, x1, loadN_push, a1, flat_cells f, flat_tup f, st]
    have := ih (i + 1) (by omega) (G := G'.put P8 (some ⟨[g'], true⟩)) (g := g') (B := B') (rvs := rvs ++ [(R, vv', V, p)]) (by simp; omega)
      ((gg P3 h3.1 h3.2).trans gP) (hv'.mono (by simp; omega) (fun b hb _ => gg b (hok b hb).1 (hok b hb).2.1) (fun _ h _ => h)) put_same
      (by rw [List.map_append]; exact a2.only (bs := [P8]) (Only.refl.put (by simp)) (fun b hb => .inr (by simp at hb; rw [hb]; exact Ne.symm hB8)))
      (fun b hb hm => by
        rw [rvB_app] at hm
        rcases hgr' b hb with z | z
        · rcases List.mem_append.1 hm with y | y
          · exact hgr b z y
          · have := hgm b z; simp [rvB] at y; omega
        · rcases List.mem_append.1 hm with y | y
          · have := (ht.2.2.1 b y).2; omega
          · simp [rvB] at y; omega) t2
      (fun e G2 g2 B2 rvs2 z1 z2 z3 z4 z5 z6 y1 y2 y3 y4 y5 y6 => hQ e G2 g2 B2 rvs2 z1 z2 z3 z4 (fun b hb h2 => (z5 b hb h2).trans (gg b hb h2)) (by simp at z6; omega) y1 y2 y3 y4 y5 y6)
    simpa using this
end Go.Proofs.YtmecbehegmgbhaaGreat.AM
namespace Go.Proofs.YtmecbehegmgbhaaGreat.AM
set_option linter.unusedSimpArgs false
set_option linter.unusedVariables false
set_option maxRecDepth 100000
set_option maxHeartbeats 4000000
open Go
attribute [-simp] AM.elems
theorem K_irunWorld_l1 {ts : List Tk} (hts : ∀ t ∈ ts, vaT 3 t = true ∧ t.rest.list.length ≤ 4000) (hn3 : ts.length ≤ 3) {vts vb vo : AV} {P6 P7 base lo : Nat} {tn jn : Int} {M : List Nat} {rvs : List RV} {Q : Out → Env → AH → Prop} {okv : Nat → Prop} (hokv : ∀ b, okv b → b < lo ∧ b ≠ P7) (h7 : P7 < lo) (h7M : P7 ∈ M)
    (hrl : rvs.length = ts.length) (m i : Nat) (hm : i + m = ts.length) {G : AH} {g : AV} {cs : List AV} {B : Nat} (hlo : lo ≤ G.n) (g7 : G.bk P7 = some ⟨[g, vb, .I tn, .I jn, vo], true⟩) (hv : SlC okv G vts ts.length 1 (rvs.map fun q => .ptr q.1 0))
    (hg : GrS lo G g i 2 cs B) (he : LF 2 (TC (fun b => lo ≤ b ∧ b ≠ B) G) (ts.take i) cs)
    (ht : ∀ (j : Nat) (t : Tk) (q : RV), ts[j]? = some t → rvs[j]? = some q → RunT base (grB g B ++ M) G q.1 q.2.1 q.2.2.1 q.2.2.2 t ∧ (q.1 < lo ∧ q.2.2.1 < lo) ∧ (q.1 ≠ P7 ∧ q.2.2.1 ≠ P7))
    (hQ : ∀ e G' g' cs' B', GrS lo G' g' ts.length 2 cs' B' → LF 2 (TC (fun b => lo ≤ b ∧ b ≠ B') G') ts cs' → G'.bk P7 = some ⟨[g', vb, .I tn, .I jn, vo], true⟩ → (∀ b, b < lo → b ≠ P7 → G'.bk b = G.bk b) → G.n ≤ G'.n → get e 6 = some (.ptr P6 0) → get e 7 = some (.ptr P7 0) → Q (.brk 2) e G') :
    W Cd (.loop c_irunWorld_l1) [(6, .ptr P6 0), (7, .ptr P7 0), (48, vts), (49, .I ts.length), (50, .I i)] G Q := by
  induction m generalizing i G g cs B with
  | zero =>
    rw [W_loop_as c_irunWorld_l1.eq_1]
    have : i = ts.length := by omega
    subst this
    simp
    rw [List.take_length] at he
    exact hQ _ G g cs B hg he g7 (fun _ _ _ => rfl) (Nat.le_refl _) rfl rfl
  | succ m ih =>
    rw [W_loop_as c_irunWorld_l1.eq_1]
    have hlt : i < ts.length := by omega
    have hlt' : (i : Int) < ts.length := by omega
    obtain ⟨t, htt⟩ : ∃ t, ts[i]? = some t := ⟨_, List.getElem?_eq_getElem hlt⟩
    obtain ⟨⟨R, vv, V, p⟩, hq⟩ : ∃ q, rvs[i]? = some q := ⟨_, List.getElem?_eq_getElem (by omega)⟩
    obtain ⟨rt, ⟨Rl, Vl⟩, ⟨R7, V7⟩⟩ := ht i t _ htt hq
    simp only at rt Rl Vl R7 V7
    obtain ⟨hva, hlen⟩ := hts t (List.mem_of_getElem? htt)
    obtain ⟨f1, f2, f3, f4⟩ := vaT_facts hva
    obtain ⟨b, o, cap, ev, okb, hbn, hsl⟩ := hv.at (i := i) (by omega)
    have lp : G.load b (o + i) = some (.ptr R 0) := by
      have hh := hsl i 1 (by omega)
      have h2 : seg (rvs.map fun q => AV.ptr q.1 0) i 1 = some [.ptr R 0] := by
        unfold seg
        rw [if_pos (by simp; omega)]
        congr 1
        exact take_one (by rw [List.getElem?_map, hq]; rfl)
      rw [h2] at hh
      have := loadN_get hh (i := 0) (by omega)
      simpa using this
    have hv' := hv
    subst ev
    simp (disch := omega) [hlt', lp, load_bk g7]
    obtain ⟨t1, t2, t3, t4, t5, t6, t7, t8⟩ := rt
    refine K_irunning_task t1 t2 t4.iv.src (by omega) t8 (fun s hs => ⟨by rw [cpS_mem] at f4; exact List.all_eq_true.1 f4 s hs, by have := (f3 s hs).2; omega⟩) (by omega) fun c' H1 tc x1 => ?_
    have n1 := x1.1
    rw [Sts.of_list] at tc
    obtain ⟨cv, cr, rfl, j1, j2⟩ := id tc
    have x2 := x1.trans (Ext.push H1 [cv, cr])
    obtain ⟨g', G', B', a1, a2, a3, a4, a5, a6⟩ := LF.snoc2 (E := TC) (x := t) (fun h => h.mono) htt hg he (by omega) hlo x2 (c := [cv, cr]) rfl (tc.ext (Ext.push H1 _)) (by omega)
    have hgm : ∀ b, b ∈ grB g B → b = B ∧ lo ≤ B ∧ B < G.n := fun b hb => hg.mem hb
    have g7' : G'.bk P7 = some ⟨[g, vb, .I tn, .I jn, vo], true⟩ := (a4.2 P7 (by simp; omega) (fun hm => by have := hgm _ hm; omega)).trans ((x2.2 P7 (by omega)).trans g7)
    have hfl : cv.flat = true ∧ cr.flat = true := ⟨SlC.flat j1, j2.flat⟩
    have st := store_cell (v := g') g7' (o := 0) (by simp)
    simp only [List.set_cons_zero] at st
    have hB' : B' = B ∧ B ∈ grB g B ∨ B' = H1.n + 1 := by
      rcases a5 with q | q
      · exact .inl q
      · exact .inr (by rw [q]; simp)
    have hB7 : B' ≠ P7 := by
      rcases hB' with q | q
      · have := hgm _ q.2; omega
      · omega
    have hgr' : ∀ b ∈ grB g' B', b ∈ grB g B ∨ b = H1.n + 1 := fun b hb => by
      have := grB_sub hb
      rcases hB' with q | q
      · exact .inl (by rw [this, q.1]; exact q.2)
      · exact .inr (by rw [this, q])
    have n4 := a4.1
    simp only [push_n] at n4
    have gg : ∀ b, b < G.n → b ∉ grB g B → b ≠ P7 → (G'.put P7 (some ⟨[g', vb, .I tn, .I jn, vo], true⟩)).bk b = G.bk b := fun b hb h1 h2 => by
      rw [put_bk, if_neg h2, a4.2 b (by simp; omega) h1, x2.2 b hb]
    have glo : ∀ b, b < lo → b ∉ grB g B := fun b hb hm => by have := hgm b hm; omega
    have wall : Only (P7 :: grB g B) G (G'.put P7 (some ⟨[g', vb, .I tn, .I jn, vo], true⟩)) := ⟨by simp; omega, fun b hb hm => by
      simp at hm; exact gg b hb hm.2 hm.1⟩
    simp (disch := omega) [AM.elems, x1, loadN_push, a1, flat_cells a6, flat_tup a6, st]
    have := ih (i + 1) (by omega) (G := G'.put P7 (some ⟨[g', vb, .I tn, .I jn, vo], true⟩)) (g := g') (cs := cs ++ [cv, cr]) (B := B') (by simp; omega) put_same
      (hv'.mono (by simp; omega) (fun b hb hn => gg b hn (glo b (hokv b hb).1) (hokv b hb).2) (fun _ h _ => h))
      (a2.only (bs := [P7]) (Only.refl.put (by simp)) (fun b hb => .inr (by simp at hb; subst hb; exact Ne.symm hB7)))
      (a3.imp fun c a h => h.mono (by simp) (fun b hb _ => by rw [put_bk, if_neg (by omega)]) (fun _ h _ => h))
      (fun j y q hy hq' => by
        obtain ⟨r1, ⟨r2, r3⟩, ⟨r4, r5⟩⟩ := ht j y q hy hq'
        refine ⟨?_, ⟨r2, r3⟩, ⟨r4, r5⟩⟩
        have s1 : RunT base (grB g B ++ (grB g' B' ++ M)) G q.1 q.2.1 q.2.2.1 q.2.2.2 y := r1.more (fun b hb => by
          simp only [List.mem_append] at hb ⊢
          rcases hb with z | z | z
          · exact .inl (.inl z)
          · rcases hgr' b z with u | u
            · exact .inl (.inl u)
            · exact .inr (by omega)
          · exact .inl (.inr z))
        have s2 := s1.only wall (by simp; exact ⟨r4, glo _ r2⟩) (by simp; exact ⟨r5, glo _ r3⟩) (fun b hb => .inl (by
          simp at hb
          rcases hb with z | z
          · subst z; simp [h7M]
          · simp [z]))
        exact s2.more (fun b hb => .inl (List.mem_append_right _ hb)))
      (fun e G2 g2 cs2 B2 z1 z2 z3 z4 z5 z6 z7 => hQ e G2 g2 cs2 B2 z1 z2 z3 (fun b hb h2 => (z4 b hb h2).trans (gg b (by omega) (glo b hb) h2)) (by simp at z5; omega) z6 z7)
    simpa using this
def trV (tr : Option Nat) : AV := match tr with | none => .nilf | some PU => .fn f_iWorldTrace_1 [] [.ptr PU 0]
def trBk (tr : Option Nat) : List Nat := match tr with | none => [] | some PU => [PU]
def trIn (tr : Option Nat) (H : AH) : Prop := match tr with | none => True | some PU => PU < H.n ∧ H.bk PU = some ⟨[.nils], true⟩
def trOut (tr : Option Nat) (base : Nat) (H : AH) (evs : List Evt) : Prop := match tr with | none => True | some PU => ∃ ve OE, H.bk PU = some ⟨[ve], true⟩ ∧ GrS base H ve evs.length 4 (evCs evs) OE
theorem K_irunWorld {ok : Nat → Prop} {H : AH} {K : AV → AH → Prop} {wf : Fk K} {c : List AV} {w : Wd} {n : Nat} (tr : Option Nat) (h : WC ok H c w) (hok : ∀ b, ok b → b ∉ trBk tr) (hv : vaWd w = true) (hbo : boW w n) (hn : n ≤ 100000) (hol : w.out.length + n ≤ 800000) (htr : trIn tr H)
    (k : ∀ c' H', WC (fun b => H.n ≤ b) H' c' (runW n w) → Only (trBk tr) H H' → trOut tr H.n H' (trW n w) → K (.agg c') H') : CallF Cd f_irunWorld [.agg c, .I n, trV tr] H K wf := by
  have hw := hbo.sm hv
  obtain ⟨vt, vb, vo, rfl, h1, h2, h3⟩ := h
  rw [CallF_eq e_irunWorld rfl]
  obtain ⟨g1, g2, g3, g4⟩ := vaWd_iff.1 hv
  have hb3 := vaBs_facts g3
  have fl : (trV tr).flat = true := by cases tr <;> rfl
  have x0 := ((Ext.push H [vt, vb, .I w.turn, .I w.idle, vo]).trans (Ext.push _ [trV tr])).trans (Ext.push _ [.nils, .nils, .I 0, .I 0, .nils])
  have q3 : (((H.push [vt, vb, .I w.turn, .I w.idle, vo]).push [trV tr]).push [.nils, .nils, .I 0, .I 0, .nils]).bk H.n = some ⟨[vt, vb, .I w.turn, .I w.idle, vo], true⟩ := push_old (by simp <;> omega) (push_old (by simp) push_new)
  have q5 : (((H.push [vt, vb, .I w.turn, .I w.idle, vo]).push [trV tr]).push [.nils, .nils, .I 0, .I 0, .nils]).bk (H.n + 1) = some ⟨[trV tr], true⟩ := push_old (by simp) push_new
  simp [flat_cells fl, flat_tup fl, load_bk q3]
  refine R_iboxesCopy (h2.ext x0) (by omega) (fun x hx => by have := hb3.2 x hx; omega) fun vb' B rs H1 rb x1 => ?_
  have n1 := x1.1
  simp only [push_n] at n1
  have q31 := (x1.2 H.n (by simp; omega)).trans q3
  have y1 := x0.trans x1
  simp [flat_cells fl, x1, load_bk q31]
  refine K_cloneG (h3.ext y1).src (by omega) fun vo' H2 O og x2 => ?_
  have n2 := x2.1
  have of := og.flat
  have bf := rb.2.1.flat
  have x3 := (Ext.push H2 [.nils, vb', .I 0, .I 0, vo']).trans (Ext.push _ [.nils])
  have y3 := (y1.trans x2).trans x3
  have q33 := (x3.2 H.n (by omega)).trans ((x2.2 _ (by omega)).trans q31)
  have q7 : ((H2.push [.nils, vb', .I 0, .I 0, vo']).push [.nils]).bk H2.n = some ⟨[.nils, vb', .I 0, .I 0, vo'], true⟩ := push_old (by simp) push_new
  simp [flat_cells fl, x2, flat_cells of, flat_tup of, flat_cells bf, flat_tup bf, store_push5e, load_bk q33, h1.alen]
  have hfp : ∀ b ∈ fpB B rs, H.n + 3 ≤ b ∧ b < H1.n := fun b hb => by have := rb.mem' hb; simp at this; omega
  have hO : ∀ b ∈ grB vo' O, H1.n ≤ b ∧ b < H2.n := fun b hb => by have := og.mem hb; omega
  have hPU : ∀ b ∈ trBk tr, b < H.n := fun b hb => by
    cases tr with
    | none => simp [trBk] at hb
    | some PU => simp [trBk] at hb; subst hb; exact htr.1
  refine ?_
  have := K_irunWorld_l0 hw (vt := vt) (b1 := vb) (b2 := .I w.turn) (b3 := .I w.idle) (b4 := vo) (n5 := .I n) (P3 := H.n) (P5 := H.n + 1) (P6 := H.n + 2) (P7 := H2.n) (P8 := H2.n + 1) (base := H.n) (lo := H2.n + 2) (F := H2.n :: (grB vo' O ++ (fpB B rs ++ trBk tr))) (okw := fun b => ok b ∧ b < H.n)
    (fun b hb => ⟨by omega, by omega, fun hm => by
      simp only [List.mem_cons, List.mem_append] at hm
      rcases hm with q | q | q | q
      · omega
      · have := hO b q; omega
      · have := hfp b q; omega
      · exact hok b hb.1 q⟩)
    (fun b hb => by
      simp only [List.mem_cons, List.mem_append] at hb
      rcases hb with q | q | q | q
      · omega
      · have := hO b q; omega
      · have := hfp b q; omega
      · have := hPU b q; omega) (by omega) (by omega) (by omega) w.tasks.length 0 (by omega)
    (G := (H2.push [.nils, vb', .I 0, .I 0, vo']).push [.nils]) (g := .nils) (B := H2.n + 1) (rvs := []) (by simp) q33 (h1.mono (by simp; omega) (fun b _ hb => y3.2 b hb) (fun b hb hn => ⟨hb, hn⟩)) push_new GrS.nils (by simp [grB]) ⟨by simp, by simp, by simp [rvB], by simp⟩ (Q := ?_) ?_
  · simpa using this
  · intro e G g B8 rvs gg g8 hgr ts hk hGn e1 e3 e5 e6 e7 e8
    simp only [push_n] at hGn
    have keep : ∀ b, b < H2.n + 1 → G.bk b = ((H2.push [.nils, vb', .I 0, .I 0, vo']).push [.nils]).bk b := fun b hb => hk b (by omega) (by omega)
    have q3G := (keep H.n (by omega)).trans q33
    have q7G := (keep H2.n (by omega)).trans q7
    have q5G : G.bk (H.n + 1) = some ⟨[trV tr], true⟩ := (keep _ (by omega)).trans ((x3.2 _ (by omega)).trans ((x2.2 _ (by omega)).trans ((x1.2 _ (by simp)).trans q5)))
    have q6G : G.bk (H.n + 2) = some ⟨[.nils, .nils, .I 0, .I 0, .nils], true⟩ := (keep _ (by omega)).trans ((x3.2 _ (by omega)).trans ((x2.2 _ (by omega)).trans ((x1.2 _ (by simp)).trans push_new)))
    have hga : alen g = some w.tasks.length := gg.alen
    simp [e1, e3, e5, e6, e7, e8, load_bk g8, hga, load_bk q3G]
    have hgB : ∀ b ∈ grB g B8, H2.n + 2 ≤ b ∧ b < G.n := fun b hb => by have := gg.mem hb; omega
    have trS : ∃ ve OE, ObT H.n (H.n + 1) tr G [] ve OE ∧ trB tr ve OE = trBk tr := by
      cases tr with
      | none => exact ⟨.nils, 0, q5G, rfl⟩
      | some PU =>
        obtain ⟨z1, z2⟩ := htr
        have zk : G.bk PU = some ⟨[.nils], true⟩ := (keep PU (by omega)).trans ((y3.2 PU z1).trans z2)
        exact ⟨.nils, 0, ⟨q5G, by omega, zk, GrS.nils⟩, rfl⟩
    obtain ⟨ve, OE, ot, otb⟩ := trS
    have obe : obB H2.n tr vo' O ve OE = H2.n :: (grB vo' O ++ trBk tr) := by unfold obB; rw [otb]
    have rbG : RB H.n G vb' w.boxes B rs := ((rb.up (by simp; omega)).onlyA (cs := []) (H' := H2) x2.only (by simp)).onlyA (cs := []) (H' := G) ⟨by omega, fun b hb _ => (keep b (by omega)).trans (x3.2 b hb)⟩ (by simp)
    have ogG : GrS H.n G vo' w.out.length 1 (Ints w.out) O := (og.up (by omega)).onlyB (bs := []) ⟨by omega, fun b hb _ => (keep b (by omega)).trans (x3.2 b hb)⟩ (by simp)
    have nd : (obB H2.n tr vo' O ve OE).Nodup := by
      rw [obe]
      simp only [List.nodup_cons, List.mem_append, not_or, List.nodup_append]
      refine ⟨⟨fun hm => by have := hO _ hm; omega, fun hm => by have := hPU _ hm; omega⟩, by cases vo' <;> simp [grB], by cases tr <;> simp [trBk], fun a ha b hb e => ?_⟩
      subst e
      have := hO _ ha; have := hPU _ hb; omega
    have S0 : RunW (H.n + 3) (trBk tr) G H.n (H2.n + 1) H2.n (H.n + 1) tr w.tasks.length g n (w.tasks, w.boxes, w.out, []) G := by
      refine ⟨H2.n :: (grB vo' O ++ (fpB B rs ++ trBk tr)) ++ rvB rvs, rvs, rs, B, vb', vo', O, ve, OE, ⟨g8, by omega, fun hm => ?_, ?_, ts.1, rfl⟩, ⟨⟨q7G, by omega, by omega, ogG, ot⟩, nd, fun b hb => ?_, fun hm => ?_⟩, ⟨rbG, fun b hb => by simp [hb], fun b hb hm => ?_⟩,
        fun i t q ht hq => ?_, ts.2.2.2, ⟨fun b hb => ?_, by omega, ⟨g1.2.1, g4, g3⟩, by simp; omega, by simp; omega⟩, ⟨fun b hb => ?_, by omega, fun _ _ _ => rfl⟩⟩
      · simp only [List.cons_append, List.mem_cons, List.mem_append] at hm
        rcases hm with q | (q | q | q) | q
        · omega
        · have := hO _ q; omega
        · have := hfp _ q; omega
        · have := hPU _ q; omega
        · have := (ts.2.2.1 _ q).1; omega
      · have hB8 : B8 ∈ grB g B8 := by
          rcases gg.2.2 with q | ⟨_, _, ⟨q, _⟩ | ⟨_, _, q, _⟩⟩
          · omega
          · rw [q]; simp [grB]
          · rw [q]; simp [grB]
        refine gg.ivB (fun hb1 hb2 hm => ?_)
        simp only [List.cons_append, List.mem_cons, List.mem_append] at hm
        rcases hm with q | (q | q | q) | q
        · omega
        · have := hO _ q; omega
        · have := hfp _ q; omega
        · have := hPU _ q; omega
        · exact hgr _ hB8 q
      · rw [obe] at hb; simp at hb ⊢
        rcases hb with q | q | q <;> simp [q]
      · simp only [List.cons_append, List.mem_cons, List.mem_append] at hm
        rcases hm with q | (q | q | q) | q
        · omega
        · have := hO _ q; omega
        · have := hfp _ q; omega
        · have := hPU _ q; omega
        · have := (ts.2.2.1 _ q).1; omega
      · rw [obe] at hb
        simp only [List.mem_cons, List.mem_append] at hb
        have := hfp b hm
        rcases hb with q | q | q
        · omega
        · have := hO _ q; omega
        · have := hPU _ q; omega
      · have hm := rvB_mem (List.mem_of_getElem? hq)
        have l1 := ts.2.2.1 _ hm.1
        have l2 := ts.2.2.1 _ hm.2
        refine ⟨(ts.2.1 i t q ht hq).more (fun b hb => .inl ?_), ⟨by simp [hm.1], by simp [hm.2]⟩, ⟨fun hc => by have := hfp _ hc; omega, fun hc => by have := hfp _ hc; omega⟩, ⟨fun hc => ?_, fun hc => ?_⟩⟩
        · simp only [List.cons_append, List.mem_cons, List.mem_append] at hb ⊢
          rcases hb with q | (q | q | q) | q
          · exact .inr (.inl (.inr (.inl q)))
          · exact .inr (.inl (.inr (.inr (.inl q))))
          · exact .inr (.inl (.inr (.inr (.inr (.inl q)))))
          · exact .inr (.inl (.inr (.inr (.inr (.inr q)))))
          · exact .inr (.inr q)
        · rw [obe] at hc
          simp only [List.mem_cons, List.mem_append] at hc
          rcases hc with q | q | q
          · omega
          · have := hO _ q; omega
          · have := hPU _ q; omega
        · rw [obe] at hc
          simp only [List.mem_cons, List.mem_append] at hc
          rcases hc with q | q | q
          · omega
          · have := hO _ q; omega
          · have := hPU _ q; omega
      · simp only [List.cons_append, List.mem_cons, List.mem_append] at hb
        rcases hb with q | (q | q | q) | q
        · omega
        · have := hO _ q; omega
        · have := hfp _ q; omega
        · have := hPU _ q; omega
        · exact (ts.2.2.1 _ q).2
      · simp only [List.cons_append, List.mem_cons, List.mem_append] at hb
        rcases hb with q | (q | q | q) | q
        · exact .inl (by omega)
        · have := hO _ q; exact .inl (by omega)
        · have := hfp _ q; exact .inl (by omega)
        · exact .inr q
        · have := (ts.2.2.1 _ q).1; exact .inl (by omega)
    refine K_itakeTurns (σ := WSt) (many := w.tasks.length) ⟨by omega, by omega⟩ (fun m s H' => RunW (H.n + 3) (trBk tr) G H.n (H2.n + 1) H2.n (H.n + 1) tr w.tasks.length g m s H') nxW cdW
      (fun m s t H' K' w' hS ht kk => runW_step hS ht kk) (fun m s t H' hS ht => runW_code hS ht) (n := n) (by omega) S0 ⟨g1.2.2.1, g1.2.2.2.1⟩ ⟨g1.2.2.2.2.1, g1.2.2.2.2.2⟩ fun m' H3 hS => ?_
    rw [turns_run n hv] at hS ⊢
    obtain ⟨kv, kl, kb, kr, ⟨kp, ko, kpl⟩, ku⟩ := runW_keeps n hv
    have ku4 := ku 4000 (fun t ht => (hbo.1 t ht).2)
    generalize hW : runW n w = W at *
    obtain ⟨M, rvs', rs', B', vb2, vo2, O2, ve2, OE2, ⟨p8, p8n, p8M, psl, prl, _⟩, ⟨⟨o7, o7n, o5n, oo, oT⟩, ond, oM, o5M⟩, ⟨prb, pfM, pof⟩, pts, pdis, ⟨pM, pbn, ⟨_, pva, pvb⟩, _, _⟩, ⟨pX, pln, pf⟩⟩ := hS
    simp only [List.nil_append] at o7 oo oT prb pts pva pvb
    have h7o : H2.n ∈ obB H2.n tr vo2 O2 ve2 OE2 := by simp [obB]
    have h7M := oM _ h7o
    have st1 := store_cell (v := AV.I W.turn) o7 (o := 2) (by simp)
    simp only [List.set_cons_succ, List.set_cons_zero] at st1
    have st2 := store_cell (H := H3.put H2.n (some ⟨[.nils, vb2, .I W.turn, .I 0, vo2], true⟩)) (v := AV.I W.idle) put_same (o := 3) (by simp)
    simp only [List.set_cons_succ, List.set_cons_zero] at st2
    have h78 : ¬ H2.n + 1 = H2.n := by omega
    have p8' : ((H3.put H2.n (some ⟨[.nils, vb2, .I W.turn, .I 0, vo2], true⟩)).put H2.n (some ⟨[.nils, vb2, .I W.turn, .I W.idle, vo2], true⟩)).bk (H2.n + 1) = some ⟨[g], true⟩ := by simp only [put_bk, if_neg h78]; exact p8
    have w7 : Only [H2.n] H3 ((H3.put H2.n (some ⟨[.nils, vb2, .I W.turn, .I 0, vo2], true⟩)).put H2.n (some ⟨[.nils, vb2, .I W.turn, .I W.idle, vo2], true⟩)) := (Only.refl.put (by simp)).put (by simp)
    simp [st1, st2, load_bk p8', hga]
    have htl : W.tasks.length = w.tasks.length := kl
    have := K_irunWorld_l1 (ts := W.tasks) (fun t ht => ⟨vaT_boxes (b := 3) (by have := (vaBs_facts pvb).1; omega) (pva t ht), Nat.le_trans (len_uL _) (ku4 t ht)⟩) (by omega) (vts := g) (vb := vb2) (vo := vo2) (P6 := H.n + 2) (P7 := H2.n) (base := H.n) (lo := H3.n) (tn := W.turn) (jn := W.idle) (M := M) (rvs := rvs')
      (okv := fun b => b ∉ M ∧ b < H3.n) (fun b hb => ⟨hb.2, fun e => hb.1 (by rw [e]; exact h7M)⟩) o7n h7M (by omega) W.tasks.length 0 (by omega) (G := (H3.put H2.n (some ⟨[.nils, vb2, .I W.turn, .I 0, vo2], true⟩)).put H2.n (some ⟨[.nils, vb2, .I W.turn, .I W.idle, vo2], true⟩)) (g := .nils) (cs := []) (B := H3.n) (by simp) put_same
      (by rw [htl]; exact psl.mono (by simp) (fun b hb hn => w7.2 b hn (by simp; exact fun e => hb (by rw [e]; exact h7M))) (fun b hb hn => ⟨hb, hn⟩)) GrS.nils rfl
      (fun j t q ht hq => by
        obtain ⟨r1, ⟨r2, r3⟩, _, ⟨r4, r5⟩⟩ := pts j t q ht hq
        have e1 : q.1 ≠ H2.n := fun e => r4 (by rw [e]; exact h7o)
        have e2 : q.2.2.1 ≠ H2.n := fun e => r5 (by rw [e]; exact h7o)
        exact ⟨by simpa [grB] using r1.only w7 (by simp; exact e1) (by simp; exact e2) (fun b hb => .inl (by simp at hb; rw [hb]; exact h7M)), ⟨pM _ r2, pM _ r3⟩, ⟨e1, e2⟩⟩) (Q := ?_) ?_
    · rw [htl] at this
      simpa using this
    · intro e G' g' cs' B2 z1 z2 z3 z4 z5 z6 z7
      simp only [put_n] at z5
      have keep2 : ∀ b, b < H3.n → b ≠ H2.n → G'.bk b = H3.bk b := fun b hb hne => (z4 b hb hne).trans (w7.2 b hb (by simpa using hne))
      have hX6 : H.n + 2 ∉ trBk tr := fun hm => by have := hPU _ hm; omega
      have hM6 : H.n + 2 ∉ M := fun hm => by rcases pX _ hm with q | q; omega; exact hX6 q
      have q6F : G'.bk (H.n + 2) = some ⟨[.nils, .nils, .I 0, .I 0, .nils], true⟩ := (keep2 _ (by omega) (by omega)).trans ((pf _ (by omega) hX6).trans q6G)
      have st6 := store_five q6F (l := [g', vb2, .I W.turn, .I W.idle, vo2]) rfl rfl
      simp [z6, z7, loadN_bk z3, st6, loadN_bk put_same]
      have wF : Only [H2.n, H.n + 2] H3 (G'.put (H.n + 2) (some ⟨[g', vb2, .I W.turn, .I W.idle, vo2], true⟩)) := ⟨by simp; omega, fun b hb hm => by
        simp at hm
        rw [put_bk, if_neg hm.2, keep2 b hb hm.1]⟩
      have h7f : H2.n ∉ fpB B' rs' := pof _ h7o
      have h6f : H.n + 2 ∉ fpB B' rs' := fun hm => hM6 (pfM _ hm)
      have hnd2 := ond
      simp only [obB, List.nodup_cons, List.mem_append, not_or, List.nodup_append] at hnd2
      have h6o : H.n + 2 ∉ obB H2.n tr vo2 O2 ve2 OE2 := fun hm => hM6 (oM _ hm)
      simp only [obB, List.mem_cons, List.mem_append, not_or] at h6o
      refine k _ _ ⟨g', vb2, vo2, rfl, ⟨cs', z1.slc.mono (by simp) (fun b hb _ => by rw [put_bk, if_neg (by omega)]) (fun b hb _ => by omega), z2.imp fun c a h => h.mono (by simp) (fun b hb _ => by rw [put_bk, if_neg (by omega)]) (fun b hb _ => by omega)⟩,
        (prb.onlyA wF (fun b hb => .inr (fun hm => by simp at hb; rcases hb with q | q; rw [q] at hm; exact h7f hm; rw [q] at hm; exact h6f hm))).bv,
        (oo.onlyB wF (fun b hb hm => by simp at hb; rcases hb with q | q; rw [q] at hm; exact hnd2.1.1 hm; rw [q] at hm; exact h6o.2.1 hm)).iv⟩ ⟨by simp; omega, fun b hb hm => ?_⟩ ?_
      · rw [wF.2 b (by omega) (by simp; omega), pf b (by omega) hm, keep b (by omega)]
        exact y3.2 b hb
      · cases tr with
        | none => trivial
        | some PU =>
          obtain ⟨t1, t2, t3, t4⟩ := oT
          have hPn : PU < H.n := htr.1
          have hp7 : PU ≠ H2.n := by omega
          refine ⟨ve2, OE2, wF.bk t2 (by simp; omega) t3, t4.onlyB wF (fun b hb hm => ?_)⟩
          simp at hb
          rcases hb with q | q
          · rw [q] at hm; exact hnd2.1.2 (by simp [trB, hm])
          · rw [q] at hm; exact h6o.2.2 (by simp [trB, hm])
end Go.Proofs.YtmecbehegmgbhaaGreat.AM
namespace Go.Proofs.YtmecbehegmgbhaaGreat.AM
set_option linter.unusedSimpArgs false
set_option linter.unusedVariables false
set_option maxRecDepth 100000
set_option maxHeartbeats 2000000
open Go
attribute [-simp] AM.elems
section
variable {ok : Nat → Prop} {H : AH} {K : AV → AH → Prop} {wf : Fk K} {c : List AV} {w : Wd} {n : Int}
theorem K_iWorldRun (h : WC ok H c w) (hct : ∀ t ∈ w.tasks, ctS t.rest ≤ 100000) (hbl : w.boxes.length ≤ 100) (hbo : n ≤ 100000 → boW w n.toNat) (hol : w.out.length ≤ 700000)
    (k : ∀ c' H', WC (fun b => H.n ≤ b) H' c' (runF n w).1 → Ext H H' → K (.tup [.agg c', .b (runF n w).2]) H') : CallF Cd f_iWorldRun [.agg c, .I n] H K wf := by
  have h' := h
  obtain ⟨vt, vb, vo, rfl, h1, h2, h3⟩ := h'
  rw [CallF_eq e_iWorldRun rfl]
  have x0 := (Ext.push H [vt, vb, .I w.turn, .I w.idle, vo]).trans (Ext.push _ zC)
  have q0 : ((H.push [vt, vb, .I w.turn, .I w.idle, vo]).push zC).bk H.n = some ⟨[vt, vb, .I w.turn, .I w.idle, vo], true⟩ := push_old (by simp) push_new
  simp [loadN_bk q0]
  refine K_iWorldValid (h.ext x0) hct hbl fun H1 x1 => ?_
  have n1 := x1.1
  simp only [push_n] at n1
  have y1 := x0.trans x1
  have q1 := (x1.2 H.n (by simp <;> omega)).trans q0
  have qR1 : H1.bk (H.n + 1) = some ⟨zC, true⟩ := (x1.2 _ (by simp)).trans push_new
  have stb := store_five qR1 (l := zC) rfl rfl
  have bad : ¬ (vaWd w = true ∧ 0 ≤ n ∧ n ≤ 100000) → K (.tup [.agg zC, .b false]) (H1.put (H.n + 1) (some ⟨zC, true⟩)) := fun hb => by
    have e : runF n w = (zeroW, false) := by unfold runF; rw [if_neg hb]
    rw [e] at k
    exact k zC _ zero_WC (y1.put (by omega))
  cases hv : vaWd w with
  | false =>
    simp [stb, loadN_bk put_same]
    exact bad (by rw [hv]; simp)
  | true =>
  by_cases hn0 : n < 0
  · simp [hn0, stb, loadN_bk put_same]
    exact bad (fun hh => by omega)
  by_cases hn1 : 100000 < n
  · simp [hn0, hn1, stb, loadN_bk put_same]
    exact bad (fun hh => by omega)
  have hF : runF n w = (runW n.toNat w, true) := by unfold runF; rw [if_pos ⟨hv, by omega, by omega⟩]
  rw [hF] at k
  have hbo := hbo (by omega)
  have en : n = (n.toNat : Int) := by omega
  simp [hn0, hn1, loadN_bk q1]
  have := K_irunWorld (K := ?_) (wf := ?_) (n := n.toNat) none (h.ext y1) (fun b _ => by simp [trBk]) hv hbo (by omega) (by omega) trivial ?_
  · rw [← en] at this
    exact this
  · intro c' H2 wc x2 _
    have x2 : Ext H1 H2 := ⟨x2.1, fun b hb => x2.2 b hb (by simp [trBk])⟩
    obtain ⟨vt', vb', vo', rfl, k1, k2, k3⟩ := id wc
    have qR := (x2.2 _ (by omega)).trans qR1
    have st := store_five qR (l := [vt', vb', .I (runW n.toNat w).turn, .I (runW n.toNat w).idle, vo']) rfl rfl
    simp [st, loadN_bk put_same]
    exact k _ _ (wc.mono (by simp) (fun b hb _ => by rw [put_bk, if_neg (by omega)]) (fun b hb _ => by omega)) ((y1.trans x2).put (by omega))
end
section
variable {o1 o2 : Nat → Prop}
end
end Go.Proofs.YtmecbehegmgbhaaGreat.AM
namespace Go.Proofs.YtmecbehegmgbhaaGreat.AM
set_option linter.unusedSimpArgs false
set_option linter.unusedVariables false
set_option maxRecDepth 100000
set_option maxHeartbeats 2000000
open Go
attribute [-simp] AM.elems
structure Pg where
  rooms : List Int
  tasks : List Sts
deriving DecidableEq, Inhabited
def L1 (ok : Nat → Prop) (H : AH) (c : List AV) (f : Sts) : Prop := ∃ v, c = [v] ∧ SV ok H v f
theorem L1.mono {ok ok' : Nat → Prop} {H H' c f} (h : L1 ok H c f) (hn : H.n ≤ H'.n) (hk : ∀ b, ok b → b < H.n → H'.bk b = H.bk b) (ho : ∀ b, ok b → b < H.n → ok' b) : L1 ok' H' c f := by
  obtain ⟨v, e, h⟩ := h; exact ⟨v, e, h.mono hn hk ho⟩
def LV (ok : Nat → Prop) (H : AH) (v : AV) (l : List Sts) : Prop := ∃ ca, SlC ok H v l.length 1 ca ∧ LF 1 (L1 ok H) l ca
theorem LV.mono {ok ok' : Nat → Prop} {H H' v l} (h : LV ok H v l) (hn : H.n ≤ H'.n) (hk : ∀ b, ok b → b < H.n → H'.bk b = H.bk b) (ho : ∀ b, ok b → b < H.n → ok' b) : LV ok' H' v l := by
  obtain ⟨ca, h1, h2⟩ := h
  exact ⟨ca, h1.mono hn hk ho, h2.imp fun c a h => h.mono hn hk ho⟩
theorem LV.ext {ok H H' c t} (h : LV ok H c t) (k : Ext H H') : LV ok H' c t := h.mono k.1 (fun b _ hb => k.2 b hb) (fun _ h _ => h)
theorem LV.alen {ok H v l} (h : LV ok H v l) : alen v = some l.length := h.choose_spec.1.alen
theorem LV.flat {ok H v l} (h : LV ok H v l) : v.flat = true := h.choose_spec.1.flat
theorem LV.big {ok H v l} (h : LV ok H v l) : l.length ≤ 8589934592 := h.choose_spec.1.1
theorem LV.at {ok H v l} (h : LV ok H v l) {i : Nat} {f : Sts} (hi : l[i]? = some f) : ∃ b o cap u, v = .sl b o l.length cap ∧ b < H.n ∧ H.load b (o + i) = some u ∧ SV ok H u f := by
  obtain ⟨ca, h1, h2⟩ := h
  have hl := (List.getElem?_eq_some_iff.1 hi).1
  obtain ⟨b, o, cap, e, ob, hb, hs⟩ := h1.at hl
  obtain ⟨c, hc, u, rfl, i1⟩ := h2.get hi
  have hh := hs i 1 (by omega)
  rw [Nat.mul_one] at hc
  rw [hc] at hh
  have := loadN_get hh (i := 0) (by omega)
  exact ⟨b, o, cap, u, e, hb, by simpa using this, i1⟩
def PgC (ok : Nat → Prop) (H : AH) (c : List AV) (p : Pg) : Prop := ∃ vr vt, c = [vr, vt] ∧ IV ok H vr p.rooms ∧ LV ok H vt p.tasks
theorem PgC.mono {ok ok' : Nat → Prop} {H H' c p} (h : PgC ok H c p) (hn : H.n ≤ H'.n) (hk : ∀ b, ok b → b < H.n → H'.bk b = H.bk b) (ho : ∀ b, ok b → b < H.n → ok' b) : PgC ok' H' c p := by
  obtain ⟨vr, vt, e, h1, h2⟩ := h
  exact ⟨vr, vt, e, h1.mono hn hk ho, h2.mono hn hk ho⟩
theorem PgC.ext {ok H H' c t} (h : PgC ok H c t) (k : Ext H H') : PgC ok H' c t := h.mono k.1 (fun b _ hb => k.2 b hb) (fun _ h _ => h)
def vaRm (l : List Int) : Bool := l.all (fun x => decide (1 ≤ x ∧ x ≤ 4)) && decide (l.length ≤ 3)
def vaF (many : Int) (f : Sts) : Bool := vaS 3 f && bxS many f
def vaPg (p : Pg) : Bool := vaRm p.rooms && decide (1 ≤ p.tasks.length ∧ p.tasks.length ≤ 3) && p.tasks.all (vaF p.rooms.length)
def newW (p : Pg) : Wd := ⟨p.tasks.map fun f => ⟨[0, 0, 0, 0], f⟩, p.rooms.map fun x => ⟨x, []⟩, 0, 0, []⟩
theorem newW_ok {p : Pg} (h : vaPg p = true) : vaWd (newW p) = true ∧ (∀ t ∈ (newW p).tasks, uL t.rest.list ≤ 40) := by
  unfold vaPg vaRm at h
  simp only [Bool.and_eq_true, decide_eq_true_eq, List.all_eq_true] at h
  obtain ⟨⟨⟨h1, h2⟩, h3⟩, h4⟩ := h
  have hw : ∀ f ∈ p.tasks, ∀ s ∈ f.list, vaW p.rooms.length s = true := fun f hf s hs => by
    have h5 := h4 f hf
    unfold vaF vaS at h5
    simp only [Bool.and_eq_true, decide_eq_true_eq] at h5
    refine vaW_iff.2 ⟨?_, ?_⟩
    · have := (ok_bx (many := p.rooms.length) (by omega) h5.1.1).2 h5.2
      rw [okS_mem, List.all_eq_true] at this
      exact this s hs
    · have := ctS_mem hs; unfold ctT; omega
  refine ⟨vaWd_iff.2 ⟨by simp [newW]; omega, rfl, ?_, fun t ht => ?_⟩, fun t ht => ?_⟩
  · unfold vaBs newW
    simp only [Bool.and_eq_true, decide_eq_true_eq, List.length_map, List.all_map, List.all_eq_true]
    refine ⟨fun x hx => ?_, h2⟩
    have := h1 x hx
    unfold vaB
    simp; omega
  · simp only [newW, List.mem_map] at ht
    obtain ⟨f, hf, rfl⟩ := ht
    refine vaT_iff.2 ⟨rfl, by simp [isW], fun s hs => ?_⟩
    simp only [newW, List.length_map]
    exact hw f hf s hs
  · simp only [newW, List.mem_map] at ht
    obtain ⟨f, hf, rfl⟩ := ht
    have h5 := h4 f hf
    unfold vaF vaS at h5
    simp only [Bool.and_eq_true, decide_eq_true_eq] at h5
    have hl := @len_ctS f
    have := uL_le (l := f.list) (m := 16) (fun s hs => (vaW_iff.1 (hw f hf s hs)).2)
    simp only; omega
section
variable {H : AH} {K : AV → AH → Prop} {w : Fk K}
theorem K_sl12Rooms_l {v : AV} {l : List Int} (h : SeesZ H v l) {Q : Out → Env → AH → Prop} (h1 : ∀ e, get e 0 = some v → Q (.brk 0) e H = K (.b (decide (l.length ≤ 3))) H) (h2 : ∀ e H, Q .ret e H = bindO (get e 2) fun v => K v H)
    (m i : Nat) (hm : i + m = l.length) (k : K (.b ((l.drop i).all (fun x => decide (1 ≤ x ∧ x ≤ 4)) && decide (l.length ≤ 3))) H) :
    W Cd (.loop c_sl12Rooms_l0) [(0, v), (3, .I i)] H Q := by
  have hbig := h.2.1
  induction m generalizing i with
  | zero =>
    rw [W_loop_as c_sl12Rooms_l0.eq_1]
    have : i = l.length := by omega
    subst this
    simp [h.1]
    rw [h1 _ rfl]
    rw [List.drop_eq_nil_of_le (Nat.le_refl _)] at k
    simpa using k
  | succ m ih =>
    rw [W_loop_as c_sl12Rooms_l0.eq_1]
    have hlt : i < l.length := by omega
    have hlt' : (i : Int) < l.length := by omega
    obtain ⟨b, o, s1, hb, l1⟩ := h.at hlt
    obtain ⟨x, hx⟩ : ∃ x, l[i]? = some x := ⟨_, List.getElem?_eq_getElem hlt⟩
    have ex : l[i] = x := by have := List.getElem?_eq_getElem hlt; rw [hx] at this; exact (Option.some.inj this).symm
    rw [ex] at l1
    rw [all_dropB hx] at k
    by_cases hok : 1 ≤ x ∧ x ≤ 4
    · rw [decide_eq_true hok, Bool.true_and] at k
      simp (disch := omega) [h.1, hlt', s1, l1, K_in_t hok]
      have := ih (i + 1) (by omega) k
      simpa using this
    · rw [decide_eq_false hok] at k
      simp (disch := omega) [h.1, hlt', s1, l1, K_in_f hok, h2]
      simpa using k
theorem K_sl12Rooms {v : AV} {l : List Int} (h : SeesZ H v l) (k : K (.b (vaRm l)) H) : CallF Cd f_sl12Rooms [v] H K w := by
  rw [CallF_eq e_sl12Rooms rfl]
  simp
  have := K_sl12Rooms_l (K := K) h (Q := ?_) ?_ ?_ l.length 0 (by omega) k
  · simpa using this
  · intro e he
    have : decide ((l.length : Int) ≤ 3) = decide (l.length ≤ 3) := dec_nat3
    simp [he, h.1, this]
  · intros; simp
end
theorem K_sProgramValid_l {p : Pg} {ok : Nat → Prop} {K : AV → AH → Prop} {vr vt : AV} {P : Nat} (hct : ∀ f ∈ p.tasks, ctS f ≤ 1000000) {Q : Out → Env → AH → Prop} (h1 : ∀ e G, Q (.brk 0) e G = K (.b true) G) (h2 : ∀ e H, Q .ret e H = bindO (get e 2) fun v => K v H) (hr : alen vr = some p.rooms.length) (hrl : p.rooms.length ≤ 100)
    (m i : Nat) (hm : i + m = p.tasks.length) {H : AH} (hP : P < H.n) (gP : H.bk P = some ⟨[vr, vt], true⟩) (h : LV ok H vt p.tasks)
    (k : ∀ H', Ext H H' → K (.b ((p.tasks.drop i).all (vaF p.rooms.length))) H') :
    W Cd (.loop c_sProgramValid_l0) [(1, .ptr P 0), (3, .I i)] H Q := by
  have hbig := h.big
  induction m generalizing i H with
  | zero =>
    rw [W_loop_as c_sProgramValid_l0.eq_1]
    have : i = p.tasks.length := by omega
    subst this
    simp [load_bk gP, h.alen, h1]
    have := k H (Ext.refl _)
    rwa [List.drop_eq_nil_of_le (Nat.le_refl _)] at this
  | succ m ih =>
    rw [W_loop_as c_sProgramValid_l0.eq_1]
    have hlt : i < p.tasks.length := by omega
    have hlt' : (i : Int) < p.tasks.length := by omega
    obtain ⟨f, hf⟩ : ∃ f, p.tasks[i]? = some f := ⟨_, List.getElem?_eq_getElem hlt⟩
    obtain ⟨b, o, cap, u, e1, hbn, l1, s1⟩ := h.at hf
    have hh := h
    subst e1
    rw [all_dropB hf] at k
    simp (disch := omega) [load_bk gP, hlt', l1]
    refine K_sStmtsValid s1 (hct f (List.mem_of_getElem? hf)) fun H2 x2 => ?_
    have g2 := (x2.2 _ hP).trans gP
    have l2 : H2.load b (o + i) = some u := by unfold AH.load at l1 ⊢; rw [x2.2 b hbn]; exact l1
    have evf : vaF p.rooms.length f = (vaS 3 f && bxS p.rooms.length f) := rfl
    rw [evf] at k
    cases hv : vaS 3 f with
    | false =>
      have := k H2 x2
      rw [hv] at this
      simp [x2, h2]
      simpa using this
    | true =>
      rw [hv, Bool.true_and] at k
      simp (disch := omega) [x2, load_bk g2, hlt', l2, hr]
      refine K_sl12Boxes f (s1.ext x2) fun H3 x3 => ?_
      have y3 := x2.trans x3
      cases hx : bxS p.rooms.length f with
      | false =>
        have := k H3 y3
        rw [hx] at this
        simp [x3, h2]
        simpa using this
      | true =>
        rw [hx, Bool.true_and] at k
        simp (disch := omega) [x3]
        have := ih (i + 1) (by omega) (H := H3) (by have := y3.1; omega) ((y3.2 _ hP).trans gP) (hh.ext y3) (fun H' x' => k H' (y3.trans x'))
        simpa using this
theorem K_sProgramValid {ok : Nat → Prop} {H : AH} {K : AV → AH → Prop} {wf : Fk K} {c : List AV} {p : Pg} (h : PgC ok H c p) (hct : ∀ f ∈ p.tasks, ctS f ≤ 1000000) (k : ∀ H', Ext H H' → K (.b (vaPg p)) H') : CallF Cd f_sProgramValid [.agg c] H K wf := by
  obtain ⟨vr, vt, rfl, h1, h2⟩ := h
  rw [CallF_eq e_sProgramValid rfl]
  have x0 := Ext.push H [vr, vt]
  have q0 : (H.push [vr, vt]).bk H.n = some ⟨[vr, vt], true⟩ := push_new
  have hbig := h2.big
  simp [load_bk q0]
  refine K_sl12Rooms (h1.ext x0).sees ?_
  have ev : vaPg p = (vaRm p.rooms && decide (1 ≤ p.tasks.length ∧ p.tasks.length ≤ 3) && p.tasks.all (vaF p.rooms.length)) := rfl
  rw [ev] at k
  cases hv : vaRm p.rooms with
  | false =>
    have := k _ x0
    rw [hv] at this
    simpa using this
  | true =>
    rw [hv, Bool.true_and] at k
    have hrl : p.rooms.length ≤ 3 := by unfold vaRm at hv; simp at hv; omega
    by_cases hm : 1 ≤ (p.tasks.length : Int) ∧ (p.tasks.length : Int) ≤ 3
    · have e2 : decide (1 ≤ p.tasks.length ∧ p.tasks.length ≤ 3) = true := decide_eq_true (by omega)
      rw [e2, Bool.true_and] at k
      simp [load_bk q0, h2.alen, K_in_t hm]
      have := K_sProgramValid_l (p := p) (K := K) (Q := ?_) hct ?_ ?_ h1.alen (by omega) p.tasks.length 0 (by omega) (P := H.n) (H := H.push [vr, vt]) (by simp) q0 (h2.ext x0) (fun H' x' => by simpa using k H' (x0.trans x'))
      · simpa using this
      · intros; simp
      · intros; simp
    · have e2 : decide (1 ≤ p.tasks.length ∧ p.tasks.length ≤ 3) = false := decide_eq_false (by omega)
      have := k _ x0
      rw [e2] at this
      simp [load_bk q0, h2.alen, K_in_f hm]
      simpa using this
end Go.Proofs.YtmecbehegmgbhaaGreat.AM
namespace Go.Proofs.YtmecbehegmgbhaaGreat.AM
set_option linter.unusedSimpArgs false
set_option linter.unusedVariables false
set_option maxRecDepth 100000
set_option maxHeartbeats 2000000
open Go
attribute [-simp] AM.elems
end Go.Proofs.YtmecbehegmgbhaaGreat.AM
namespace Go.Proofs.YtmecbehegmgbhaaGreat.AM
set_option linter.unusedSimpArgs false
set_option linter.unusedVariables false
set_option maxRecDepth 100000
set_option maxHeartbeats 2000000
open Go
theorem K_sl92Rooms_l {base r : Nat} (hrb : r < base) {Q : Out → Env → AH → Prop} {n : Int} (hn : n ≤ 10) (j i : Nat) (hij : (i + j : Int) = n) {G : AH} {g : AV} {l : List Int} {B : Nat} {m : Int} (hb : base ≤ G.n) (hl : l.length = i) (hg : GrS base G g l.length 1 (Ints l) B) (hR : Rdx G r m) (hm : m + 5 * j ≤ 900000000000)
    (hQ : ∀ e g' l' B' G', (l'.length : Int) = n → GrS base G' g' l'.length 1 (Ints l') B' → Rdx G' r (m + 5 * j) → (∀ b, b < base → b ≠ r → G'.bk b = G.bk b) → G.n ≤ G'.n → get e 3 = some g' → Q (.brk 0) e G') :
    W Cd (.loop c_sl92Rooms_l0) [(0, .ptr r 0), (3, g), (4, .I n), (5, .I i)] G Q := by
  induction j generalizing i G g l B m with
  | zero =>
    rw [W_loop_as c_sl92Rooms_l0.eq_1]
    have hi : (i : Int) = n := by omega
    simp [hi]
    exact hQ _ g l B G (by omega) hg (hR.up (by omega)) (fun _ _ _ => rfl) (Nat.le_refl _) rfl
  | succ j ih =>
    rw [W_loop_as c_sl92Rooms_l0.eq_1]
    have hlt : (i : Int) < n := by omega
    simp (disch := omega) [hlt]
    refine P_pick hR.push (by omega) (by omega) fun x1 H1 hx1 hR1 hS1 => ?_
    obtain ⟨x, hy, e⟩ := @Ints_get [1, 1, 2, 3, 4] x1 5 (by omega) rfl
    have eb : H1.bk G.n = some ⟨Ints [1, 1, 2, 3, 4], true⟩ := hS1.at (Nat.lt_succ_self _) (Nat.ne_of_gt hR.lt) (by simp; rfl)
    have hS : St r G H1 := (St.push St.refl).trans hS1
    obtain ⟨g', G', B', a1, a2, a3, a4, a5⟩ := app_word (x := x) hg hS hrb hb (by omega)
    simp (disch := omega) [load_eq, eb, e, loadN_push, a1]
    have := ih (i + 1) (by push_cast; omega) (G := G') (g := g') (l := l ++ [x]) (B := B') (m := m + 1) (by have := hS.1; omega) (by simp; omega) a2 (hR1.same a4 fun b hb => a3 b (by omega)) (by omega)
      (fun e g2 l2 B2 G2 u1 u2 u3 u4 u5 u6 => hQ e g2 l2 B2 G2 u1 u2 (u3.up (by omega)) (fun b h1 h2 => by rw [u4 b h1 h2, a3 b h1, hS.2 b (by omega) h2]) (by have := hS.1; omega) u6)
    simpa using this
section
variable {H : AH} {K : AV → AH → Prop} {r : Nat} {w : Fk K} {m boxes : Int}
theorem K_sl92Rooms (h : Rdx H r m) (hm : m ≤ 800000000000)
    (k : ∀ v l B H', l.length ≤ 3 → GrS H.n H' v l.length 1 (Ints l) B → Rdx H' r (m + 50) → St r H H' → K v H') : CallF Cd f_sl92Rooms [.ptr r 0] H K w := by
  rw [CallF_eq e_sl92Rooms rfl]
  have hr := h.lt
  simp
  refine P_pick h.push.push (by omega) (by omega) fun x1 H1 hx1 hR1 hS1 => ?_
  have n1 := hS1.1
  simp only [push_n] at n1
  obtain ⟨n, hy, e⟩ := @Ints_get [0, 1, 1, 2, 2, 3] x1 6 (by omega) rfl
  have eb : H1.bk (H.n + 1) = some ⟨Ints [0, 1, 1, 2, 2, 3], true⟩ := hS1.at (by simp) (by omega) (by simp; rfl)
  have q0 : H1.bk H.n = some ⟨[], true⟩ := hS1.at (by simp; omega) (by omega) (push_old (by simp) push_new)
  have hn : 0 ≤ n ∧ n ≤ 3 := by simp at hy; omega
  simp (disch := omega) [load_eq, eb, e]
  obtain ⟨j, rfl⟩ : ∃ j : Nat, n = j := ⟨n.toNat, by omega⟩
  have := K_sl92Rooms_l (base := H.n) hr (n := j) (by omega) (Q := ?_) j 0 (by simp) (G := H1) (g := .sl H.n 0 0 (.ex 0)) (l := []) (B := H.n) (m := m + 1) (by omega) rfl ⟨by simp, rfl, .inr ⟨Nat.le_refl _, by omega, .inl ⟨rfl, q0⟩⟩⟩ hR1 (by omega) ?_
  · simpa using this
  · intro e g l B G u1 u2 u3 u4 u5 u6
    simp [u6]
    refine k g l B G (by omega) u2 (u3.up (by omega)) ⟨by omega, fun b hb hbr => (u4 b hb hbr).trans ((hS1.2 b (by simp; omega) hbr).trans ((push_old (by simp; omega) (push_old hb rfl))))⟩
theorem K_sl92Endless (h : Rdx H r m) (hm : m ≤ 600000000000)
    (k : ∀ c s H', S1 (fun b => H.n ≤ b) H' c s → ctT s ≤ 1000 → Rdx H' r (m + 60000) → St r H H' → K (.agg c) H') : CallF Cd f_sl92Endless [.ptr r 0] H K w := by
  rw [CallF_eq e_sl92Endless rfl]
  have hr := h.lt
  simp
  refine K_sl4Leaf fun ve H1 d1 x1 => ?_
  have n1 := x1.1
  simp only [push_n] at n1
  simp
  refine P_pick (h.push.ext x1) (by omega) (by omega) fun x0 H2 hx0 hR2 hS2 => ?_
  have n2 := hS2.1
  simp
  have hm1 : x0 * cR 1 ≤ 6 * 8500 ∧ 0 ≤ x0 * cR 1 := by simp [cR]; omega
  have hN1 : x0.toNat * cB 1 ≤ 10 := by
    have : x0.toNat ≤ 1 := by omega
    have := Nat.mul_le_mul_right (cB 1) this
    simp [cB] at this ⊢; omega
  refine blkD (n := 1) (by omega) (by omega) (by omega) hR2 (by simp; omega) fun g cs B f H3 hg hf hlb hct hR3 hS3 => ?_
  have n3 := hS3.1
  have fg := hg.flat
  have S13 := hS2.trans hS3
  have qR : H3.bk H.n = some ⟨[.I 0, .I 0, .I 0, .I 0, .I 0, .nils, .nils, .nils], true⟩ := S13.at (by omega) (by omega) ((x1.2 H.n (by simp)).trans push_new)
  have st := store_bk (o := 0) (vs := [.I 3, .I 0, .I 0, .I 0, .I 1, ve, g, .nils]) qR (by simp)
  have fe := d1.ev.flat
  simp [flat_cells fg, flat_tup fg, flat_cells fe, flat_tup fe, st, loadN_bk put_same]
  have hk : ∀ b, b ≠ H.n → (H3.put H.n (some ⟨[.I 3, .I 0, .I 0, .I 0, .I 1, ve, g, .nils], true⟩)).bk b = H3.bk b := fun b hb => by rw [put_bk, if_neg hb]
  refine k [.I 3, .I 0, .I 0, .I 0, .I 1, ve, g, .nils] ⟨3, 0, 0, ⟨0, 1, .nil⟩, f, .nil⟩ _ ⟨ve, g, .nils, rfl, (d1.ev.mono (by simp; omega) (fun b hb hb2 => ?_) (fun b hb _ => by simp at hb; omega)), (hg.sv hf).mono (by simp) (fun b hb _ => hk b (by omega)) (fun b hb _ => by omega), SV.nil (.inl rfl)⟩ (by simp [ctT, ctS]; omega) ((hR3.put (by omega)).up (by omega)) ?_
  · simp only [push_n] at hb
    rw [hk b (by omega), S13.2 b hb2 (by omega)]
  · exact (((Ext.push H _).trans x1).st.trans S13).put_new (Nat.le_refl _)
end
end Go.Proofs.YtmecbehegmgbhaaGreat.AM
namespace Go.Proofs.YtmecbehegmgbhaaGreat.AM
set_option linter.unusedSimpArgs false
set_option linter.unusedVariables false
set_option maxRecDepth 100000
set_option maxHeartbeats 2000000
open Go
attribute [-simp] AM.elems
theorem LF.snoc3 {α : Type} {sz : Nat} {E : (Nat → Prop) → AH → List AV → α → Prop} (mono : ∀ {ok ok' : Nat → Prop} {H H' : AH} {c a}, E ok H c a → H.n ≤ H'.n → (∀ b, ok b → b < H.n → H'.bk b = H.bk b) → (∀ b, ok b → b < H.n → ok' b) → E ok' H' c a)
    {base lo B r : Nat} {G G1 : AH} {g : AV} {l : List α} {x : α} {cs c : List AV} (hg : GrS base G g l.length sz cs B) (he : LF sz (E (fun b => lo ≤ b ∧ b ≠ B) G) l cs)
    (hb : base ≤ G.n) (hlo : lo ≤ G.n) (hrb : r < base) (hrl : r < lo) (x1 : St r G G1) (hc : c.length = sz) (hx : E (fun b => G.n ≤ b) G1 c x) (hi : l.length < 1000000) :
    ∃ g' G' B', aapp G1 sz g 1 c = some (g', G') ∧ GrS base G' g' (l ++ [x]).length sz (cs ++ c) B' ∧ LF sz (E (fun b => lo ≤ b ∧ b ≠ B') G') (l ++ [x]) (cs ++ c) ∧ Only (grB g B) G1 G' ∧ ((B' = B ∧ B ∈ grB g B) ∨ B' = G1.n) ∧ g'.flat = true := by
  obtain ⟨g', G', B', a1, a2, a3, a4⟩ := (hg.st x1 hrb).app (k := 1) (new := c) (by have := x1.1; omega) (by omega) (by omega)
  have hm : ∀ b, b ∈ grB g B → b = B ∧ base ≤ B ∧ B < G.n := fun b hb => hg.mem hb
  have hB : (B' = B ∧ base ≤ B ∧ B < G.n) ∨ G1.n = B' := by
    rcases a3 with q | q
    · exact .inl ⟨q.1, (hm _ q.2).2⟩
    · exact .inr q.symm
  have n1 := x1.1
  refine ⟨g', G', B', a1, by simpa using a2, ?_, a4, a3, a2.flat⟩
  refine LF.app (he.imp fun c a h => mono h (by have := a4.1; omega) (fun b hb' h1 => ?_) (fun b hb' h1 => ⟨hb'.1, by omega⟩)) (LF.one (mono hx a4.1 (fun b hb' h1 => a4.2 b h1 (fun hm' => by have := hm b hm'; omega)) (fun b hb' h1 => by omega)) hc)
  rw [a4.2 b (by omega) (fun hm' => hb'.2 (hm b hm').1), x1.2 b h1 (by omega)]
theorem GrS.keep {base : Nat} {H G : AH} {v n sz cs B} (h : GrS base H v n sz cs B) (hn : H.n ≤ G.n) (hk : ∀ b, base ≤ b → b < H.n → G.bk b = H.bk b) : GrS base G v n sz cs B := by
  obtain ⟨h1, h2, h3 | ⟨h4, h5, h6⟩⟩ := h
  · exact ⟨h1, h2, .inl h3⟩
  · exact ⟨h1, h2, .inr ⟨h4, by omega, by rw [hk B h4 h5]; exact h6⟩⟩
theorem GrS.keep1 {base : Nat} {H G : AH} {v n sz cs B} (h : GrS base H v n sz cs B) (hn : H.n ≤ G.n) (hk : base ≤ B → B < H.n → G.bk B = H.bk B) : GrS base G v n sz cs B := by
  obtain ⟨h1, h2, h3 | ⟨h4, h5, h6⟩⟩ := h
  · exact ⟨h1, h2, .inl h3⟩
  · exact ⟨h1, h2, .inr ⟨h4, by omega, by rw [hk h4 h5]; exact h6⟩⟩
def T0 (lo B : Nat) (G : AH) (l : List Sts) (cs : List AV) : Prop :=
  (l = [] ∧ cs = []) ∨ ∃ v0 c0 B0 f0 l' cs', l = f0 :: l' ∧ cs = v0 :: cs' ∧ GrS lo G v0 f0.list.length 8 c0 B0 ∧ B0 ≠ B ∧ B0 < G.n ∧ SF (fun b => lo ≤ b ∧ b ≠ B ∧ b ≠ B0) G f0 c0 ∧ LF 1 (L1 (fun b => lo ≤ b ∧ b ≠ B ∧ b ≠ B0) G) l' cs'
theorem T0.lf {lo B G l cs} (h : T0 lo B G l cs) : LF 1 (L1 (fun b => lo ≤ b ∧ b ≠ B) G) l cs := by
  rcases h with ⟨rfl, rfl⟩ | ⟨v0, c0, B0, f0, l', cs', rfl, rfl, h1, h2, h3, h4, h5⟩
  · rfl
  · exact ⟨[v0], cs', rfl, rfl, ⟨v0, rfl, c0, h1.ivB (fun a b => ⟨a, h2⟩), h4.mono (Nat.le_refl _) (fun _ _ _ => rfl) (fun b hb _ => ⟨hb.1, hb.2.1⟩)⟩, h5.imp fun c a h => h.mono (Nat.le_refl _) (fun _ _ _ => rfl) (fun b hb _ => ⟨hb.1, hb.2.1⟩)⟩
theorem T0.up {lo lo' B G l cs} (h : T0 lo B G l cs) (hl : lo' ≤ lo) : T0 lo' B G l cs := by
  rcases h with ⟨rfl, rfl⟩ | ⟨v0, c0, B0, f0, l', cs', rfl, rfl, h1, h2, h3, h4, h5⟩
  · exact .inl ⟨rfl, rfl⟩
  · exact .inr ⟨v0, c0, B0, f0, l', cs', rfl, rfl, h1.up hl, h2, h3, h4.mono (Nat.le_refl _) (fun _ _ _ => rfl) (fun b hb _ => ⟨by omega, hb.2⟩), h5.imp fun c a h => h.mono (Nat.le_refl _) (fun _ _ _ => rfl) (fun b hb _ => ⟨by omega, hb.2⟩)⟩
theorem T0.keep {lo B G G' l cs} (h : T0 lo B G l cs) (hn : G.n ≤ G'.n) (hk : ∀ b, lo ≤ b → b ≠ B → b < G.n → G'.bk b = G.bk b) : T0 lo B G' l cs := by
  rcases h with ⟨rfl, rfl⟩ | ⟨v0, c0, B0, f0, l', cs', rfl, rfl, h1, h2, h3, h4, h5⟩
  · exact .inl ⟨rfl, rfl⟩
  · exact .inr ⟨v0, c0, B0, f0, l', cs', rfl, rfl, h1.keep1 hn (fun a b => hk _ a h2 b), h2, by omega, h4.mono hn (fun b hb hb2 => hk b hb.1 hb.2.1 hb2) (fun _ h _ => h), h5.imp fun c a h => h.mono hn (fun b hb hb2 => hk b hb.1 hb.2.1 hb2) (fun _ h _ => h)⟩
theorem GrS.name {base lo G v n sz cs B} (h : GrS base G v n sz cs B) (hb : lo ≤ base) (h0 : 0 < base) (hG : 0 < G.n) : ∃ B', GrS lo G v n sz cs B' ∧ ((B' = B ∧ base ≤ B' ∧ B' < G.n) ∨ (B' = 0 ∧ cs = [])) := by
  obtain ⟨h1, h2, ⟨h3, h3'⟩ | ⟨h4, h5, h6⟩⟩ := h
  · refine ⟨0, ⟨h1, h2, .inl ⟨h3, h3'⟩⟩, .inr ⟨rfl, List.eq_nil_of_length_eq_zero (by rw [h2, h3']; simp)⟩⟩
  · exact ⟨B, ⟨h1, h2, .inr ⟨by omega, h5, h6⟩⟩, .inl ⟨rfl, h4, h5⟩⟩
theorem T0.snoc {base lo B B' r : Nat} {G G1 G' : AH} {g v : AV} {l : List Sts} {f : Sts} {n : Nat} {cs c : List AV} {B1 : Nat} (hg : GrS base G g n 1 cs B) (h : T0 lo B G l cs) (hb0 : 0 < base) (hBb : base ≤ B) (hbl : base ≤ lo) (hlo : lo ≤ G.n) (hr : r < lo) (x1 : St r G G1) (o : Only (grB g B) G1 G') (hB : (B' = B ∧ B ∈ grB g B) ∨ B' = G1.n)
    (gs : GrS G.n G1 v f.list.length 8 c B1) (sf : SF (fun b => G.n ≤ b ∧ b ≠ B1) G1 f c) : T0 lo B' G' (l ++ [f]) (cs ++ [v]) := by
  have hm : ∀ b, b ∈ grB g B → b = B ∧ base ≤ B ∧ B < G.n := fun b hb => hg.mem hb
  have hB2 : (B' = B ∧ B < G.n) ∨ B' = G1.n := by
    rcases hB with q | q
    · exact .inl ⟨q.1, (hm _ q.2).2.2⟩
    · exact .inr q
  have n1 := x1.1
  have n2 := o.1
  have hk1 : ∀ b, G.n ≤ b → b < G1.n → G'.bk b = G1.bk b := fun b h1 h2 => o.2 b h2 (fun hq => by have := hm b hq; omega)
  have hk2 : ∀ b, lo ≤ b → b ≠ B → b < G.n → G'.bk b = G.bk b := fun b h1 h2 h3 => by rw [o.2 b (by omega) (fun hq => h2 (hm b hq).1), x1.2 b h3 (by omega)]
  rcases h with ⟨rfl, rfl⟩ | ⟨v0, c0, B0, f0, l', cs', rfl, rfl, h1, h2, h3, h4, h5⟩
  · obtain ⟨B2, g2, q⟩ := gs.name (lo := lo) hlo (by omega) (by omega)
    refine .inr ⟨v, c, B2, f, [], [], rfl, rfl, g2.keep1 n2 (fun a b => hk1 _ ?_ b), by omega, by omega, ?_, rfl⟩
    · rcases q with q | q
      · exact q.2.1
      · omega
    · rcases q with q | q
      · exact sf.mono n2 (fun b hb hb2 => hk1 b hb.1 hb2) (fun b hb hb2 => ⟨by omega, by omega, by omega⟩)
      · exact sf.mono n2 (fun b hb hb2 => hk1 b hb.1 hb2) (fun b hb hb2 => ⟨by omega, by omega, by omega⟩)
  · refine .inr ⟨v0, c0, B0, f0, l' ++ [f], cs' ++ [v], rfl, rfl, h1.keep1 (by omega) (fun a b => hk2 _ a h2 b), by omega, by omega, h4.mono (by omega) (fun b hb hb2 => hk2 b hb.1 hb.2.1 hb2) (fun b hb hb2 => ⟨hb.1, by omega, hb.2.2⟩), ?_⟩
    refine LF.app (h5.imp fun c a h => h.mono (by omega) (fun b hb hb2 => hk2 b hb.1 hb.2.1 hb2) (fun b hb hb2 => ⟨hb.1, by omega, hb.2.2⟩)) (LF.one ⟨v, rfl, (gs.sv sf).mono n2 (fun b hb hb2 => hk1 b hb hb2) (fun b hb hb2 => ⟨by omega, by omega, by omega⟩)⟩ rfl)
theorem K_sl92Program_l {r : Nat} {vr : AV} {nr : Nat} (hvr : alen vr = some nr) (hnr : nr ≤ 3) {P2 P3 base lo : Nat} (hrb : r < base) (hb3 : base < P3) (h3lo : P3 < lo) {n : Int} (hn : n ≤ 10) {Q : Out → Env → AH → Prop} (j i : Nat) (hij : (i + j : Int) = n) {G : AH} {g : AV} {l : List Sts} {cs : List AV} {B : Nat} {m : Int} (hlo : lo ≤ G.n) (hl : l.length = i) (gP : G.bk P3 = some ⟨[vr, g], true⟩)
    (hg : GrS base G g l.length 1 cs B) (hB : B ≠ P3) (hBb : base ≤ B) (he : T0 lo B G l cs) (hct : ∀ f ∈ l, ctS f ≤ 1000) (hR : Rdx G r m) (hm : m + 60000 * j ≤ 500000000000)
    (hQ : ∀ e g' l' cs' B' G', (l'.length : Int) = n → GrS base G' g' l'.length 1 cs' B' → B' ≠ P3 → T0 lo B' G' l' cs' → G'.bk P3 = some ⟨[vr, g'], true⟩ → (∀ f ∈ l', ctS f ≤ 1000) → Rdx G' r (m + 60000 * j) → (∀ b, b < base → b ≠ r → G'.bk b = G.bk b) → G.n ≤ G'.n → get e 0 = some (.ptr r 0) → get e 2 = some (.ptr P2 0) → get e 3 = some (.ptr P3 0) → Q (.brk 0) e G') :
    W Cd (.loop c_sl92Program_l0) [(0, .ptr r 0), (2, .ptr P2 0), (3, .ptr P3 0), (4, .I n), (5, .I i)] G Q := by
  induction j generalizing i G g l cs B m with
  | zero =>
    rw [W_loop_as c_sl92Program_l0.eq_1]
    have hi : (i : Int) = n := by omega
    simp [hi]
    exact hQ _ g l cs B G (by omega) hg hB he gP hct (hR.up (by omega)) (fun _ _ _ => rfl) (Nat.le_refl _) rfl rfl rfl
  | succ j ih =>
    rw [W_loop_as c_sl92Program_l0.eq_1]
    have hlt : (i : Int) < n := by omega
    simp (disch := omega) [hlt, load_bk gP, hvr]
    refine K_sl92Stmts (by omega) hR (by omega) fun vs cs1 B1 f H1 gs sf ctf hR1 hS1 => ?_
    have n1 := hS1.1
    have gP1 : H1.bk P3 = some ⟨[vr, g], true⟩ := hS1.at (by omega) (by omega) gP
    have fs := gs.flat
    have hS : St r G (H1.push [vs]) := hS1.push
    obtain ⟨g', G', B', a1, a2, a3, a4, a5, a6⟩ := LF.snoc3 (E := L1) (c := [vs]) (x := f) (fun h => h.mono) hg he.lf (by omega) hlo hrb (by omega) hS rfl ⟨vs, rfl, (gs.sv sf).ext (Ext.push _ _)⟩ (by omega)
    have hmg : ∀ b, b ∈ grB g B → b = B ∧ base ≤ B ∧ B < G.n := fun b hb => hg.mem hb
    have t3 : T0 lo B' G' (l ++ [f]) (cs ++ [vs]) := T0.snoc hg he (by omega) hBb (by omega) hlo (by omega) hS a4 a5 (gs.ext (Ext.push _ _)) (sf.ext (Ext.push _ _))
    have hk : ∀ b, b < H1.n → b ≠ B ∨ b < base → G'.bk b = H1.bk b := fun b hb hb2 => (a4.2 b (by simp; omega) (fun hq => by have := hmg b hq; omega)).trans (push_old hb rfl)
    have gP2 : G'.bk P3 = some ⟨[vr, g], true⟩ := (hk P3 (by omega) (.inl (Ne.symm hB))).trans gP1
    have st := store_cell (v := g') gP2 (o := 1) (by simp)
    simp only [List.set_cons_succ, List.set_cons_zero] at st
    have n4 := a4.1
    simp only [push_n] at n4 a5
    have hB' : B' ≠ P3 := by
      rcases a5 with q | q
      · rw [q.1]; exact hB
      · omega
    have hB2' : base ≤ B' := by
      rcases a5 with q | q
      · rw [q.1]; exact hBb
      · omega
    have kk : H1.bk P3 = G.bk P3 := hS1.2 P3 (by omega) (by omega)
    simp (disch := omega) [kk, AM.elems, flat_cells fs, flat_tup fs, loadN_push, a1, st, flat_cells a6, flat_tup a6]
    have := ih (i + 1) (by push_cast; omega) (G := G'.put P3 (some ⟨[vr, g'], true⟩)) (g := g') (l := l ++ [f]) (cs := cs ++ [vs]) (B := B') (m := m + 60000) (by simp; omega) (by simp; omega) put_same
      (a2.only (bs := [P3]) (Only.refl.put (by simp)) (fun b hb => .inr (by simp at hb; subst hb; exact Ne.symm hB'))) hB'
      hB2' (t3.keep (by simp) (fun b hb _ _ => by rw [put_bk, if_neg (by omega)]))
      (fun f' hf' => by
        rcases List.mem_append.1 hf' with q | q
        · exact hct f' q
        · rw [List.mem_singleton.1 q]; exact ctf)
      ((hR1.same (by omega) fun b hb => hk b (by have := hR1.lt; omega) (.inr (by omega))).put (by omega)) (by omega)
      (fun e g2 l2 c2 B2 G2 u1 u2 u3 u4 u5 u6 u7 u8 u9 ua ub uc => hQ e g2 l2 c2 B2 G2 u1 u2 u3 u4 u5 u6 (u7.up (by omega)) (fun b h1 h2 => by rw [u8 b h1 h2, put_bk, if_neg (by omega), hk b (by omega) (.inr h1), hS1.2 b (by omega) h2]) (by simp at u9; omega) ua ub uc)
    simpa using this
section
variable {H : AH} {K : AV → AH → Prop} {r : Nat} {w : Fk K} {m boxes : Int}
theorem K_sl92ProgramX (h : Rdx H r m) (hm : m ≤ 400000000000)
    (k : ∀ vr vt (p : Pg) RB TB lo cs H', H.n ≤ lo → lo ≤ H'.n → GrS H.n H' vr p.rooms.length 1 (Ints p.rooms) RB → (∀ b ∈ grB vr RB, b < lo) → IV (fun b => H.n ≤ b ∧ b < lo) H' vr p.rooms → GrS lo H' vt p.tasks.length 1 cs TB → T0 lo TB H' p.tasks cs → 1 ≤ p.tasks.length ∧ p.tasks.length ≤ 3 → p.rooms.length ≤ 3 →
      (∀ f ∈ p.tasks, ctS f ≤ 1000) → Rdx H' r (m + 600000) → St r H H' → K (.agg [vr, vt]) H') : CallF Cd f_sl92Program [.ptr r 0] H K w := by
  rw [CallF_eq e_sl92Program rfl]
  have hr := h.lt
  simp
  refine K_sl92Rooms h.push (by omega) fun vr lr Br H1 hlr gr hR1 hS1 => ?_
  have n1 := hS1.1
  simp only [push_n] at n1
  have fr := gr.flat
  have e2 : ((H1.push []).push [.nils, .nils]).store (H1.n + 1) 0 [vr, .sl H1.n 0 0 (.ex 0)] = some ((H1.push []).push [vr, .sl H1.n 0 0 (.ex 0)]) := store_push2e (H := H1.push [])
  simp [flat_cells fr, flat_tup fr, e2]
  have iv1 : IV (fun b => H.n + 1 ≤ b ∧ b < H1.n) H1 vr lr := gr.ivB (fun a b => ⟨by simpa using a, b⟩)
  have x3 := (Ext.push H1 []).trans (Ext.push _ [vr, .sl H1.n 0 0 (.ex 0)])
  refine P_pick (hR1.ext x3) (by omega) (by omega) fun x H4 hx hR4 hS4 => ?_
  have n4 := hS4.1
  simp only [push_n] at n4
  simp (disch := omega)
  have hS14 : St r H1 H4 := x3.st.trans hS4
  have q4 : H4.bk (H1.n + 1) = some ⟨[vr, .sl H1.n 0 0 (.ex 0)], true⟩ := hS4.at (by simp) (by omega) push_new
  have qb : H4.bk H1.n = some ⟨[], true⟩ := hS4.at (by simp; omega) (by omega) (push_old (by simp) push_new)
  have qR4 : H4.bk H.n = some ⟨[.nils, .nils], true⟩ := hS14.at (by omega) (by omega) (hS1.at (by simp) (by omega) push_new)
  have S04 : St r H H4 := ((Ext.push H _).st.trans hS1).trans hS14
  have iv4 : IV (fun b => H.n + 1 ≤ b ∧ b < H1.n) H4 vr lr := iv1.mono (by omega) (fun b hb hb2 => hS14.2 b hb2 (by omega)) (fun _ h _ => h)
  obtain ⟨j, hj⟩ : ∃ j : Nat, 1 + x = j := ⟨(1 + x).toNat, by omega⟩
  have hj3 : j ≤ 3 := by omega
  have fin : ∀ (G : AH) (g : AV) (l : List Sts) (cs : List AV) (B : Nat), GrS H1.n G g l.length 1 cs B → 1 ≤ l.length ∧ l.length ≤ 3 → B ≠ H1.n + 1 → T0 (H1.n + 2) B G l cs → G.bk (H1.n + 1) = some ⟨[vr, g], true⟩ → (∀ f ∈ l, ctS f ≤ 1000) → Rdx G r (m + 500000) → (∀ b, b < H1.n → b ≠ r → G.bk b = H4.bk b) → H4.n ≤ G.n →
      ∃ G1, G.loadN (H1.n + 1) 0 2 = some [vr, g] ∧ G.store H.n 0 [vr, g] = some G1 ∧ G1.loadN H.n 0 2 = some [vr, g] ∧ K (.agg [vr, g]) G1 := by
    intro G g l cs B z1 zl z2 z3 z4 z5 z6 z7 z8
    have qR := (z7 H.n (by omega) (by omega)).trans qR4
    refine ⟨_, by rw [loadN_bk z4]; rfl, store_bk qR (by simp), by rw [loadN_bk put_same]; rfl, ?_⟩
    have hk : ∀ b, b ≠ H.n → (G.put H.n (some ⟨splice [.nils, .nils] 0 [vr, g], true⟩)).bk b = G.bk b := fun b hb => by rw [put_bk, if_neg hb]
    have kv : ∀ b, H.n < b → b < H1.n → (G.put H.n (some ⟨splice [.nils, .nils] 0 [vr, g], true⟩)).bk b = H1.bk b := fun b h1 h2 => by
      rw [hk b (by omega), z7 b h2 (by omega), hS14.2 b h2 (by omega)]
    have gr2 : GrS (H.n + 1) H1 vr lr.length 1 (Ints lr) Br := by simpa using gr
    refine k vr g ⟨lr, l⟩ Br B H1.n cs _ (by omega) (by simp; omega) ((gr2.keep (by simp; omega) (fun b h1 h2 => kv b (by omega) h2)).up (by omega)) (fun b hb => ?_) (iv4.mono (by simp; omega) (fun b hb hb2 => ?_) (fun b hb _ => by omega)) (z1.keep (by simp) (fun b h1 _ => hk b (by omega))) ((z3.keep (by simp) (fun b h1 _ _ => hk b (by omega))).up (by omega)) zl hlr z5 ((z6.put (by omega)).up (by omega)) ?_
    · have := gr2.mem hb; omega
    · rw [hk b (by omega), z7 b hb.2 (by omega)]
    · exact St.put_new ⟨by have := S04.1; omega, fun b hb hbr => by rw [z7 b (by omega) hbr, S04.2 b hb hbr]⟩ (Nat.le_refl _)
  have := K_sl92Program_l (P2 := H.n) (P3 := H1.n + 1) (base := H1.n) (lo := H1.n + 2) (vr := vr) (nr := lr.length) gr.alen hlr (r := r) (by omega) (by omega) (by omega) (n := j) (by omega) (Q := ?_) j 0 (by simp) (G := H4) (g := .sl H1.n 0 0 (.ex 0)) (l := []) (cs := []) (B := H1.n) (m := m + 51) (by omega) rfl q4
    ⟨by simp, by simp, .inr ⟨Nat.le_refl _, by omega, .inl ⟨rfl, qb⟩⟩⟩ (by omega) (Nat.le_refl _) (.inl ⟨rfl, rfl⟩) (by simp) (hR4.up (by omega)) (by omega) ?_
  · simpa [hj] using this
  · intro e g l cs B G z1 z2 z3 z4 z5 z6 z7 z8 z9 za zb zc
    simp [za, zb, zc]
    refine P_pick z7 (by omega) (by omega) fun y G2 hy hR5 hS5 => ?_
    have n5 := hS5.1
    have g2 := z2.st hS5 (by omega)
    have q5 : G2.bk (H1.n + 1) = some ⟨[vr, g], true⟩ := hS5.at (by omega) (by omega) z5
    have t5 : T0 (H1.n + 2) B G2 l cs := z4.keep n5 (fun b hb _ hb2 => hS5.2 b hb2 (by omega))
    have e5 := t5.lf
    simp
    by_cases hy0 : y = 0
    · simp [hy0, load_bk q5]
      refine K_sl92Endless hR5 (by omega) fun c s G3 s1 cts hR6 hS6 => ?_
      have n6 := hS6.1
      have l8 := s1.len
      have g3 := (g2.st hS6 (by omega)).ext (Ext.push G3 c)
      obtain ⟨f0, l', rfl⟩ : ∃ f0 l', l = f0 :: l' := by
        cases l with
        | nil => simp at z1; omega
        | cons f0 l' => exact ⟨f0, l', rfl⟩
      obtain ⟨cap, G4, rfl, t1, t2, t3, t4, t5⟩ := g3.storeAt (o := 0) (c := [.sl G3.n 0 1 (.ex 1)]) (by simp) (by simp)
      obtain ⟨cc, cr, rfl, h2, h3, hrest⟩ := e5
      have es : splice (cc ++ cr) 0 [.sl G3.n 0 1 (.ex 1)] = [.sl G3.n 0 1 (.ex 1)] ++ cr := by
        obtain ⟨v0, rfl⟩ : ∃ v0, cc = [v0] := by
          cases cc with
          | nil => simp at h2
          | cons a t => cases t with
            | nil => exact ⟨a, rfl⟩
            | cons _ _ => simp at h2
        rfl
      rw [es] at t2
      have q6 : G4.bk (H1.n + 1) = some ⟨[vr, .sl B 0 (f0 :: l').length cap], true⟩ := (t3.2 _ (by simp; omega) (by simp; omega)).trans ((push_old (by omega) rfl).trans (hS6.at (by omega) (by omega) q5))
      have hk4 : ∀ b, b ≠ B → b < G3.n → G4.bk b = G3.bk b := fun b hb hb2 => (t3.2 b (by simp; omega) (by simpa using hb)).trans (push_old hb2 rfl)
      have n7 := t3.1
      simp only [push_n] at n7
      have hBlt : B < G2.n := (g2.mem (b := B) (by simp [grB])).2.2
      have s2 : SF (fun b => G2.n ≤ b) G3 (Sts.of [s]) c := s1.one
      have g30 : GrS (H1.n + 2) G4 (.sl G3.n 0 1 (.ex 1)) (Sts.of [s]).list.length 8 c G3.n := (GrS.new (base := H1.n + 2) (G := G3) (n := 1) (sz := 8) (cs := c) (by omega) (by omega) (by simpa using l8)).keep1 n7 (fun _ hb2 => t3.2 _ hb2 (by simp; omega))
      have t6 : T0 (H1.n + 2) B G4 (Sts.of [s] :: l') ([.sl G3.n 0 1 (.ex 1)] ++ cr) := .inr ⟨_, c, G3.n, _, l', cr, rfl, rfl, g30, by omega, by omega, s2.mono (by omega) (fun b hb hb2 => hk4 b (by omega) hb2) (fun b hb _ => ⟨by omega, by omega, by omega⟩), hrest.imp fun c a h => h.mono (by omega) (fun b hb hb2 => by rw [hk4 b hb.2 (by omega), hS6.2 b hb2 (by omega)]) (fun b hb hb2 => ⟨hb.1, hb.2, by omega⟩)⟩
      obtain ⟨G5, w1, w2, w3, w4⟩ := fin G4 _ (Sts.of [s] :: l') _ B (by simpa using t2) (by simp at z1 ⊢; omega) z3 t6 q6
        (fun f hf => by
          rcases List.mem_cons.1 hf with q | q
          · rw [q]; simp only [Sts.of, ctS]; unfold ctT at cts; omega
          · exact z6 f (List.mem_cons_of_mem _ q)) ((hR6.same (by omega) fun b hb => hk4 b (by omega) (by omega)).up (by omega)) (fun b hb hbr => by rw [hk4 b (by omega) (by omega), hS6.2 b (by omega) hbr, hS5.2 b (by omega) hbr, z8 b hb hbr]) (by omega)
      have elen : (f0 :: l').length = l'.length + 1 := rfl
      have kk : G3.bk (H1.n + 1) = G2.bk (H1.n + 1) := hS6.2 _ (by omega) (by omega)
      rw [elen] at w1 w2 w3 w4
      simp [l8, kk, t1, w1, w2, w3]
      exact w4
    · obtain ⟨G5, w1, w2, w3, w4⟩ := fin G2 g l cs B g2 (by omega) z3 t5 q5 z6 (hR5.up (by omega)) (fun b hb hbr => by rw [hS5.2 b (by omega) hbr, z8 b hb hbr]) (by omega)
      simp [hy0, w1, w2, w3]
      exact w4
end
end Go.Proofs.YtmecbehegmgbhaaGreat.AM
namespace Go.Proofs.YtmecbehegmgbhaaGreat.AM
set_option linter.unusedSimpArgs false
set_option linter.unusedVariables false
set_option maxRecDepth 100000
set_option maxHeartbeats 2000000
open Go
attribute [-simp] AM.elems
def w0 (p : Pg) : Wd := if vaPg p = true then newW p else zeroW
theorem WC.st {base r : Nat} {H H' : AH} {c : List AV} {t : Wd} (h : WC (fun b => base ≤ b) H c t) (k : St r H H') (hr : r < base) : WC (fun b => base ≤ b) H' c t := h.mono k.1 (fun b hb hb2 => k.2 b hb2 (by omega)) (fun _ h _ => h)
theorem WX.st {base r : Nat} {H H' : AH} {c : List AV} {t : Wd} (h : WX (fun b => base ≤ b) H c t) (k : St r H H') (hr : r < base) : WX (fun b => base ≤ b) H' c t := h.mono k.1 (fun b hb hb2 => k.2 b hb2 (by omega)) (fun _ h _ => h)
section
variable {H : AH} {K : AV → AH → Prop} {r : Nat} {w : Fk K} {m boxes : Int}
end
end Go.Proofs.YtmecbehegmgbhaaGreat.AM
namespace Go.Proofs.YtmecbehegmgbhaaGreat.AM
set_option linter.unusedSimpArgs false
set_option linter.unusedVariables false
set_option maxRecDepth 100000
set_option maxHeartbeats 2000000
open Go
attribute [-simp] AM.elems
section
variable {H : AH} {K : AV → AH → Prop} {w : Fk K}
end
end Go.Proofs.YtmecbehegmgbhaaGreat.AM
namespace Go.Proofs.YtmecbehegmgbhaaGreat.AM
set_option linter.unusedSimpArgs false
set_option linter.unusedVariables false
set_option maxRecDepth 100000
set_option maxHeartbeats 2000000
open Go
attribute [-simp] AM.elems
theorem runW_rest {w : Wd} (h : ¬ w.idle < w.tasks.length) : ∀ n, runW n w = w
  | 0 => rfl
  | n + 1 => by unfold runW; rw [if_neg h]
theorem boW.ct {w : Wd} {n : Nat} (h : boW w n) : ∀ t ∈ w.tasks, ctS t.rest ≤ 100000 := fun t ht => (h.1 t ht).1
theorem boW.run {w : Wd} {n m : Nat} (h : boW w (n + m)) (hv : vaWd w = true) : boW (runW n w) m := by
  obtain ⟨a1, a2, a3, a4, ⟨p, a5, a6⟩, a7⟩ := runW_keeps n hv
  have hu := a7 4000 (fun t ht => (h.1 t ht).2)
  have ho := h.2
  refine ⟨fun t ht => ⟨?_, hu t ht⟩, by rw [a5, List.length_append]; omega⟩
  have := (show smW (runW n w) from ⟨a1, hu, by rw [a5, List.length_append]; omega⟩).task ht
  omega
theorem boW.le {w : Wd} {n m : Nat} (h : boW w n) (hm : m ≤ n) : boW w m := ⟨h.1, by have := h.2; omega⟩
end Go.Proofs.YtmecbehegmgbhaaGreat.AM
namespace Go.Proofs.YtmecbehegmgbhaaGreat.AM
set_option linter.unusedSimpArgs false
set_option linter.unusedVariables false
set_option maxRecDepth 100000
set_option maxHeartbeats 2000000
open Go
attribute [-simp] AM.elems
theorem AH.same {G G' : AH} (hn : G.n = G'.n) (h : ∀ b, G.bk b = G'.bk b) : G = G' := by
  cases G; cases G'; simp only [AH.mk.injEq] at *; exact ⟨hn, funext h⟩
theorem GrS.app1 {base B n : Nat} {G : AH} {v : AV} {cs : List AV} (h : GrS base G v n 8 cs B) (hb : base ≤ G.n) (hn : n < 1000000) :
    ∃ B' cap ex, ∃ F : List AV → AH, (∀ c, c.length = 8 → aapp (G.push c) 8 v 1 c = some (.sl B' 0 (n + 1) cap, F c) ∧ (F c).bk B' = some ⟨cs ++ c ++ ex, true⟩ ∧ (F c).n = (F []).n ∧ G.n + 1 ≤ (F c).n ∧ B' < (F c).n ∧ (∀ b, b ≠ B' → b ≠ G.n → (F c).bk b = (F []).bk b) ∧
      (∀ b, b < G.n → b ≠ B ∨ b < base → (F c).bk b = G.bk b) ∧ GrS base (F c) (.sl B' 0 (n + 1) cap) (n + 1) 8 (cs ++ c) B') ∧ B' ≠ G.n ∧ base ≤ B' ∧ ((B' = B ∧ B < G.n) ∨ B' = G.n + 1) := by
  obtain ⟨h1, h2, h3⟩ := h
  rcases h3 with ⟨rfl, rfl⟩ | ⟨h4, h5, ⟨rfl, h6⟩ | ⟨c0, ex, rfl, h7, h8, h9⟩⟩
  · have : cs = [] := List.eq_nil_of_length_eq_zero (by omega)
    subst this
    refine ⟨G.n + 1, .lb 1 8, [], fun c => (G.push c).push c, fun c hc => ⟨?_, by simp, rfl, by simp, by simp, fun b h1 h2 => by simp [h1, h2], fun b hb2 _ => push_old (by simp; omega) (push_old hb2 rfl), by omega, by simp; omega, .inr ⟨by omega, by simp, .inr ⟨1, [], rfl, by omega, by simp, by simp⟩⟩⟩, by omega, by omega, .inr rfl⟩
    unfold aapp
    rw [if_neg (by omega), if_pos (by unfold big; omega)]; rfl
  · refine ⟨G.n + 1, .lb (n + 1) 8, [], fun c => (G.push c).push (cs ++ c), fun c hc => ⟨?_, by simp, rfl, by simp, by simp, fun b h1 h2 => by simp [h1, h2], fun b hb2 _ => push_old (by simp; omega) (push_old hb2 rfl), by omega, by simp; omega, .inr ⟨by omega, by simp, .inr ⟨n + 1, [], rfl, by omega, by simp, by simp⟩⟩⟩, by omega, by omega, .inr rfl⟩
    have e1 : (G.push c).loadN B 0 (n * 8) = some cs := by rw [loadN_bk (push_old h5 h6)]; exact seg_self h2
    unfold aapp
    simp only [Nat.zero_add]
    rw [if_neg (by omega), if_neg (by unfold big; omega)]
    rw [if_neg (by omega), e1]
    rfl
  · by_cases hc0 : n + 1 ≤ c0
    · refine ⟨B, .lb c0 8, ex.drop 8, fun c => (G.push c).put B (some ⟨cs ++ c ++ ex.drop 8, true⟩), fun c hc => ⟨?_, by simp, rfl, by simp, by simp; omega, fun b h1 h2 => by simp only [put_bk, push_bk]; rw [if_neg h1, if_neg h1, if_neg h2, if_neg h2], fun b hb2 hbb => by rw [put_bk, if_neg (by omega)]; exact push_old hb2 rfl, by omega, by simp; omega, .inr ⟨by omega, by simp; omega, .inr ⟨c0, ex.drop 8, rfl, by omega, by simp; omega, by simp⟩⟩⟩, by omega, by omega, .inl ⟨rfl, h5⟩⟩
      have e3 := store_bk (o := n * 8) (vs := c) (push_old (cs := c) h5 h9) (by simp; omega)
      have e2 : splice (cs ++ ex) (n * 8) c = (cs ++ c) ++ ex.drop 8 := by
        unfold splice
        rw [← h2, List.take_left, List.drop_append]
        rw [List.drop_of_length_le (by omega), List.nil_append]
        congr 2; omega
      rw [e2] at e3
      unfold aapp
      simp only [Nat.zero_add]
      rw [if_neg (by omega), if_neg (by unfold big; omega)]
      rw [if_neg (by simp), if_pos hc0, e3]; rfl
    · refine ⟨G.n + 1, .lb (n + 1) 8, [], fun c => ((G.push c).put B none).push (cs ++ c), fun c hc => ⟨?_, by simp, rfl, by simp, by simp, fun b h1 h2 => ?_, fun b hb2 hbb => ?_, by omega, by simp; omega, .inr ⟨by omega, by simp, .inr ⟨n + 1, [], rfl, by omega, by simp, by simp⟩⟩⟩, by omega, by omega, .inr rfl⟩
      · have e1 : (G.push c).loadN B 0 (n * 8) = some cs := by rw [loadN_bk (push_old h5 h9)]; exact seg_app h2
        have e2 : (G.push c).bk B = _ := push_old h5 h9
        unfold aapp
        simp only [Nat.zero_add]
        rw [if_neg (by omega), if_neg (by unfold big; omega)]
        rw [if_neg (by simp), if_neg hc0, e1, e2]
        rfl
      · simp [h1, h2]
      · refine push_old (by simp; omega) ?_
        rw [put_bk, if_neg (by omega)]; exact push_old hb2 rfl
theorem GrS.out {base G v n sz cs B} (h : GrS base G v n sz cs B) (hn : 0 < n) : ∃ cap xs, v = .sl B 0 n cap ∧ base ≤ B ∧ B < G.n ∧ G.bk B = some ⟨cs ++ xs, true⟩ := by
  obtain ⟨h1, h2, ⟨h3, h3'⟩ | ⟨h4, h5, ⟨rfl, h6⟩ | ⟨c0, ex, rfl, h7, h8, h9⟩⟩⟩ := h
  · omega
  · exact ⟨_, [], rfl, h4, h5, by simpa using h6⟩
  · exact ⟨_, ex, rfl, h4, h5, h9⟩
section
variable {H : AH} {K : AV → AH → Prop} {r : Nat} {w : Fk K} {m boxes : Int}
theorem K_sl92Wrong (h : Rdx H r m) (hm : m ≤ 300000000000)
    (k : ∀ c p H', PgC (fun b => H.n ≤ b) H' c p → (∀ f ∈ p.tasks, ctS f ≤ 1001) → p.tasks.length ≤ 6 → p.rooms.length ≤ 4 → Rdx H' r (m + 700000) → St r H H' → K (.agg c) H') : CallF Cd f_sl92Wrong [.ptr r 0] H K w := by
  rw [CallF_eq e_sl92Wrong rfl]
  have hr := h.lt
  simp
  refine K_sl92ProgramX h.push (by omega) fun vr vt p RB TB lo cs H1 hlo1 hlo2 g1 hgl iv1 g2 t0 hl hlr hct hR1 hS1 => ?_
  simp only [push_n] at hlo1 g1 hgl iv1
  have n1 := hS1.1
  simp only [push_n] at n1
  have fr := g1.flat
  have ft := g2.flat
  simp [flat_cells fr, flat_tup fr, flat_cells ft, flat_tup ft]
  have e2 : (H1.push [.nils, .nils]).store H1.n 0 [vr, vt] = some (H1.push [vr, vt]) := store_push2e
  simp [e2]
  refine P_pick hR1.push (by omega) (by omega) fun x H3 hx hR3 hS3 => ?_
  have n3 := hS3.1
  simp only [push_n] at n3
  have hS13 : St r H1 H3 := (Ext.push H1 [vr, vt]).st.trans hS3
  have S03 : St r H H3 := ((Ext.push H _).st.trans hS1).trans hS13
  have g3 : GrS (H.n + 1) H3 vr p.rooms.length 1 (Ints p.rooms) RB := g1.st hS13 (by omega)
  have gt3 : GrS lo H3 vt p.tasks.length 1 cs TB := g2.st hS13 (by omega)
  have t3 : T0 lo TB H3 p.tasks cs := t0.keep (by omega) (fun b hb _ hb2 => hS13.2 b hb2 (by omega))
  have q3 : H3.bk H1.n = some ⟨[vr, vt], true⟩ := hS3.at (by simp) (by omega) push_new
  have qR : H3.bk H.n = some ⟨[.nils, .nils], true⟩ := hS13.at (by omega) (by omega) (hS1.at (by simp) (by omega) push_new)
  have ar := g3.alen
  have at' := gt3.alen
  have hRB : ∀ b, b ∈ grB vr RB → b = RB ∧ H.n + 1 ≤ RB ∧ RB < lo := fun b hb => ⟨(g3.mem hb).1, (g3.mem hb).2.1, by have := hgl b hb; have := (g3.mem hb).1; omega⟩
  have hTB : ∀ b, b ∈ grB vt TB → b = TB ∧ lo ≤ TB ∧ TB < H1.n := fun b hb => g2.mem hb
  have iv3 : IV (fun b => H.n + 1 ≤ b ∧ b < lo) H3 vr p.rooms := iv1.mono (by omega) (fun b hb hb2 => hS13.2 b hb2 (by omega)) (fun _ h _ => h)
  have lf1 : LF 1 (L1 (fun b => (lo ≤ b ∧ b ≠ TB) ∧ b < H1.n) H3) p.tasks cs := t0.lf.imp fun c a h => h.mono (by omega) (fun b hb hb2 => hS13.2 b hb2 (by omega)) (fun b hb hb2 => ⟨hb, hb2⟩)
  have lv3 : LV (fun b => lo ≤ b ∧ b < H1.n) H3 vt p.tasks := ⟨cs, g2.slc.mono (by omega) (fun b hb hb2 => hS13.2 b hb2 (by omega)) (fun b hb hb2 => ⟨hb, hb2⟩), lf1.imp fun c a h => h.mono (Nat.le_refl _) (fun _ _ _ => rfl) (fun b hb _ => ⟨hb.1.1, hb.2⟩)⟩
  have fin : ∀ (G : AH) (vr' vt' : AV) (p' : Pg), G.bk H1.n = some ⟨[vr', vt'], true⟩ → IV (fun b => H.n < b) G vr' p'.rooms → LV (fun b => H.n < b) G vt' p'.tasks → (∀ f ∈ p'.tasks, ctS f ≤ 1001) → p'.tasks.length ≤ 6 → p'.rooms.length ≤ 4 → Rdx G r (m + 650000) → G.bk H.n = some ⟨[.nils, .nils], true⟩ → St r H G →
      ∃ G1, G.loadN H1.n 0 2 = some [vr', vt'] ∧ G.store H.n 0 [vr', vt'] = some G1 ∧ G1.loadN H.n 0 2 = some [vr', vt'] ∧ K (.agg [vr', vt']) G1 := by
    intro G vr' vt' p' z1 z2 z3 z4 z5 z6 z7 z8 z9
    refine ⟨_, by rw [loadN_bk z1]; rfl, store_bk z8 (by simp), by rw [loadN_bk put_same]; rfl, ?_⟩
    have hk : ∀ b, b ≠ H.n → (G.put H.n (some ⟨splice [.nils, .nils] 0 [vr', vt'], true⟩)).bk b = G.bk b := fun b hb => by rw [put_bk, if_neg hb]
    exact k _ p' _ ⟨vr', vt', rfl, z2.mono (by simp) (fun b hb _ => hk b (by omega)) (fun b hb _ => by omega), z3.mono (by simp) (fun b hb _ => hk b (by omega)) (fun b hb _ => by omega)⟩ z4 z5 z6 ((z7.put (by omega)).up (by omega)) (z9.put_new (Nat.le_refl _))
  have hct' : ∀ f ∈ p.tasks, ctS f ≤ 1001 := fun f hf => by have := hct f hf; omega
  have S1G : ∀ G : AH, H3.n ≤ G.n → (∀ b, b < H3.n → b ≠ H1.n → b ≠ TB ∨ b < lo → b ≠ RB ∨ b < H.n + 1 ∨ lo ≤ b → b ≠ r → G.bk b = H3.bk b) → G.bk H.n = some ⟨[.nils, .nils], true⟩ ∧ St r H G := fun G hn hk =>
    ⟨(hk _ (by omega) (by omega) (by omega) (by omega) (by omega)).trans qR, by have := S03.1; omega, fun b hb hbr => (hk b (by omega) (by omega) (by omega) (by omega) hbr).trans (S03.2 b hb hbr)⟩
  simp
  by_cases x0 : x = 0
  · simp [x0, load_bk q3]
    refine P_pick hR3.push (by omega) (by omega) fun z H4 hz hR4 hS4 => ?_
    have n4 := hS4.1
    simp only [push_n] at n4
    obtain ⟨q, hq, eq⟩ := @Ints_get [0, 5] z 2 (by omega) rfl
    have eb : H4.bk H3.n = some ⟨Ints [0, 5], true⟩ := hS4.at (by simp) (by omega) push_new
    have q4 : H4.bk H1.n = some ⟨[vr, vt], true⟩ := hS4.at (by simp; omega) (by omega) (push_old (by omega) q3)
    have k3 : (H3.push (Ints [0, 5])).bk H1.n = some ⟨[vr, vt], true⟩ := push_old (by omega) q3
    have hS34 : St r H3 H4 := (Ext.push H3 _).st.trans hS4
    obtain ⟨g', G', B', a1, a2, a3, a4⟩ := ((g3.st hS34 (by omega)).ext (Ext.push H4 [.I q])).app (k := 1) (new := [.I q]) (by simp; omega) (by simp) (by omega)
    have n5 := a4.1
    simp only [push_n] at n5 a3
    have hk : ∀ b, b < H4.n → b ≠ RB ∨ b < H.n + 1 ∨ lo ≤ b → G'.bk b = H4.bk b := fun b hb hb2 => (a4.2 b (by simp; omega) (fun hq => by have := hRB b hq; omega)).trans (push_old hb rfl)
    have q5 : G'.bk H1.n = some ⟨[vr, vt], true⟩ := (hk _ (by omega) (by omega)).trans q4
    have st := store_cell (v := g') q5 (o := 0) (by simp)
    simp only [List.set_cons_succ, List.set_cons_zero] at st
    have f5 := a2.flat
    have hne : ¬ H1.n = H3.n := by omega
    have e8 : Ints p.rooms ++ [AV.I q] = Ints (p.rooms ++ [q]) := by simp [Ints]
    have hB' : B' ≠ H1.n ∧ H.n < B' := by
      rcases a3 with z | z
      · have := hRB _ z.2; omega
      · omega
    rw [e8] at a2
    obtain ⟨s1, s2⟩ := S1G (G'.put H1.n (some ⟨[g', vt], true⟩)) (by simp; omega) (fun b c1 c2 c3 c4 c5 => by rw [put_bk, if_neg c2, hk b (by omega) c4, hS34.2 b c1 c5])
    have a6 := a2.keep1 (G := G'.put H1.n (some ⟨[g', vt], true⟩)) (by simp) (fun _ _ => by rw [put_bk, if_neg hB'.1])
    obtain ⟨G1, u1, u2, u3, u4⟩ := fin (G'.put H1.n (some ⟨[g', vt], true⟩)) g' vt ⟨p.rooms ++ [q], p.tasks⟩ put_same (by have := a6.ivB (ok := fun b => H.n < b) (fun _ _ => hB'.2); simpa [IV] using this)
      (lv3.mono (by simp; omega) (fun b hb hb2 => by rw [put_bk, if_neg (by omega), hk b (by omega) (by omega), hS34.2 b hb2 (by omega)]) (fun b hb _ => by omega)) hct' (by simp only; omega) (by simp; omega) (((hR4.same (by omega) fun b hb => hk b (by have := hR4.lt; omega) (.inr (.inl (by omega)))).put (by omega)).up (by omega)) s1 s2
    simp (disch := omega) [AM.elems, load_eq, eb, eq, q4, q3, k3, hne, loadN_push, a1, st, flat_cells f5, flat_tup f5, u1, u2, u3]
    exact ⟨rfl, u4⟩
  by_cases x1 : x = 1
  · simp [x1, load_bk q3, ar]
    refine K_sl91Leaf hR3 (by omega) fun op n v H4 d4 hR4 hS4 => ?_
    have n4 := hS4.1
    have q4 : H4.bk H1.n = some ⟨[vr, vt], true⟩ := hS4.at (by omega) (by omega) q3
    have sm := (leafT_S1 (k := 4) (v := 0) (b := p.rooms.length) (e := ⟨op, n, .nil⟩) d4.ev).ext (Ext.push H4 [.I 4, .I 0, .I p.rooms.length, .I op, .I n, v, .nils, .nils])
    have svm : SV (fun b => H3.n ≤ b) (H4.push [.I 4, .I 0, .I p.rooms.length, .I op, .I n, v, .nils, .nils]) (.sl H4.n 0 1 (.ex 1)) (Sts.of [leafT 4 0 p.rooms.length ⟨op, n, .nil⟩]) :=
      ⟨_, (GrS.new (base := H3.n) (G := H4) (n := 1) (sz := 8) (cs := [.I 4, .I 0, .I p.rooms.length, .I op, .I n, v, .nils, .nils]) (by omega) (by omega) rfl).slc, sm.one⟩
    obtain ⟨G5, hG5⟩ : ∃ G5, G5 = (H4.push [.I 4, .I 0, .I p.rooms.length, .I op, .I n, v, .nils, .nils]).push [.sl H4.n 0 1 (.ex 1)] := ⟨_, rfl⟩
    have hS5 : St r H3 G5 := by rw [hG5]; exact (hS4.push).push
    have n5 : G5.n = H4.n + 2 := by rw [hG5]; rfl
    have l1 : L1 (fun b => H3.n ≤ b ∧ b ≠ H1.n) G5 [.sl H4.n 0 1 (.ex 1)] (Sts.of [leafT 4 0 p.rooms.length ⟨op, n, .nil⟩]) := by
      rw [hG5]; exact ⟨_, rfl, (svm.ext (Ext.push _ _)).mono (Nat.le_refl _) (fun _ _ _ => rfl) (fun b hb _ => ⟨hb, by omega⟩)⟩
    obtain ⟨g', G', B', a1, a2, a3, a4, a5, a6⟩ := LF.snoc3 (E := fun ok H c f => L1 (fun b => ok b ∧ b ≠ H1.n) H c f) (fun h h1 h2 h3 => h.mono h1 (fun b hb => h2 b hb.1) (fun b hb h => ⟨h3 b hb.1 h, hb.2⟩)) gt3 (lf1.imp fun c a h => h.mono (Nat.le_refl _) (fun _ _ _ => rfl) (fun b hb _ => ⟨hb.1, by omega⟩)) (by omega) (by omega) (r := r) (by omega) (by omega) hS5 rfl l1 (by omega)
    have hk : ∀ b, b < G5.n → b ≠ TB ∨ b < lo ∨ H1.n ≤ b → G'.bk b = G5.bk b := fun b hb hb2 => a4.2 b hb (fun hq => by have := hTB b hq; omega)
    have n6 := a4.1
    have q6 : G'.bk H1.n = some ⟨[vr, vt], true⟩ := (hk _ (by omega) (by omega)).trans (hS5.at (by omega) (by omega) q3)
    have st := store_cell (v := g') q6 (o := 1) (by simp)
    simp only [List.set_cons_succ, List.set_cons_zero] at st
    rw [hG5] at a1
    have hB' : B' ≠ H1.n ∧ H.n < B' := by
      rcases a5 with z | z
      · have := hTB _ z.2; omega
      · omega
    obtain ⟨s1, s2⟩ := S1G (G'.put H1.n (some ⟨[vr, g'], true⟩)) (by simp; omega) (fun b c1 c2 c3 c4 c5 => by rw [put_bk, if_neg c2, hk b (by omega) (by omega), hS5.2 b c1 c5])
    have a7 := a2.keep1 (G := G'.put H1.n (some ⟨[vr, g'], true⟩)) (by simp) (fun _ _ => by rw [put_bk, if_neg hB'.1])
    obtain ⟨G1, u1, u2, u3, u4⟩ := fin (G'.put H1.n (some ⟨[vr, g'], true⟩)) vr g' ⟨p.rooms, p.tasks ++ [Sts.of [leafT 4 0 p.rooms.length ⟨op, n, .nil⟩]]⟩ put_same
      (iv3.mono (by simp; omega) (fun b hb hb2 => by rw [put_bk, if_neg (by omega), hk b (by omega) (by omega), hS5.2 b hb2 (by omega)]) (fun b hb _ => by omega))
      ⟨_, a7.ivB (fun _ _ => hB'.2), a3.imp fun c a h => h.mono (by simp) (fun b hb _ => by rw [put_bk, if_neg hb.2]) (fun b hb _ => by omega)⟩
      (fun f hf => by
        rcases List.mem_append.1 hf with z | z
        · exact hct' f z
        · rw [List.mem_singleton.1 z]; simp [Sts.of, ctS, leafT]) (by simp; omega) (by simp only; omega) (((hR4.push.push).same (G' := G') (by rw [hG5] at n6; simpa using n6) (fun b hb => by rw [hk b (by omega) (by omega), hG5]) |>.put (by omega)).up (by omega)) s1 s2
    simp [AM.elems, q4, q3, loadN_push, a1, st, flat_cells a6, flat_tup a6, u1, u2, u3]
    exact u4
  by_cases x2 : x = 2
  · have q4 : (H3.push []).bk H1.n = some ⟨[vr, vt], true⟩ := push_old (by omega) q3
    have st := store_cell (v := .sl H3.n 0 0 (.ex 0)) q4 (o := 1) (by simp)
    simp only [List.set_cons_succ, List.set_cons_zero] at st
    obtain ⟨s1, s2⟩ := S1G ((H3.push []).put H1.n (some ⟨[vr, .sl H3.n 0 0 (.ex 0)], true⟩)) (by simp) (fun b c1 c2 c3 c4 c5 => by rw [put_bk, if_neg c2]; exact push_old c1 rfl)
    have b0 : ((H3.push []).put H1.n (some ⟨[vr, .sl H3.n 0 0 (.ex 0)], true⟩)).bk H3.n = some ⟨[], true⟩ := by rw [put_bk, if_neg (by omega)]; exact push_new
    obtain ⟨G1, u1, u2, u3, u4⟩ := fin ((H3.push []).put H1.n (some ⟨[vr, .sl H3.n 0 0 (.ex 0)], true⟩)) vr (.sl H3.n 0 0 (.ex 0)) ⟨p.rooms, []⟩ put_same
      (iv3.mono (by simp) (fun b hb hb2 => by rw [put_bk, if_neg (by omega)]; exact push_old hb2 rfl) (fun b hb _ => by omega))
      ⟨[], ⟨by simp, rfl, .inr ⟨H3.n, 0, _, rfl, ⟨by omega, by simp [capOk]⟩, by simp, by rw [loadN_bk b0]; rfl⟩⟩, rfl⟩
      (fun f hf => by simp at hf) (by simp) (by simp only; omega) ((hR3.push.put (by omega)).up (by omega)) s1 s2
    simp [x2, st, u1, u2, u3]
    exact u4
  by_cases x3 : x = 3
  · obtain ⟨cap, xs, rfl, b1, b2, b3⟩ := gt3.out (by omega)
    rcases t3 with ⟨e0, _⟩ | ⟨v0, c0, B0, f0, l', cs', e1, rfl, w1, w2, w3, w4, w5⟩
    · rw [e0] at hl; simp at hl
    have hl1 : 0 < p.tasks.length := by omega
    have b4 : (H3.push [v0, v0, v0]).bk TB = _ := push_old b2 b3
    obtain ⟨g', G', B', a1, a2, a3, a4⟩ := (gt3.ext (Ext.push H3 [v0, v0, v0])).app (k := 3) (new := [v0, v0, v0]) (by simp; omega) (by simp) (by omega)
    have n5 := a4.1
    simp only [push_n] at n5 a3
    have hk : ∀ b, b < H3.n → b ≠ TB ∨ b < lo ∨ H1.n ≤ b → G'.bk b = H3.bk b := fun b hb hb2 => (a4.2 b (by simp; omega) (fun hq => by have := hTB b hq; omega)).trans (push_old hb rfl)
    have q5 : G'.bk H1.n = some ⟨[vr, .sl TB 0 p.tasks.length cap], true⟩ := (hk _ (by omega) (by omega)).trans q3
    have st := store_cell (v := g') q5 (o := 1) (by simp)
    simp only [List.set_cons_succ, List.set_cons_zero] at st
    have f5 := a2.flat
    have f0' := w1.flat
    have hB' : B' ≠ H1.n ∧ H.n < B' ∧ (B' = TB ∨ B' = H3.n + 1) := by
      rcases a3 with z | z
      · have := hTB _ z.2; omega
      · omega
    have hTB1 : TB < H1.n := (hTB TB (by simp [grB])).2.2
    obtain ⟨s1, s2⟩ := S1G (G'.put H1.n (some ⟨[vr, g'], true⟩)) (by simp; omega) (fun b c1 c2 c3 c4 c5 => by rw [put_bk, if_neg c2, hk b (by omega) (by omega)])
    have a7 := a2.keep1 (G := G'.put H1.n (some ⟨[vr, g'], true⟩)) (by simp) (fun _ _ => by rw [put_bk, if_neg hB'.1])
    obtain ⟨cc, hcc, l0⟩ := lf1.get (i := 0) (a := f0) (by rw [e1]; rfl)
    have : cc = [v0] := by
      unfold seg at hcc
      rw [if_pos (by simp)] at hcc
      exact (Option.some.inj hcc).symm
    subst this
    have mv : ∀ c a, L1 (fun b => (lo ≤ b ∧ b ≠ TB) ∧ b < H1.n) H3 c a → L1 (fun b => H.n < b) (G'.put H1.n (some ⟨[vr, g'], true⟩)) c a := fun c a h => h.mono (by simp; omega) (fun b hb _ => by rw [put_bk, if_neg (by omega), hk b (by omega) (by omega)]) (fun b hb _ => by omega)
    obtain ⟨G1, u1, u2, u3, u4⟩ := fin (G'.put H1.n (some ⟨[vr, g'], true⟩)) vr g' ⟨p.rooms, p.tasks ++ [f0, f0, f0]⟩ put_same
      (iv3.mono (by simp; omega) (fun b hb hb2 => by rw [put_bk, if_neg (by omega), hk b (by omega) (by omega)]) (fun b hb _ => by omega))
      ⟨_, by simpa using a7.ivB (ok := fun b => H.n < b) (fun _ _ => hB'.2.1), (lf1.imp mv).app ⟨[v0], [v0, v0], rfl, rfl, mv _ _ l0, [v0], [v0], rfl, rfl, mv _ _ l0, [v0], [], rfl, rfl, mv _ _ l0, rfl⟩⟩
      (fun f hf => by
        rcases List.mem_append.1 hf with z | z
        · exact hct' f z
        · have : f = f0 := by simpa using z
          rw [this]; exact hct' f0 (by rw [e1]; simp)) (by simp; omega) (by simp only; omega) (((hR3.push).same (G' := G') (by simpa using n5) (fun b hb => (a4.2 b (by simp; omega) (fun hq => by have := hTB b hq; omega)).trans rfl) |>.put (by omega)).up (by omega)) s1 s2
    simp [AM.elems, x3, load_bk q3, hl1, load_bk b3, flat_cells f0', flat_tup f0', loadN_push, a1, st, flat_cells f5, flat_tup f5, u1, u2, u3]
    exact u4
  by_cases x4 : x = 4
  · obtain ⟨cap, xs, rfl, b1, b2, b3⟩ := g2.out (by omega)
    rcases t0 with ⟨e0, _⟩ | ⟨v0, c0, B0, f0, l', cs', e1, rfl, w1, w2, w3, w4, w5⟩
    · rw [e0] at hl; simp at hl
    have hl1 : 0 < p.tasks.length := by omega
    have hsk : ∀ b, b < H3.n → H3.skip.bk b = H3.bk b := fun b hb => by unfold AH.skip; rw [put_bk, if_neg (by omega)]; exact push_old hb rfl
    obtain ⟨J, hJ⟩ : ∃ J, J = H3.skip := ⟨_, rfl⟩
    have nJ : J.n = H3.n + 1 := by rw [hJ]; rfl
    rw [← hJ] at hsk
    have hJ1 : ∀ b, b < H1.n → b ≠ r → J.bk b = H1.bk b := fun b hb hbr => (hsk b (by omega)).trans (hS13.2 b hb hbr)
    have wJ := w1.keep1 (G := J) (by omega) (fun q1 q2 => hJ1 _ q2 (by omega))
    have hlen := len_ctS (f := f0)
    have hc0 := hct f0 (by rw [e1]; simp)
    obtain ⟨B', cp, ex, F, hF, hB1, hB2, hB3⟩ := wJ.app1 (by omega) (by omega)
    obtain ⟨A1, A2, A3, A4, A5, A6, A7, A8⟩ := hF [.I 0, .I 0, .I 0, .I 0, .I 0, .nils, .nils, .nils] rfl
    obtain ⟨D1, D2, D3, D4, D5, D6, D7, D8⟩ := hF [.I 9, .I 0, .I 0, .I 0, .I 0, .nils, .nils, .nils] rfl
    generalize hF1 : F [.I 0, .I 0, .I 0, .I 0, .I 0, .nils, .nils, .nils] = F1 at *
    generalize hF2 : F [.I 9, .I 0, .I 0, .I 0, .I 0, .nils, .nils, .nils] = F2 at *
    have jH1 : J.bk H1.n = some ⟨[vr, .sl TB 0 p.tasks.length cap], true⟩ := (hsk _ (by omega)).trans q3
    have jTB : J.bk TB = some ⟨v0 :: (cs' ++ xs), true⟩ := (hJ1 _ b2 (by omega)).trans b3
    have fTB1 : F1.bk TB = some ⟨v0 :: (cs' ++ xs), true⟩ := (A7 TB (by omega) (.inl (Ne.symm w2))).trans jTB
    have fTB2 : F2.bk TB = some ⟨v0 :: (cs' ++ xs), true⟩ := (D7 TB (by omega) (.inl (Ne.symm w2))).trans jTB
    have s1 := store_cell (v := .sl B' 0 (f0.list.length + 1) cp) fTB1 (o := 0) (by simp)
    have s2 := store_cell (v := .sl B' 0 (f0.list.length + 1) cp) fTB2 (o := 0) (by simp)
    simp only [List.set_cons_zero] at s1 s2
    have v0l := w1.alen
    have v0f := w1.flat
    have lc0 := w1.2.1
    have hBT : B' ≠ TB := by omega
    have s3 := store_bk (H := F1.put TB (some ⟨.sl B' 0 (f0.list.length + 1) cp :: (cs' ++ xs), true⟩)) (o := f0.list.length * 8) (vs := [.I 9, .I 0, .I 0, .I 0, .I 0, .nils, .nils, .nils]) ((by rw [put_bk, if_neg hBT]; exact A2)) (by simp; omega)
    have e3 : splice (c0 ++ [AV.I 0, .I 0, .I 0, .I 0, .I 0, .nils, .nils, .nils] ++ ex) (f0.list.length * 8) [.I 9, .I 0, .I 0, .I 0, .I 0, .nils, .nils, .nils] = c0 ++ [.I 9, .I 0, .I 0, .I 0, .I 0, .nils, .nils, .nils] ++ ex := by
      unfold splice; rw [← lc0]; simp
    rw [e3] at s3
    have hne : ¬ H1.n = J.n := by omega
    have hne2 : ¬ TB = J.n := by omega
    simp [x4, load_bk q3]
    refine W_alt (e' := [(2, .ptr H.n 0), (3, .ptr H1.n 0)]) (H' := (F2.put TB (some ⟨.sl B' 0 (f0.list.length + 1) cp :: (cs' ++ xs), true⟩)).put J.n none) rfl rfl ?_ ?_ ?_
    · rw [← hJ]
      have hlt : (f0.list.length : Int) < f0.list.length + 1 := by omega
      simp [AM.elems, load_bk jH1, load_bk jTB, hl1, v0l, loadN_push, A1, s1, s3, hlt]
      rw [W_kill (b := J.n) (o := 0) (n := 1) (c := .ex 1) rfl]
      simp
      refine AH.same (by simp; omega) fun b => ?_
      simp only [put_bk]
      by_cases c1 : b = J.n
      · rw [if_pos c1, if_pos c1]
      rw [if_neg c1, if_neg c1]
      by_cases c2 : b = B'
      · rw [if_pos c2, if_neg (by omega), c2, D2]; simp
      rw [if_neg c2]
      by_cases c3 : b = TB
      · rw [if_pos c3, if_pos c3]
      rw [if_neg c3, if_neg c3, A6 b c2 c1, D6 b c2 c1]
    · rw [← hJ]
      have fH1 : F2.bk H1.n = some ⟨[vr, .sl TB 0 p.tasks.length cap], true⟩ := (D7 _ (by omega) (by omega)).trans jH1
      simp [AM.elems, load_bk jH1, load_bk jTB, hl1, v0l, loadN_push, D1, s2, hne, fH1, jH1]
      rw [W_kill (b := J.n) (o := 0) (n := 1) (c := .ex 1) rfl]
      simp
    obtain ⟨G, hG⟩ : ∃ G, G = (F2.put TB (some ⟨.sl B' 0 (f0.list.length + 1) cp :: (cs' ++ xs), true⟩)).put J.n none := ⟨_, rfl⟩
    rw [← hG]
    have nG : G.n = F2.n := by rw [hG]; rfl
    have hGk : ∀ b, b ≠ TB → b ≠ J.n → G.bk b = F2.bk b := fun b c1 c2 => by rw [hG, put_bk, if_neg c2, put_bk, if_neg c1]
    have hG1 : ∀ b, b < H1.n → b ≠ TB → b ≠ B0 ∨ b < lo → b ≠ r → G.bk b = H1.bk b := fun b c1 c2 c3 c4 => by rw [hGk b c2 (by omega), D7 b (by omega) c3, hJ1 b c1 c4]
    have hG3 : ∀ b, b < H3.n → b ≠ TB → b ≠ B0 ∨ b < lo → G.bk b = H3.bk b := fun b c1 c2 c3 => by rw [hGk b c2 (by omega), D7 b (by omega) c3, hsk b c1]
    have gTB : G.bk TB = some ⟨.sl B' 0 (f0.list.length + 1) cp :: (cs' ++ xs), true⟩ := by rw [hG, put_bk, if_neg hne2]; exact put_same
    have gH1 : G.bk H1.n = some ⟨[vr, .sl TB 0 p.tasks.length cap], true⟩ := (hG3 _ (by omega) (by omega) (by omega)).trans q3
    have a7 := D8.keep1 (G := G) (by omega) (fun _ _ => hGk B' (by omega) (by omega))
    have s9 : S1 (fun b => H.n < b) G [.I 9, .I 0, .I 0, .I 0, .I 0, .nils, .nils, .nils] ⟨9, 0, 0, ⟨0, 0, .nil⟩, .nil, .nil⟩ := ⟨.nils, .nils, .nils, rfl, ⟨[], ⟨by simp, rfl, .inl ⟨rfl, .inl rfl⟩⟩, rfl⟩, SV.nil (.inl rfl), SV.nil (.inl rfl)⟩
    have sfn : SF (fun b => H.n < b) G (Sts.of (f0.list ++ [⟨9, 0, 0, ⟨0, 0, .nil⟩, .nil, .nil⟩])) (c0 ++ [.I 9, .I 0, .I 0, .I 0, .I 0, .nils, .nils, .nils]) := by
      have := SF.app (w4.mono (ok' := fun b => H.n < b) (H' := G) (by omega) (fun b hb hb2 => hG1 b hb2 hb.2.1 (.inl hb.2.2) (by omega)) (fun b hb _ => by omega)) s9.one
      rwa [Sts.list_of] at this
    have lenf : (Sts.of (f0.list ++ [⟨9, 0, 0, ⟨0, 0, .nil⟩, .nil, .nil⟩])).list.length = f0.list.length + 1 := by rw [Sts.list_of]; simp
    have svn : SV (fun b => H.n < b) G (.sl B' 0 (f0.list.length + 1) cp) (Sts.of (f0.list ++ [⟨9, 0, 0, ⟨0, 0, .nil⟩, .nil, .nil⟩])) := ⟨_, by rw [lenf]; exact a7.ivB (fun _ _ => by omega), sfn⟩
    have lcs : (v0 :: cs').length = p.tasks.length := by have := g2.2.1; simpa using this
    obtain ⟨z1, z2, ⟨z3, _⟩ | ⟨bb, oo, cc, z4, z5, z6, z7⟩⟩ := g2.slc
    · omega
    simp only [AV.sl.injEq, true_and] at z4
    obtain ⟨rfl, rfl, rfl⟩ := z4
    have ll : p.tasks.length = l'.length + 1 := by rw [e1]; rfl
    have lc : cs'.length + 1 = p.tasks.length := by simpa using lcs
    have k1 : G.bk H.n = some ⟨[.nils, .nils], true⟩ := (hG3 _ (by omega) (by omega) (by omega)).trans qR
    have k2 : St r H G := ⟨by have := S03.1; omega, fun b hb hbr => (hG3 b (by omega) (by omega) (by omega)).trans (S03.2 b hb hbr)⟩
    obtain ⟨G1, u1, u2, u3, u4⟩ := fin G vr _ ⟨p.rooms, Sts.of (f0.list ++ [⟨9, 0, 0, ⟨0, 0, .nil⟩, .nil, .nil⟩]) :: l'⟩ gH1
      (iv3.mono (by omega) (fun b hb hb2 => hG3 b hb2 (by omega) (by omega)) (fun b hb _ => by omega))
      ⟨.sl B' 0 (f0.list.length + 1) cp :: cs', ⟨by simp only [List.length_cons]; omega, by simp only [List.length_cons]; omega, .inr ⟨TB, 0, cap, by rw [e1]; rfl, ⟨by omega, by simp only [List.length_cons]; have := z5.2; rw [e1] at this; exact this⟩, by omega, by
        rw [loadN_bk gTB]
        exact seg_app (cs := .sl B' 0 (f0.list.length + 1) cp :: cs') (ex := xs) (by rw [e1] at lcs; simpa using lcs)⟩⟩,
        [_], cs', rfl, rfl, ⟨_, rfl, svn⟩, w5.imp fun c a h => h.mono (by omega) (fun b hb hb2 => hG1 b hb2 hb.2.1 (.inl hb.2.2) (by omega)) (fun b hb _ => by omega)⟩
      (fun f hf => by
        rcases List.mem_cons.1 hf with z | z
        · rw [z, ctS_of, List.map_append, List.sum_append, ← ctS_sum]; simp [ctT, ctS]; omega
        · exact hct' f (by rw [e1]; exact List.mem_cons_of_mem _ z)) (by simp only [List.length_cons]; omega) (by simp only; omega) ((hR3.same (by omega) (fun b hb => hG3 b (by omega) (by omega) (by omega))).up (by omega)) k1 k2
    simp [u1, u2, u3]
    exact u4
  obtain ⟨G1, u1, u2, u3, u4⟩ := fin H3 vr vt p q3 (iv3.mono (Nat.le_refl _) (fun _ _ _ => rfl) (fun b hb _ => by omega)) (lv3.mono (Nat.le_refl _) (fun _ _ _ => rfl) (fun b hb _ => by omega)) hct' (by omega) (by omega) (hR3.up (by omega)) qR S03
  simp [x0, x1, x2, x3, x4, u1, u2, u3]
  exact u4
end
end Go.Proofs.YtmecbehegmgbhaaGreat.AM
namespace Go.Proofs.YtmecbehegmgbhaaGreat.AM
set_option linter.unusedSimpArgs false
set_option linter.unusedVariables false
set_option maxRecDepth 100000
set_option maxHeartbeats 2000000
open Go
attribute [-simp] AM.elems
theorem vaF_eq {many : Int} (hm : many ≤ 3) {f : Sts} : vaS many f = vaF many f := by
  unfold vaF vaS
  cases h3 : okS 3 3 f with
  | false =>
    cases hm' : okS many 3 f with
    | false => rfl
    | true => have := okS_boxes hm hm'; rw [h3] at this; cases this
  | true =>
    have := ok_bx hm h3
    cases h4 : okS many 3 f with
    | false =>
      rw [h4] at this
      cases h5 : bxS many f with
      | false => simp
      | true => rw [h5] at this; simp at this
    | true => rw [this.1 h4]; simp
section
variable {H : AH} {K : AV → AH → Prop} {w : Fk K}
theorem K_iroomsValid_l {v : AV} {l : List Int} (h : SeesZ H v l) {Q : Out → Env → AH → Prop}
    (h1 : ∀ e, get e 0 = some v → Q (.brk 0) e H = K (.b (decide (l.length ≤ 3))) H) (h2 : ∀ e H, Q .ret e H = bindO (get e 2) fun v => K v H)
    (m i : Nat) (hm : i + m = l.length) (k : K (.b ((l.drop i).all (fun x => decide (1 ≤ x ∧ x ≤ 4)) && decide (l.length ≤ 3))) H) :
    W Cd (.loop c_iroomsValid_l0) [(0, v), (5, v), (6, .I l.length), (7, .I i)] H Q := by
  have hbig := h.2.1
  induction m generalizing i with
  | zero =>
    rw [W_loop_as c_iroomsValid_l0.eq_1]
    have : i = l.length := by omega
    subst this
    simp
    rw [h1 _ rfl]
    rw [List.drop_eq_nil_of_le (Nat.le_refl _)] at k
    simpa using k
  | succ m ih =>
    rw [W_loop_as c_iroomsValid_l0.eq_1]
    have hlt : i < l.length := by omega
    have hlt' : (i : Int) < l.length := by omega
    obtain ⟨b, o, s1, hb, l1⟩ := h.at hlt
    obtain ⟨x, hx⟩ : ∃ x, l[i]? = some x := ⟨_, List.getElem?_eq_getElem hlt⟩
    have ex : l[i] = x := by have := List.getElem?_eq_getElem hlt; rw [hx] at this; exact (Option.some.inj this).symm
    rw [ex] at l1
    rw [all_dropB hx] at k
    simp (disch := omega) [hlt', s1, l1]
    by_cases hok : 1 ≤ x ∧ x ≤ 4
    · rw [decide_eq_true hok, Bool.true_and] at k
      have e1 : ¬ x < 1 := by omega
      have e2 : ¬ 4 < x := by omega
      simp (disch := omega) [e1, e2]
      have := ih (i + 1) (by omega) k
      simpa using this
    · rw [decide_eq_false hok] at k
      by_cases e1 : x < 1
      · simp (disch := omega) [e1, h2]
        simpa using k
      · have e2 : 4 < x := by omega
        simp (disch := omega) [e1, e2, h2]
        simpa using k
theorem K_iroomsValid {v : AV} {l : List Int} (h : SeesZ H v l) (k : K (.b (vaRm l)) H) : CallF Cd f_iroomsValid [v] H K w := by
  rw [CallF_eq e_iroomsValid rfl]
  simp [h.1]
  have := K_iroomsValid_l (K := K) h (Q := ?_) ?_ ?_ l.length 0 (by omega) k
  · simpa using this
  · intro e he
    have : decide ((l.length : Int) ≤ 3) = decide (l.length ≤ 3) := dec_nat3
    simp [he, h.1, this]
  · intros; simp
end
theorem K_iProgramValid_l {p : Pg} {ok : Nat → Prop} {K : AV → AH → Prop} {vr vt : AV} {P : Nat} (hct : ∀ f ∈ p.tasks, ctS f ≤ 100000) {Q : Out → Env → AH → Prop} (h1 : ∀ e G, Q (.brk 0) e G = K (.b true) G) (h2 : ∀ e H, Q .ret e H = bindO (get e 2) fun v => K v H) (hr : alen vr = some p.rooms.length) (hrl : p.rooms.length ≤ 3)
    (m i : Nat) (hm : i + m = p.tasks.length) {H : AH} (hP : P < H.n) (gP : H.bk P = some ⟨[vr, vt], true⟩) (h : LV ok H vt p.tasks)
    (k : ∀ H', Ext H H' → K (.b ((p.tasks.drop i).all (vaF p.rooms.length))) H') :
    W Cd (.loop c_iProgramValid_l0) [(1, .ptr P 0), (22, vt), (23, .I p.tasks.length), (24, .I i)] H Q := by
  have hbig := h.big
  induction m generalizing i H with
  | zero =>
    rw [W_loop_as c_iProgramValid_l0.eq_1]
    have : i = p.tasks.length := by omega
    subst this
    simp [h1]
    have := k H (Ext.refl _)
    rwa [List.drop_eq_nil_of_le (Nat.le_refl _)] at this
  | succ m ih =>
    rw [W_loop_as c_iProgramValid_l0.eq_1]
    have hlt : i < p.tasks.length := by omega
    have hlt' : (i : Int) < p.tasks.length := by omega
    obtain ⟨f, hf⟩ : ∃ f, p.tasks[i]? = some f := ⟨_, List.getElem?_eq_getElem hlt⟩
    obtain ⟨b, o, cap, u, e1, hbn, l1, s1⟩ := h.at hf
    have hh := h
    subst e1
    rw [all_dropB hf] at k
    simp (disch := omega) [load_bk gP, hlt', l1, hr]
    refine K_istmtsValid s1 (hct f (List.mem_of_getElem? hf)) fun H2 x2 => ?_
    rw [vaF_eq (by omega)]
    cases hv : vaF p.rooms.length f with
    | false =>
      have := k H2 x2
      rw [hv] at this
      simp [x2, h2]
      simpa using this
    | true =>
      rw [hv, Bool.true_and] at k
      simp (disch := omega) [x2]
      have := ih (i + 1) (by omega) (H := H2) (by have := x2.1; omega) ((x2.2 _ hP).trans gP) (hh.ext x2) (fun H' x' => k H' (x2.trans x'))
      simpa using this
theorem K_iProgramValid {ok : Nat → Prop} {H : AH} {K : AV → AH → Prop} {wf : Fk K} {c : List AV} {p : Pg} (h : PgC ok H c p) (hct : ∀ f ∈ p.tasks, ctS f ≤ 100000) (k : ∀ H', Ext H H' → K (.b (vaPg p)) H') : CallF Cd f_iProgramValid [.agg c] H K wf := by
  obtain ⟨vr, vt, rfl, h1, h2⟩ := h
  rw [CallF_eq e_iProgramValid rfl]
  have x0 := Ext.push H [vr, vt]
  have q0 : (H.push [vr, vt]).bk H.n = some ⟨[vr, vt], true⟩ := push_new
  have hbig := h2.big
  have hr := SlC.alen h1
  simp [load_bk q0]
  refine K_iroomsValid ((show SlC ok H vr p.rooms.length 1 (Ints p.rooms) from h1).mono x0.1 (fun b _ hb => x0.2 b hb) (fun _ h _ => h) |> fun q => IV.sees q) ?_
  have e : vaPg p = (vaRm p.rooms && decide (1 ≤ p.tasks.length ∧ p.tasks.length ≤ 3) && p.tasks.all (vaF p.rooms.length)) := rfl
  cases hv : vaRm p.rooms with
  | false =>
    simp
    have := k _ x0
    rw [e, hv] at this
    simpa using this
  | true =>
    have h3 : p.rooms.length ≤ 3 := by unfold vaRm at hv; simp at hv; exact hv.2
    by_cases c1 : 1 ≤ p.tasks.length ∧ p.tasks.length ≤ 3
    · have e1 : ¬ (p.tasks.length : Int) < 1 := by omega
      have e2 : ¬ (3 : Int) < p.tasks.length := by omega
      simp (disch := omega) [load_bk q0, h2.alen, e1, e2]
      have := K_iProgramValid_l (p := p) (K := K) (Q := ?_) (vr := vr) hct ?_ ?_ hr h3 p.tasks.length 0 (by omega) (P := H.n) (H := H.push [vr, vt]) (by simp) q0 (h2.ext x0) (fun H' x' => by have := k H' (x0.trans x'); rw [e, hv, decide_eq_true c1] at this; simpa using this)
      · simpa using this
      · intros; simp
      · intros; simp
    · have e3 : vaPg p = false := by rw [e, decide_eq_false c1]; simp
      have kk := k _ x0
      rw [e3] at kk
      by_cases c2 : p.tasks.length < 1
      · have e1 : (p.tasks.length : Int) < 1 := by omega
        simp (disch := omega) [load_bk q0, h2.alen, e1]
        exact kk
      · have e1 : ¬ (p.tasks.length : Int) < 1 := by omega
        have e2 : (3 : Int) < p.tasks.length := by omega
        simp (disch := omega) [load_bk q0, h2.alen, e1, e2]
        exact kk
end Go.Proofs.YtmecbehegmgbhaaGreat.AM
namespace Go.Proofs.YtmecbehegmgbhaaGreat.AM
set_option linter.unusedSimpArgs false
set_option linter.unusedVariables false
set_option maxRecDepth 100000
set_option maxHeartbeats 2000000
open Go
attribute [-simp] AM.elems
theorem K_iTaskNew {ok : Nat → Prop} {H : AH} {K : AV → AH → Prop} {w : Fk K} {v : AV} {f : Sts} (h : SV ok H v f) (hv : vaS 3 f = true)
    (k : ∀ c' H', TC (fun b => H.n ≤ b) H' c' ⟨[0, 0, 0, 0], f⟩ → Ext H H' → K (.tup [.agg c', .b true]) H') : CallF Cd f_iTaskNew [v] H K w := by
  rw [CallF_eq e_iTaskNew rfl]
  have hv' := hv
  unfold vaS at hv'
  simp only [Bool.and_eq_true, decide_eq_true_eq] at hv'
  have x0 := Ext.push H [.nils, .nils]
  simp
  refine K_iStmtsValid (h.ext x0) (by omega) fun H1 x1 => ?_
  have n1 := x1.1
  simp only [push_n] at n1
  have qR := (x1.2 H.n (by simp)).trans (push_new (H := H) (cs := [.nils, .nils]))
  have e4 : (List.replicate (4 : Int).toNat [AV.I 0]).flatten = Ints [0, 0, 0, 0] := rfl
  have x2 := (x0.trans x1).trans (Ext.push H1 (Ints [0, 0, 0, 0]))
  simp [hv, e4]
  refine K_istmtsCopy f (h.ext x2) (cp_of_okS hv'.1) (by omega) fun v' H2 cs B g s x3 => ?_
  have n3 := x3.1
  simp only [push_n] at n3
  have fl := g.flat
  have qR2 := (x3.2 H.n (by simp; omega)).trans ((Ext.push H1 (Ints [0, 0, 0, 0])).2 H.n (by omega) |>.trans qR)
  have q4 : H2.bk H1.n = some ⟨Ints [0, 0, 0, 0], true⟩ := (x3.2 _ (by simp)).trans push_new
  have st : H2.store H.n 0 [.sl H1.n 0 4 (.ex 4), v'] = some (H2.put H.n (some ⟨[.sl H1.n 0 4 (.ex 4), v'], true⟩)) := store_bk qR2 (by simp)
  simp [x3, flat_cells fl, flat_tup fl, st, loadN_bk put_same]
  have hk : ∀ b, b ≠ H.n → (H2.put H.n (some ⟨[.sl H1.n 0 4 (.ex 4), v'], true⟩)).bk b = H2.bk b := fun b hb => by rw [put_bk, if_neg hb]
  refine k _ _ ⟨_, _, rfl, ⟨by simp, rfl, .inr ⟨H1.n, 0, _, rfl, ⟨by omega, by simp [capOk]⟩, by simp; omega, ?_⟩⟩, (g.sv s).mono (by simp) (fun b hb _ => hk b (by simp at hb; omega)) (fun b hb _ => by simp at hb; omega)⟩ ((x2.trans x3).put (by omega))
  rw [loadN_bk ((hk _ (by omega)).trans q4)]; rfl
theorem K_iboxesNew_l {l : List Int} (hll : l.length ≤ 1000) {base : Nat} {v : AV} {Q : Out → Env → AH → Prop} (m i : Nat) (him : i + m = l.length) {G : AH} {g : AV} {cs : List AV} {B : Nat} (hb : base ≤ G.n) (hv : IV (fun b => b < base) G v l) (hg : GrS base G g i 2 cs B)
    (he : LF 2 (BC (fun b => base ≤ b ∧ b ≠ B) G) ((l.take i).map fun x => ⟨x, []⟩) cs)
    (hQ : ∀ e G' g' cs' B', GrS base G' g' l.length 2 cs' B' → LF 2 (BC (fun b => base ≤ b ∧ b ≠ B') G') (l.map fun x => ⟨x, []⟩) cs' → (∀ b, b < base → G'.bk b = G.bk b) → G.n ≤ G'.n → get e 3 = some g' → Q (.brk 0) e G') :
    W Cd (.loop c_iboxesNew_l0) [(3, g), (6, v), (7, .I l.length), (8, .I i)] G Q := by
  have hbig : l.length ≤ 8589934592 := hv.1
  induction m generalizing i G g cs B with
  | zero =>
    rw [W_loop_as c_iboxesNew_l0.eq_1]
    have : i = l.length := by omega
    subst this
    simp
    rw [List.take_length] at he
    exact hQ _ G g cs B hg he (fun _ _ => rfl) (Nat.le_refl _) rfl
  | succ m ih =>
    rw [W_loop_as c_iboxesNew_l0.eq_1]
    have hlt : i < l.length := by omega
    have hlt' : (i : Int) < l.length := by omega
    obtain ⟨b, o, s1, hbn, l1⟩ := hv.sees.at hlt
    obtain ⟨x, hx⟩ : ∃ x, l[i]? = some x := ⟨_, List.getElem?_eq_getElem hlt⟩
    have ex : l[i] = x := by have := List.getElem?_eq_getElem hlt; rw [hx] at this; exact (Option.some.inj this).symm
    rw [ex] at l1
    have x2 := Ext.push G [.I x, .nils]
    have bc : BC (fun b => G.n ≤ b) (G.push [.I x, .nils]) [.I x, .nils] ⟨x, []⟩ := ⟨_, rfl, IV.nilp (.inl rfl)⟩
    obtain ⟨g', G', B', a1, a2, a3, a4, a5, a6⟩ := LF.snoc (E := BC) (l := l.map fun x => ⟨x, []⟩) (x := ⟨x, []⟩) (i := i) (fun h => h.mono) (by rw [List.getElem?_map, hx]; rfl) hg (by rw [← List.map_take]; exact he) hb x2 (c := [.I x, .nils]) rfl bc (by omega)
    simp only [push_n] at a5
    simp (disch := omega) [SlC.alen hv, hlt', s1, l1, AM.elems, loadN_push, a1]
    rw [← List.map_take] at a3
    have := ih (i + 1) (by omega) (G := G') (g := g') (B := B') (by omega) (hv.mono (by omega) (fun b hb _ => a4 b hb) (fun _ h _ => h)) a2 a3
      (fun e G2 g2 c2 B2 z1 z2 z3 z4 z5 => hQ e G2 g2 c2 B2 z1 z2 (fun b hb => (z3 b hb).trans (a4 b hb)) (by omega) z5)
    simpa using this
theorem K_iboxesNew {ok : Nat → Prop} {H : AH} {K : AV → AH → Prop} {w : Fk K} {v : AV} {l : List Int} (h : IV ok H v l) (hl : l.length ≤ 1000)
    (k : ∀ v' H', BV (fun b => H.n ≤ b) H' v' (l.map fun x => ⟨x, []⟩) → Ext H H' → v'.flat = true → K v' H') : CallF Cd f_iboxesNew [v] H K w := by
  rw [CallF_eq e_iboxesNew rfl]
  simp [SlC.alen h]
  have := K_iboxesNew_l (l := l) hl (base := H.n) (v := v) (Q := ?_) l.length 0 (by omega) (G := H) (g := .nils) (cs := []) (B := H.n) (Nat.le_refl _) (h.mono (Nat.le_refl _) (fun _ _ _ => rfl) (fun b _ hb => hb)) GrS.nils rfl ?_
  · simpa using this
  · intro e G g cs B z1 z2 z3 z4 z5
    simp [z5]
    have hl2 : (l.map fun x => (⟨x, []⟩ : Bx)).length = l.length := by simp
    exact k g G (GrS.bv (by rw [hl2]; exact z1) z2) ⟨z4, z3⟩ z1.flat
theorem K_iWorldNew_l {p : Pg} (hp : ∀ f ∈ p.tasks, vaS 3 f = true) (hl3 : p.tasks.length ≤ 3) {vt vb vo : AV} {R P4 base lo : Nat} {Q : Out → Env → AH → Prop} (hbl : base ≤ lo) (hP4 : base ≤ P4 ∧ P4 < lo)
    (m i : Nat) (hm : i + m = p.tasks.length) {G : AH} {g : AV} {cs : List AV} {B : Nat} (hlo : lo ≤ G.n) (hv : LV (fun b => b < base) G vt p.tasks) (g4 : G.bk P4 = some ⟨[g, vb, .I 0, .I 0, vo], true⟩)
    (hg : GrS base G g i 2 cs B) (hB : B ≠ P4) (he : LF 2 (TC (fun b => lo ≤ b ∧ b ≠ B) G) ((p.tasks.take i).map fun f => ⟨[0, 0, 0, 0], f⟩) cs) (S : Nat → Prop) (hS : ∀ b, S b → b < lo ∧ b ≠ P4 ∧ b ≠ B)
    (hQ : ∀ e G' g' cs' B', GrS base G' g' p.tasks.length 2 cs' B' → LF 2 (TC (fun b => lo ≤ b ∧ b ≠ B') G') (p.tasks.map fun f => ⟨[0, 0, 0, 0], f⟩) cs' → G'.bk P4 = some ⟨[g', vb, .I 0, .I 0, vo], true⟩ → B' ≠ P4 → (∀ b, S b → b ≠ B') → (∀ b, (b < base ∨ S b) → G'.bk b = G.bk b) → G.n ≤ G'.n → get e 2 = some (.ptr R 0) → get e 4 = some (.ptr P4 0) → Q (.brk 0) e G') :
    W Cd (.loop c_iWorldNew_l0) [(2, .ptr R 0), (4, .ptr P4 0), (18, vt), (19, .I p.tasks.length), (20, .I i)] G Q := by
  have hbig := hv.big
  induction m generalizing i G g cs B with
  | zero =>
    rw [W_loop_as c_iWorldNew_l0.eq_1]
    have : i = p.tasks.length := by omega
    subst this
    simp
    rw [List.take_length] at he
    exact hQ _ G g cs B hg he g4 hB (fun b hb => (hS b hb).2.2) (fun _ _ => rfl) (Nat.le_refl _) rfl rfl
  | succ m ih =>
    rw [W_loop_as c_iWorldNew_l0.eq_1]
    have hlt : i < p.tasks.length := by omega
    have hlt' : (i : Int) < p.tasks.length := by omega
    obtain ⟨f, hf⟩ : ∃ f, p.tasks[i]? = some f := ⟨_, List.getElem?_eq_getElem hlt⟩
    obtain ⟨b, o, cap, u, e1, hbn, l1, s1⟩ := hv.at hf
    have hv' := hv
    subst e1
    simp (disch := omega) [hlt', l1]
    refine K_iTaskNew s1 (hp f (List.mem_of_getElem? hf)) fun c' H1 tc x1 => ?_
    have n1 := x1.1
    have tc' := tc
    obtain ⟨cv, cr, rfl, j1, j2⟩ := tc'
    have x2 := (x1.trans (Ext.push H1 [cv, cr])).trans (Ext.push _ [cv, cr])
    have g4' : (H1.push [cv, cr]).bk P4 = some ⟨[g, vb, .I 0, .I 0, vo], true⟩ := ((x1.trans (Ext.push H1 [cv, cr])).2 P4 (by omega)).trans g4
    obtain ⟨g', G', B', a1, a2, a3, a4, a5, a6⟩ := LF.snoc2 (E := TC) (l := p.tasks.map fun f => ⟨[0, 0, 0, 0], f⟩) (x := ⟨[0, 0, 0, 0], f⟩) (i := i) (fun h => h.mono) (by rw [List.getElem?_map, hf]; rfl) hg (by rw [← List.map_take]; exact he) (by omega) hlo x2 (c := [cv, cr]) rfl ((tc.ext (Ext.push H1 _)).ext (Ext.push _ _)) (by omega)
    have hgm : ∀ b, b ∈ grB g B → b = B ∧ base ≤ B ∧ B < G.n := fun b hb => hg.mem hb
    have g4'' : G'.bk P4 = some ⟨[g, vb, .I 0, .I 0, vo], true⟩ := (a4.2 P4 (by simp; omega) (fun hm => hB (hgm _ hm).1.symm)).trans ((x2.2 P4 (by omega)).trans g4)
    have st := store_cell (v := g') g4'' (o := 0) (by simp)
    simp only [List.set_cons_zero] at st
    have hB' : B' ≠ P4 := by
      rcases a5 with q | q
      · rw [q.1]; exact hB
      · rw [q]; simp; omega
    have n4 := a4.1
    simp only [push_n] at n4
    have gg : ∀ b, b < G.n → b ∉ grB g B → b ≠ P4 → (G'.put P4 (some ⟨[g', vb, .I 0, .I 0, vo], true⟩)).bk b = G.bk b := fun b hb h1 h2 => by
      rw [put_bk, if_neg h2, a4.2 b (by simp; omega) h1, x2.2 b hb]
    simp (disch := omega) [store_push2e, load_bk g4', AM.elems, loadN_push, a1, flat_cells a6, flat_tup a6, st]
    rw [← List.map_take] at a3
    have := ih (i + 1) (by omega) (G := G'.put P4 (some ⟨[g', vb, .I 0, .I 0, vo], true⟩)) (g := g') (cs := cs ++ [cv, cr]) (B := B') (by simp; omega)
      (hv'.mono (by simp; omega) (fun b hb _ => gg b (by omega) (fun hm => by have := hgm _ hm; omega) (by omega)) (fun _ h _ => h)) put_same
      (a2.only (bs := [P4]) (Only.refl.put (by simp)) (fun b hb => .inr (by simp at hb; subst hb; exact Ne.symm hB'))) hB'
      (a3.imp fun c a h => h.mono (by simp) (fun b hb _ => by rw [put_bk, if_neg (by omega)]) (fun _ h _ => h))
      (fun b hb => ⟨(hS b hb).1, (hS b hb).2.1, by
        rcases a5 with q | q
        · rw [q.1]; exact (hS b hb).2.2
        · have := (hS b hb).1; rw [q]; simp; omega⟩)
      (fun e G2 g2 cs2 B2 z1 z2 z3 z4 z5 z6 z7 z8 z9 => hQ e G2 g2 cs2 B2 z1 z2 z3 z4 z5 (fun b hb => (z6 b hb).trans (gg b (by rcases hb with q | q; omega; have := (hS b q).1; omega) (fun hm => by
        have := hgm _ hm
        rcases hb with q | q
        · omega
        · exact (hS b q).2.2 this.1) (by rcases hb with q | q; omega; exact (hS b q).2.1))) (by simp at z7; omega) z8 z9)
    simpa using this
theorem K_iWorldNew {ok : Nat → Prop} {H : AH} {K : AV → AH → Prop} {wf : Fk K} {c : List AV} {p : Pg} (h : PgC ok H c p) (hct : ∀ f ∈ p.tasks, ctS f ≤ 100000)
    (k : ∀ c' H', WC (fun b => H.n ≤ b) H' c' (if vaPg p = true then newW p else zeroW) → Ext H H' → K (.tup [.agg c', .b (vaPg p)]) H') : CallF Cd f_iWorldNew [.agg c] H K wf := by
  have h' := h
  obtain ⟨vr, vt, rfl, h1, h2⟩ := h'
  rw [CallF_eq e_iWorldNew rfl]
  have x0 := (Ext.push H [vr, vt]).trans (Ext.push _ zC)
  have q0 : ((H.push [vr, vt]).push zC).bk H.n = some ⟨[vr, vt], true⟩ := push_old (by simp) push_new
  simp [loadN_bk q0]
  refine K_iProgramValid (h.ext x0) hct fun H1 x1 => ?_
  have n1 := x1.1
  simp only [push_n] at n1
  have y1 := x0.trans x1
  have q1 := (x1.2 H.n (by simp <;> omega)).trans q0
  have qR1 : H1.bk (H.n + 1) = some ⟨zC, true⟩ := (x1.2 _ (by simp)).trans push_new
  have stb := store_five qR1 (l := zC) rfl rfl
  cases hv : vaPg p with
  | false =>
    rw [hv] at k
    simp [stb, loadN_bk put_same]
    exact k zC _ zero_WC (y1.put (by omega))
  | true =>
  rw [hv, if_pos rfl] at k
  have hv' := hv
  unfold vaPg vaRm at hv'
  simp only [Bool.and_eq_true, decide_eq_true_eq, List.all_eq_true] at hv'
  simp [load_bk q1]
  refine K_iboxesNew (h1.ext y1) (by omega) fun vb H2 bv x2 fb => ?_
  have n2 := x2.1
  have x3 := Ext.push H2 [.nils, vb, .I 0, .I 0, .nils]
  have y3 := (y1.trans x2).trans x3
  have q2 : (H2.push [.nils, vb, .I 0, .I 0, .nils]).bk H.n = some ⟨[vr, vt], true⟩ := (x3.2 _ (by omega)).trans ((x2.2 _ (by omega)).trans q1)
  have st5 : (H2.push [.nils, .nils, .I 0, .I 0, .nils]).store H2.n 0 [.nils, vb, .I 0, .I 0, .nils] = some (H2.push [.nils, vb, .I 0, .I 0, .nils]) := store_push5e
  simp [flat_cells fb, flat_tup fb, st5, load_bk q2, h2.alen]
  have keep : ∀ b, b < H1.n → (H2.push [.nils, vb, .I 0, .I 0, .nils]).bk b = H1.bk b := fun b hb => (x3.2 b (by omega)).trans (x2.2 b (by omega))
  have := K_iWorldNew_l (p := p) (fun f hf => by have := hv'.2 f hf; unfold vaF at this; simp only [Bool.and_eq_true] at this; exact this.1) (by omega) (vt := vt) (vb := vb) (vo := .nils) (R := H.n + 1) (P4 := H2.n) (base := H1.n) (lo := H2.n + 1) (by omega) (by omega) p.tasks.length 0 (by omega)
    (G := H2.push [.nils, vb, .I 0, .I 0, .nils]) (g := .nils) (cs := []) (B := H2.n + 1) (by simp) (h2.mono (by simp; omega) (fun b _ hb => y3.2 b hb) (fun b _ hb => by omega)) push_new
    GrS.nils (by omega) rfl (fun b => H1.n ≤ b ∧ b < H2.n) (fun b hb => by omega) (Q := ?_) ?_
  · simpa using this
  · intro e G g cs B z1 z2 z3 z4 z5 z6 z7 z8 z9
    simp only [push_n] at z7
    have keep0 : ∀ b, b < H1.n → G.bk b = H1.bk b := fun b hb => (z6 b (.inl hb)).trans (keep b hb)
    have keepS : ∀ b, H1.n ≤ b → b < H2.n → G.bk b = H2.bk b := fun b h h' => (z6 b (.inr ⟨h, h'⟩)).trans (x3.2 b h')
    have qR2 := (keep0 (H.n + 1) (by omega)).trans qR1
    have st := store_five qR2 (l := [g, vb, .I 0, .I 0, .nils]) rfl rfl
    simp [z8, z9, loadN_bk z3, st, loadN_bk put_same]
    have hk : ∀ b, b ≠ H.n + 1 → (G.put (H.n + 1) (some ⟨[g, vb, .I 0, .I 0, .nils], true⟩)).bk b = G.bk b := fun b hb => by rw [put_bk, if_neg hb]
    have hlen : (newW p).tasks.length = p.tasks.length := by simp [newW]
    refine k _ _ ⟨_, _, _, rfl, ⟨cs, ?_, z2.imp fun c a h => h.mono (by simp) (fun b hb _ => hk b (by omega)) (fun b hb _ => by omega)⟩, ?_, IV.nilp (.inl rfl)⟩ ⟨by simp; omega, fun b hb => by rw [hk b (by omega), keep0 b (by omega)]; exact y1.2 b hb⟩
    · rw [hlen]
      exact z1.slc.mono (by simp) (fun b hb _ => hk b (by omega)) (fun b hb _ => by omega)
    · refine bv.mono (by simp; omega) (fun b hb hn => ?_) (fun b hb _ => by omega)
      rw [hk b (by omega), keepS b hb hn]
end Go.Proofs.YtmecbehegmgbhaaGreat.AM
namespace Go.Proofs.YtmecbehegmgbhaaGreat.AM
set_option linter.unusedSimpArgs false
set_option linter.unusedVariables false
set_option maxRecDepth 100000
set_option maxHeartbeats 2000000
open Go
attribute [-simp] AM.elems
theorem newW_bo {p : Pg} (hv : vaPg p = true) : vaWd (newW p) = true ∧ boW (newW p) 850000 ∧ (newW p).boxes.length ≤ 3 := by
  obtain ⟨h1, h2⟩ := newW_ok hv
  have hv' := hv
  unfold vaPg vaRm at hv'
  simp only [Bool.and_eq_true, decide_eq_true_eq, List.all_eq_true] at hv'
  refine ⟨h1, ⟨fun t ht => ⟨?_, by have := h2 t ht; omega⟩, by simp [newW]⟩, by simp [newW]; omega⟩
  simp only [newW, List.mem_map] at ht
  obtain ⟨f, hf, rfl⟩ := ht
  have := hv'.2 f hf
  unfold vaF vaS at this
  simp only [Bool.and_eq_true, decide_eq_true_eq] at this
  simp only; omega
section
variable {H : AH} {K : AV → AH → Prop} {w : Fk K}
end
end Go.Proofs.YtmecbehegmgbhaaGreat.AM
namespace Go.Proofs.YtmecbehegmgbhaaGreat.AM
set_option linter.unusedSimpArgs false
set_option linter.unusedVariables false
set_option maxRecDepth 100000
set_option maxHeartbeats 2000000
open Go
attribute [-simp] AM.elems
def EvV (ok : Nat → Prop) (H : AH) (v : AV) (l : List Evt) : Prop := SlC ok H v l.length 4 (evCs l)
theorem EvV.mono {ok ok' : Nat → Prop} {H H' v l} (h : EvV ok H v l) (hn : H.n ≤ H'.n) (hk : ∀ b, ok b → b < H.n → H'.bk b = H.bk b) (ho : ∀ b, ok b → b < H.n → ok' b) : EvV ok' H' v l := SlC.mono h hn hk ho
theorem EvV.ext {ok H H' v l} (h : EvV ok H v l) (k : Ext H H') : EvV ok H' v l := h.mono k.1 (fun b _ hb => k.2 b hb) (fun _ h _ => h)
theorem EvV.alen {ok H v l} (h : EvV ok H v l) : alen v = some l.length := SlC.alen h
theorem EvV.flat {ok H v l} (h : EvV ok H v l) : v.flat = true := SlC.flat h
theorem EvV.big {ok H v l} (h : EvV ok H v l) : l.length ≤ 8589934592 := h.1
theorem EvV.nil {ok H} : EvV ok H .nils [] := ⟨by simp, rfl, .inl ⟨rfl, .inl rfl⟩⟩
theorem seg_evCs : ∀ {l : List Evt} {i : Nat} {e : Evt}, l[i]? = some e → seg (evCs l) (i * 4) 4 = some (evC e)
  | [], i, e, h => by simp at h
  | x :: l, 0, e, h => by
    simp at h; subst h
    unfold seg
    rw [if_pos (by rw [evCs_len]; simp; omega)]
    simp [evCs, evC]
  | x :: l, i + 1, e, h => by
    have := seg_evCs (l := l) (i := i) (e := e) (by simpa using h)
    rw [← this]
    have e1 : evCs (x :: l) = evC x ++ evCs l := by simp [evCs]
    have e2 : (i + 1) * 4 = (evC x).length + i * 4 := by simp [evC]; omega
    unfold seg
    rw [e1, e2, ← List.drop_drop, List.drop_left]
    simp only [List.length_append]
    by_cases hq : i * 4 + 4 ≤ (evCs l).length
    · rw [if_pos (by omega), if_pos hq]
    · rw [if_neg (by omega), if_neg hq]
theorem EvV.at {ok H v l} (h : EvV ok H v l) {i : Nat} {e : Evt} (hi : l[i]? = some e) : ∃ b o cap, v = .sl b o l.length cap ∧ b < H.n ∧ H.loadN b (o + i * 4) 4 = some (evC e) := by
  have hl := (List.getElem?_eq_some_iff.1 hi).1
  obtain ⟨b, o, cap, e1, ob, hb, hs⟩ := SlC.at h hl
  exact ⟨b, o, cap, e1, hb, by rw [hs _ _ (by omega)]; exact seg_evCs hi⟩
section
variable {ok : Nat → Prop} {H : AH} {K : AV → AH → Prop} {wf : Fk K} {c : List AV} {w : Wd} {n : Int}
end
end Go.Proofs.YtmecbehegmgbhaaGreat.AM
namespace Go.Proofs.YtmecbehegmgbhaaGreat.AM
set_option linter.unusedSimpArgs false
set_option linter.unusedVariables false
set_option maxRecDepth 100000
set_option maxHeartbeats 2000000
open Go
attribute [-simp] AM.elems
section
variable {ok : Nat → Prop} {H : AH} {K : AV → AH → Prop} {wf : Fk K} {c : List AV} {w : Wd}
end
end Go.Proofs.YtmecbehegmgbhaaGreat.AM
namespace Go.Proofs.YtmecbehegmgbhaaGreat.AM
set_option linter.unusedSimpArgs false
set_option linter.unusedVariables false
set_option maxRecDepth 100000
set_option maxHeartbeats 2000000
open Go
attribute [-simp] AM.elems
theorem EvV.elems {ok H v l} (h : EvV ok H v l) : AM.elems H 4 v = some (evCs l) := SlC.elems h
section
variable {ok : Nat → Prop} {H : AH} {K : AV → AH → Prop} {wf : Fk K} {c : List AV} {w : Wd} {n : Int}
end
end Go.Proofs.YtmecbehegmgbhaaGreat.AM
namespace Go.Proofs.YtmecbehegmgbhaaGreat.AM
set_option linter.unusedSimpArgs false
set_option linter.unusedVariables false
set_option maxRecDepth 100000
set_option maxHeartbeats 2000000
open Go
attribute [-simp] AM.elems
section
variable {H : AH} {K : AV → AH → Prop} {w : Fk K}
end
end Go.Proofs.YtmecbehegmgbhaaGreat.AM
namespace Go.Proofs.YtmecbehegmgbhaaGreat.AM
set_option linter.unusedSimpArgs false
set_option linter.unusedVariables false
set_option maxRecDepth 100000
set_option maxHeartbeats 2000000
open Go
attribute [-simp] AM.elems
section
variable {ok : Nat → Prop} {H : AH} {K : AV → AH → Prop} {w : Fk K} {l : List Evt} {v : AV} {box : Int}
end
end Go.Proofs.YtmecbehegmgbhaaGreat.AM
namespace Go.Proofs.YtmecbehegmgbhaaGreat.AM
set_option linter.unusedSimpArgs false
set_option linter.unusedVariables false
set_option maxRecDepth 100000
set_option maxHeartbeats 2000000
open Go
attribute [-simp] AM.elems
theorem runW_succ {w : Wd} (h : w.idle < w.tasks.length) (n : Nat) : runW (n + 1) w = runW n (stepW w) := by
  conv => lhs; unfold runW
  rw [if_pos h]
end Go.Proofs.YtmecbehegmgbhaaGreat.AM
namespace Go.Proofs.YtmecbehegmgbhaaGreat.AM
set_option linter.unusedSimpArgs false
set_option linter.unusedVariables false
set_option maxRecDepth 100000
set_option maxHeartbeats 2000000
open Go
attribute [-simp] AM.elems
end Go.Proofs.YtmecbehegmgbhaaGreat.AM
namespace Go.Proofs.YtmecbehegmgbhaaGreat.AM
set_option linter.unusedSimpArgs false
set_option linter.unusedVariables false
set_option maxRecDepth 100000
set_option maxHeartbeats 2000000
open Go
attribute [-simp] AM.elems
theorem set_same {α : Type} {l : List α} {i : Nat} {x : α} (h : l[i]? = some x) : l.set i x = l := by
  obtain ⟨hl, rfl⟩ := List.getElem?_eq_some_iff.1 h
  exact List.set_getElem_self hl
def stillT (t : Tk) (bs : List Bx) : Prop := (stepP t bs).2.2.2 = 3 ∨ (stepP t bs).2.2.2 = 4
theorem talk_still {t : Tk} {bs : List Bx} {s : St1} {r : List St1} (h : (talkP t bs s r).2.2 = 3 ∨ (talkP t bs s r).2.2 = 4) : (talkP t bs s r).1 = t ∧ (talkP t bs s r).2.1 = bs := by
  unfold talkP at h ⊢
  split
  · exact ⟨rfl, rfl⟩
  · rename_i b hb
    rw [hb] at h
    simp only at h ⊢
    split
    · rename_i hk
      rw [if_pos hk] at h
      split
      · rename_i hr; rw [if_pos hr] at h; simp at h
      · exact ⟨rfl, rfl⟩
    · rename_i hk
      rw [if_neg hk] at h
      split
      · exact ⟨rfl, rfl⟩
      · rename_i y q hq; rw [hq] at h; simp at h
theorem still_same {t : Tk} {bs : List Bx} (h : stillT t bs) : (stepP t bs).1 = t ∧ (stepP t bs).2.1 = bs ∧ (stepP t bs).2.2.1 = [] := by
  unfold stillT stepP at h
  unfold stepP
  split
  · exact ⟨rfl, rfl, rfl⟩
  · rename_i s r hr
    rw [hr] at h
    simp only at h
    split
    · rename_i hk
      rw [if_pos hk] at h
      have := talk_still h
      exact ⟨this.1, this.2, rfl⟩
    · rename_i hk
      rw [if_neg hk] at h
      split
      · rename_i h2; rw [if_pos h2] at h; simp at h
      · rename_i h2
        rw [if_neg h2] at h
        split
        · rename_i h3; rw [if_pos h3] at h; simp at h
        · rename_i h3
          rw [if_neg h3] at h
          split
          · rename_i h4; rw [if_pos h4] at h; simp at h
          · rename_i h4; rw [if_neg h4] at h; simp at h
def idleI (w : Wd) : Prop := ∀ j : Int, 1 ≤ j → j ≤ w.idle → ∀ t, w.tasks[((w.turn - j) % w.tasks.length).toNat]? = some t → stillT t w.boxes
theorem idleI.step {w : Wd} (h : idleI w) (hv : vaWd w = true) (hi : w.idle < w.tasks.length) : idleI (stepW w) := by
  obtain ⟨h1, h2, h3, h4⟩ := vaWd_iff.1 hv
  obtain ⟨t, ht⟩ : ∃ t, w.tasks[w.turn.toNat]? = some t := ⟨_, List.getElem?_eq_getElem (by omega)⟩
  have hc := step_code' (bs := w.boxes) (h4 t (List.mem_of_getElem? ht))
  have e : stepW w = ⟨w.tasks.set w.turn.toNat (stepP t w.boxes).1, (stepP t w.boxes).2.1, (nextT w.tasks.length w.turn w.idle (stepP t w.boxes).2.2.2).1, (nextT w.tasks.length w.turn w.idle (stepP t w.boxes).2.2.2).2, w.out ++ (stepP t w.boxes).2.2.1⟩ := by
    unfold stepW; rw [ht]
  rw [e]
  intro j hj1 hj2 u hu
  simp only at hj2 hu ⊢
  by_cases c1 : (stepP t w.boxes).2.2.2 = 1
  · rw [c1] at hj2; simp [nextT] at hj2; omega
  by_cases c2 : (stepP t w.boxes).2.2.2 = 2
  · rw [c2] at hj2; simp [nextT] at hj2; omega
  have hs : stillT t w.boxes := by unfold stillT; omega
  obtain ⟨s1, s2, s3⟩ := still_same hs
  rw [s1, set_same ht] at hu
  rw [s2]
  have en : nextT w.tasks.length w.turn w.idle (stepP t w.boxes).2.2.2 = ((w.turn + 1) % w.tasks.length, w.idle + 1) := by unfold nextT; rw [if_neg c1, if_neg c2]
  rw [en] at hj2 hu
  simp only at hj2 hu
  have hm : (((w.turn + 1) % w.tasks.length - j) % w.tasks.length) = (w.turn + 1 - j) % w.tasks.length := by
    rw [Int.emod_sub_emod]
  rw [hm] at hu
  by_cases j1 : j = 1
  · subst j1
    rw [show w.turn + 1 - 1 = w.turn by omega, Int.emod_eq_of_lt (by omega) (by omega), ht] at hu
    cases hu; exact hs
  · exact h (j - 1) (by omega) (by omega) u (by rw [show w.turn - (j - 1) = w.turn + 1 - j by omega]; exact hu)
theorem idleI.run : ∀ (n : Nat) {w : Wd}, idleI w → vaWd w = true → idleI (runW n w)
  | 0, _, h, _ => h
  | n + 1, w, h, hv => by
    unfold runW
    split
    · rename_i hi
      exact idleI.run n (h.step hv hi) (stepW_keeps hv hi).1
    · exact h
theorem idleI.rest {w : Wd} (h : idleI w) (hv : vaWd w = true) (hi : ¬ w.idle < w.tasks.length) : ∀ t ∈ w.tasks, stillT t w.boxes := by
  intro t ht
  obtain ⟨h1, h2, h3, h4⟩ := vaWd_iff.1 hv
  obtain ⟨i, hi2⟩ := List.mem_iff_getElem?.1 ht
  have hl := (List.getElem?_eq_some_iff.1 hi2).1
  by_cases c : (i : Int) < w.turn
  · refine h (w.turn - i) (by omega) (by omega) t ?_
    rw [show w.turn - (w.turn - i) = i by omega, Int.emod_eq_of_lt (by omega) (by omega)]; exact hi2
  · refine h (w.turn - i + w.tasks.length) (by omega) (by omega) t ?_
    rw [show w.turn - (w.turn - i + w.tasks.length) = (i : Int) - w.tasks.length by omega, Int.sub_emod_right, Int.emod_eq_of_lt (by omega) (by omega)]; exact hi2
end Go.Proofs.YtmecbehegmgbhaaGreat.AM
namespace Go.Proofs.YtmecbehegmgbhaaGreat.AM
set_option linter.unusedSimpArgs false
set_option linter.unusedVariables false
set_option maxRecDepth 100000
set_option maxHeartbeats 2000000
open Go
attribute [-simp] AM.elems
end Go.Proofs.YtmecbehegmgbhaaGreat.AM
namespace Go.Proofs.YtmecbehegmgbhaaGreat.AM
set_option linter.unusedSimpArgs false
set_option linter.unusedVariables false
set_option maxRecDepth 100000
set_option maxHeartbeats 2000000
open Go
attribute [-simp] AM.elems
structure Oc where
  out : List Int
  items : List (List Int)
  ended : List Bool
  rest : Bool
deriving DecidableEq, Inhabited
def LIc (ok : Nat → Prop) (H : AH) (c : List AV) (x : List Int) : Prop := ∃ v, c = [v] ∧ IV ok H v x
theorem LIc.mono {ok ok' : Nat → Prop} {H H' c f} (h : LIc ok H c f) (hn : H.n ≤ H'.n) (hk : ∀ b, ok b → b < H.n → H'.bk b = H.bk b) (ho : ∀ b, ok b → b < H.n → ok' b) : LIc ok' H' c f := by
  obtain ⟨v, e, h⟩ := h; exact ⟨v, e, h.mono hn hk ho⟩
def LIV (ok : Nat → Prop) (H : AH) (v : AV) (l : List (List Int)) : Prop := ∃ ca, SlC ok H v l.length 1 ca ∧ LF 1 (LIc ok H) l ca
theorem LIV.mono {ok ok' : Nat → Prop} {H H' v l} (h : LIV ok H v l) (hn : H.n ≤ H'.n) (hk : ∀ b, ok b → b < H.n → H'.bk b = H.bk b) (ho : ∀ b, ok b → b < H.n → ok' b) : LIV ok' H' v l := by
  obtain ⟨ca, h1, h2⟩ := h
  exact ⟨ca, h1.mono hn hk ho, h2.imp fun c a h => h.mono hn hk ho⟩
theorem LIV.ext {ok H H' c t} (h : LIV ok H c t) (k : Ext H H') : LIV ok H' c t := h.mono k.1 (fun b _ hb => k.2 b hb) (fun _ h _ => h)
theorem LIV.alen {ok H v l} (h : LIV ok H v l) : alen v = some l.length := h.choose_spec.1.alen
theorem LIV.at {ok H v l} (h : LIV ok H v l) {i : Nat} {f : List Int} (hi : l[i]? = some f) : ∃ b o cap u, v = .sl b o l.length cap ∧ b < H.n ∧ H.load b (o + i) = some u ∧ IV ok H u f := by
  obtain ⟨ca, h1, h2⟩ := h
  have hl := (List.getElem?_eq_some_iff.1 hi).1
  obtain ⟨b, o, cap, e, ob, hb, hs⟩ := h1.at hl
  obtain ⟨c, hc, u, rfl, i1⟩ := h2.get hi
  have hh := hs i 1 (by omega)
  rw [Nat.mul_one] at hc
  rw [hc] at hh
  have := loadN_get hh (i := 0) (by omega)
  exact ⟨b, o, cap, u, e, hb, by simpa using this, i1⟩
def Bls (l : List Bool) : List AV := l.map .b
def FlV (ok : Nat → Prop) (H : AH) (v : AV) (l : List Bool) : Prop := SlC ok H v l.length 1 (Bls l)
theorem FlV.mono {ok ok' : Nat → Prop} {H H' v l} (h : FlV ok H v l) (hn : H.n ≤ H'.n) (hk : ∀ b, ok b → b < H.n → H'.bk b = H.bk b) (ho : ∀ b, ok b → b < H.n → ok' b) : FlV ok' H' v l := SlC.mono h hn hk ho
theorem FlV.ext {ok H H' v l} (h : FlV ok H v l) (k : Ext H H') : FlV ok H' v l := h.mono k.1 (fun b _ hb => k.2 b hb) (fun _ h _ => h)
theorem FlV.alen {ok H v l} (h : FlV ok H v l) : alen v = some l.length := SlC.alen h
theorem FlV.at {ok H v l} (h : FlV ok H v l) {i : Nat} {x : Bool} (hi : l[i]? = some x) : ∃ b o cap, v = .sl b o l.length cap ∧ b < H.n ∧ H.load b (o + i) = some (.b x) := by
  have hl := (List.getElem?_eq_some_iff.1 hi).1
  obtain ⟨b, o, cap, e, ob, hb, hs⟩ := SlC.at h hl
  have hh := hs i 1 (by omega)
  have h2 : seg (Bls l) i 1 = some [.b x] := by
    unfold seg
    rw [if_pos (by simp [Bls]; omega)]
    congr 1
    have hl2 : i < (Bls l).length := by simp [Bls]; omega
    have hx : (Bls l)[i] = .b x := by
      have h3 := List.getElem?_eq_getElem hl2
      have h4 : (Bls l)[i]? = some (.b x) := by simp [Bls, hi]
      rw [h4] at h3; exact (Option.some.inj h3).symm
    rw [List.drop_eq_getElem_cons hl2, hx]; rfl
  rw [h2] at hh
  have := loadN_get hh (i := 0) (by omega)
  exact ⟨b, o, cap, e, hb, by simpa using this⟩
def OC (ok : Nat → Prop) (H : AH) (c : List AV) (o : Oc) : Prop := ∃ v1 v2 v3, c = [v1, v2, v3, .b o.rest] ∧ IV ok H v1 o.out ∧ LIV ok H v2 o.items ∧ FlV ok H v3 o.ended
theorem OC.mono {ok ok' : Nat → Prop} {H H' c t} (h : OC ok H c t) (hn : H.n ≤ H'.n) (hk : ∀ b, ok b → b < H.n → H'.bk b = H.bk b) (ho : ∀ b, ok b → b < H.n → ok' b) : OC ok' H' c t := by
  obtain ⟨v1, v2, v3, e, h1, h2, h3⟩ := h
  exact ⟨v1, v2, v3, e, h1.mono hn hk ho, h2.mono hn hk ho, h3.mono hn hk ho⟩
theorem OC.ext {ok H H' c t} (h : OC ok H c t) (k : Ext H H') : OC ok H' c t := h.mono k.1 (fun b _ hb => k.2 b hb) (fun _ h _ => h)
def outW (w : Wd) : Oc := ⟨w.out, w.boxes.map (·.items), w.tasks.map (fun t => decide (t.rest.list.length = 0)), decide (w.idle = w.tasks.length)⟩
theorem store_push4 {H : AH} {a b c d x y z u : AV} : (H.push [a, b, c, d]).store H.n 0 [x, y, z, u] = some (H.push [x, y, z, u]) := by
  rw [store_bk push_new (by simp), push_put]
  rfl
theorem K_ioutcomeOf_l {l : List Bx} (hll : l.length ≤ 1000) (hit : ∀ x ∈ l, x.items.length ≤ 1000) {base P6 P7 : Nat} (h7 : P7 < base) {vb v1 : AV} {rest : Bool} {Q : Out → Env → AH → Prop} (m i : Nat) (hm : i + m = l.length) {G : AH} {g : AV} {cs : List AV} {B : Nat} (hb : base ≤ G.n)
    (hv : BV (fun b => b < P7) G vb l) (g7 : G.bk P7 = some ⟨[v1, g, .nils, .b rest], true⟩) (hg : GrS base G g i 1 cs B) (he : LF 1 (LIc (fun b => base ≤ b ∧ b ≠ B) G) ((l.take i).map (·.items)) cs)
    (hQ : ∀ e G' g' cs' B', GrS base G' g' l.length 1 cs' B' → LF 1 (LIc (fun b => base ≤ b ∧ b ≠ B') G') (l.map (·.items)) cs' → G'.bk P7 = some ⟨[v1, g', .nils, .b rest], true⟩ → (∀ b, b < base → b ≠ P7 → G'.bk b = G.bk b) → G.n ≤ G'.n → get e 6 = some (.ptr P6 0) → get e 7 = some (.ptr P7 0) → Q (.brk 0) e G') :
    W Cd (.loop c_ioutcomeOf_l0) [(6, .ptr P6 0), (7, .ptr P7 0), (14, vb), (15, .I l.length), (16, .I i)] G Q := by
  induction m generalizing i G g cs B with
  | zero =>
    rw [W_loop_as c_ioutcomeOf_l0.eq_1]
    have : i = l.length := by omega
    subst this
    simp
    rw [List.take_length] at he
    exact hQ _ G g cs B hg he g7 (fun _ _ _ => rfl) (Nat.le_refl _) rfl rfl
  | succ m ih =>
    rw [W_loop_as c_ioutcomeOf_l0.eq_1]
    have hlt : i < l.length := by omega
    have hlt' : (i : Int) < l.length := by omega
    obtain ⟨x, hx⟩ : ∃ x, l[i]? = some x := ⟨_, List.getElem?_eq_getElem hlt⟩
    obtain ⟨b, o, cap, vi, e1, ob, hbn, l1, iv⟩ := hv.at hx
    have hv0 := hv
    subst e1
    have st : (G.push [.I 0, .nils]).store G.n 0 [.I x.room, vi] = some (G.push [.I x.room, vi]) := store_push2e
    have x1 := Ext.push G [.I x.room, vi]
    have q1 : (G.push [.I x.room, vi]).bk G.n = some ⟨[.I x.room, vi], true⟩ := push_new
    have g71 := (x1.2 P7 (by omega)).trans g7
    simp (disch := omega) [hlt', l1, st, load_bk g71, load_bk q1]
    refine K_cloneG (iv.ext x1).src (by have := hit x (List.mem_of_getElem? hx); omega) fun v' H2 B3 g3 x2 => ?_
    have x3 := (x1.trans x2).trans (Ext.push H2 [v'])
    have n3 := x2.1
    simp only [push_n] at n3
    obtain ⟨g', G', B', a1, a2, a3, a4, a5, a6⟩ := LF.snoc (E := LIc) (l := l.map (·.items)) (x := x.items) (i := i) (fun h => h.mono) (by rw [List.getElem?_map, hx]; rfl) hg (by rw [← List.map_take]; exact he) hb x3 (c := [v']) rfl ⟨v', rfl, (g3.iv.ext (Ext.push H2 [v'])).mono (Nat.le_refl _) (fun _ _ _ => rfl) (fun b hb _ => by simp at hb; omega)⟩ (by omega)
    have kk : ∀ b, b < base → G'.bk b = G.bk b := fun b hb2 => (a4 b hb2)
    have g7' := (kk P7 h7).trans g7
    have st2 := store_cell (v := g') g7' (o := 1) (by simp)
    simp only [List.set_cons_succ, List.set_cons_zero] at st2
    have f3 := g3.flat
    simp only [push_n] at a5
    simp (disch := omega) [x2, flat_cells f3, flat_tup f3, AM.elems, loadN_push, a1, flat_cells a6, flat_tup a6, st2]
    rw [← List.map_take] at a3
    have := ih (i + 1) (by omega) (G := G'.put P7 (some ⟨[v1, g', .nils, .b rest], true⟩)) (g := g') (cs := cs ++ [v']) (B := B') (by simp; omega)
      (hv0.mono (by simp; omega) (fun b hb _ => by rw [put_bk, if_neg (by omega), kk b (by omega)]) (fun _ h _ => h)) put_same
      (a2.keep1 (by simp) (fun hb1 _ => by rw [put_bk, if_neg (by omega)]))
      (a3.imp fun c a h => h.mono (by simp) (fun b hb _ => by rw [put_bk, if_neg (by omega)]) (fun _ h _ => h))
      (fun e G2 g2 c2 B2 z1 z2 z3 z4 z5 z6 z7 => hQ e G2 g2 c2 B2 z1 z2 z3 (fun b hb h2 => by rw [z4 b hb h2, put_bk, if_neg h2, kk b hb]) (by simp at z5; omega) z6 z7)
    simpa using this
section
variable {ok : Nat → Prop} {H : AH} {K : AV → AH → Prop} {wf : Fk K}
theorem K_ioutcomeOf {l : List Bx} (hll : l.length ≤ 1000) (hit : ∀ x ∈ l, x.items.length ≤ 1000) {vo vb : AV} {out : List Int} {rest : Bool} (h1 : IV ok H vo out) (hol : out.length ≤ 1000000) (h2 : BV ok H vb l)
    (k : ∀ v1 v2 H', IV (fun b => H.n ≤ b) H' v1 out → LIV (fun b => H.n ≤ b) H' v2 (l.map (·.items)) → v1.flat = true → v2.flat = true → Ext H H' → K (.agg [v1, v2, .nils, .b rest]) H') : CallF Cd f_ioutcomeOf [vo, vb, .b rest] H K wf := by
  rw [CallF_eq e_ioutcomeOf rfl]
  have x0 := Ext.push H [.nils, .nils, .nils, .b false]
  simp
  refine K_cloneG (h1.ext x0).src hol fun v1 H1 B g x1 => ?_
  have n1 := x1.1
  simp only [push_n] at n1
  have f1 := g.flat
  have y1 := x0.trans x1
  have qR := (x1.2 H.n (by simp)).trans (push_new (H := H) (cs := [.nils, .nils, .nils, .b false]))
  have x2 := Ext.push H1 [v1, .nils, .nils, .b rest]
  simp [x1, flat_cells f1, flat_tup f1, store_push4, h2.alen]
  have := K_ioutcomeOf_l (l := l) hll hit (base := H1.n + 1) (P6 := H.n) (P7 := H1.n) (by omega) (vb := vb) (v1 := v1) (rest := rest) (Q := ?_) l.length 0 (by omega) (G := H1.push [v1, .nils, .nils, .b rest]) (g := .nils) (cs := []) (B := 0) (by simp)
    ((h2.mono (ok' := fun b => b < H.n) (Nat.le_refl _) (fun _ _ _ => rfl) (fun b _ hb => hb)).mono (by simp; omega) (fun b hb _ => (y1.trans x2).2 b hb) (fun b hb _ => by omega)) push_new GrS.nils rfl ?_
  · simpa using this
  · intro e G g2 cs B2 z1 z2 z3 z4 z5 z6 z7
    simp only [push_n] at z5
    have qR2 := (z4 H.n (by omega) (by omega)).trans ((x2.2 _ (by omega)).trans qR)
    have f2 := z1.flat
    have st : G.store H.n 0 [v1, g2, .nils, .b rest] = some (G.put H.n (some ⟨[v1, g2, .nils, .b rest], true⟩)) := store_bk qR2 (by simp)
    simp [z6, z7, loadN_bk z3, st, loadN_bk put_same]
    have hk : ∀ b, b ≠ H.n → (G.put H.n (some ⟨[v1, g2, .nils, .b rest], true⟩)).bk b = G.bk b := fun b hb => by rw [put_bk, if_neg hb]
    have hl2 : (l.map (·.items)).length = l.length := by simp
    refine k v1 g2 _ (g.iv.mono (by simp; omega) (fun b hb hb2 => by simp only [push_n] at hb; rw [hk b (by omega), z4 b (by omega) (by omega), x2.2 b hb2]) (fun b hb _ => by simp at hb; omega)) ⟨cs, by rw [hl2]; exact z1.slc.mono (by simp) (fun b hb _ => hk b (by omega)) (fun b hb _ => by omega), z2.imp fun c a h => h.mono (by simp) (fun b hb _ => hk b (by omega)) (fun b hb _ => by omega)⟩ f1 f2 ⟨by simp; omega, fun b hb => by rw [hk b (by omega), z4 b (by omega) (by omega), x2.2 b (by omega)]; exact y1.2 b hb⟩
end
theorem K_iWorldOutcome_l {l : List Tk} (hll : l.length ≤ 1000) {base P2 P3 : Nat} (h3 : P3 < base) {vt v1 v2 : AV} {rest : Bool} {Q : Out → Env → AH → Prop} (m i : Nat) (hm : i + m = l.length) {G : AH} {g : AV} {B : Nat} (hb : base ≤ G.n)
    (hv : TV (fun b => b < P3) G vt l) (g3 : G.bk P3 = some ⟨[v1, v2, g, .b rest], true⟩) (hg : GrS base G g i 1 (Bls ((l.take i).map fun t => decide (t.rest.list.length = 0))) B)
    (hQ : ∀ e G' g' B', GrS base G' g' l.length 1 (Bls (l.map fun t => decide (t.rest.list.length = 0))) B' → G'.bk P3 = some ⟨[v1, v2, g', .b rest], true⟩ → (∀ b, b < base → b ≠ P3 → G'.bk b = G.bk b) → G.n ≤ G'.n → get e 2 = some (.ptr P2 0) → get e 3 = some (.ptr P3 0) → Q (.brk 0) e G') :
    W Cd (.loop c_iWorldOutcome_l0) [(2, .ptr P2 0), (3, .ptr P3 0), (22, vt), (23, .I l.length), (24, .I i)] G Q := by
  induction m generalizing i G g B with
  | zero =>
    rw [W_loop_as c_iWorldOutcome_l0.eq_1]
    have : i = l.length := by omega
    subst this
    simp
    rw [List.take_length] at hg
    exact hQ _ G g B hg g3 (fun _ _ _ => rfl) (Nat.le_refl _) rfl rfl
  | succ m ih =>
    rw [W_loop_as c_iWorldOutcome_l0.eq_1]
    have hlt : i < l.length := by omega
    have hlt' : (i : Int) < l.length := by omega
    obtain ⟨x, hx⟩ : ∃ x, l[i]? = some x := ⟨_, List.getElem?_eq_getElem hlt⟩
    obtain ⟨b, o, cap, vv, vr, e1, ob, hbn, l1, iv, sv⟩ := hv.at hx
    have hv0 := hv
    subst e1
    have st : (G.push [.nils, .nils]).store G.n 0 [vv, vr] = some (G.push [vv, vr]) := store_push2e
    have x1 := Ext.push G [vv, vr]
    have q1 : (G.push [vv, vr]).bk G.n = some ⟨[vv, vr], true⟩ := push_new
    have g31 := (x1.2 P3 (by omega)).trans g3
    obtain ⟨D, hD⟩ : ∃ D : Bool, D = decide (x.rest.list.length = 0) := ⟨_, rfl⟩
    have hD' : decide (x.rest.list = []) = D := by rw [hD]; simp
    have htk : l.take (i + 1) = l.take i ++ [x] := by rw [List.take_add_one, hx]; rfl
    obtain ⟨g', G', B', a1, a2, a3, a4⟩ := ((hg.ext x1).ext (Ext.push _ [.b D])).app (k := 1) (new := [.b D]) (by simp; omega) rfl (by omega)
    have hgm : ∀ b, b ∈ grB g B → b = B ∧ base ≤ B ∧ B < G.n := fun b hb => hg.mem hb
    have n4 := a4.1
    simp only [push_n] at n4
    have kk : ∀ b, b < base → G'.bk b = G.bk b := fun b hb2 => by
      rw [a4.2 b (by simp; omega) (fun hq => by have := hgm b hq; omega), push_old (by simp; omega) rfl, x1.2 b (by omega)]
    have e8 : Bls ((l.take i).map fun t => decide (t.rest.list.length = 0)) ++ [.b D] = Bls ((l.take (i + 1)).map fun t => decide (t.rest.list.length = 0)) := by rw [htk, hD]; simp [Bls]
    rw [e8] at a2
    have g3' := (kk P3 h3).trans g3
    have st2 := store_cell (v := g') g3' (o := 2) (by simp)
    simp only [List.set_cons_succ, List.set_cons_zero] at st2
    have f4 := a2.flat
    simp (disch := omega) [hlt', l1, st, load_bk g31, load_bk q1, sv.alen, hD', AM.elems, loadN_push, a1, flat_cells f4, flat_tup f4, st2]
    have := ih (i + 1) (by omega) (G := G'.put P3 (some ⟨[v1, v2, g', .b rest], true⟩)) (g := g') (B := B') (by simp; omega)
      (hv0.mono (by simp; omega) (fun b hb _ => by rw [put_bk, if_neg (by omega), kk b (by omega)]) (fun _ h _ => h)) put_same
      (a2.keep1 (by simp) (fun hb1 _ => by rw [put_bk, if_neg (by omega)]))
      (fun e G2 g2 B2 z1 z3 z4 z5 z6 z7 => hQ e G2 g2 B2 z1 z3 (fun b hb h2 => by rw [z4 b hb h2, put_bk, if_neg h2, kk b hb]) (by simp at z5; omega) z6 z7)
    simpa using this
section
variable {ok : Nat → Prop} {H : AH} {K : AV → AH → Prop} {wf : Fk K} {c : List AV} {w : Wd}
theorem K_iWorldOutcome (h : WC ok H c w) (hct : ∀ t ∈ w.tasks, ctS t.rest ≤ 100000) (hv : vaWd w = true) (hol : w.out.length ≤ 1000000)
    (k : ∀ c' H', OC (fun b => H.n ≤ b) H' c' (outW w) → Ext H H' → K (.agg c') H') : CallF Cd f_iWorldOutcome [.agg c] H K wf := by
  have h' := h
  obtain ⟨vt, vb, vo, rfl, h1, h2, h3⟩ := h'
  rw [CallF_eq e_iWorldOutcome rfl]
  obtain ⟨g1, g2, g3, g4⟩ := vaWd_iff.1 hv
  have hb3 := vaBs_facts g3
  have x0 := (Ext.push H [vt, vb, .I w.turn, .I w.idle, vo]).trans (Ext.push _ [.nils, .nils, .nils, .b false])
  have q0 : ((H.push [vt, vb, .I w.turn, .I w.idle, vo]).push [.nils, .nils, .nils, .b false]).bk H.n = some ⟨[vt, vb, .I w.turn, .I w.idle, vo], true⟩ := push_old (by simp) push_new
  simp [loadN_bk q0]
  refine K_iWorldValid (h.ext x0) hct (by omega) fun H1 x1 => ?_
  have n1 := x1.1
  simp only [push_n] at n1
  have y1 := x0.trans x1
  have q1 := (x1.2 H.n (by simp <;> omega)).trans q0
  have qR1 : H1.bk (H.n + 1) = some ⟨[.nils, .nils, .nils, .b false], true⟩ := (x1.2 _ (by simp)).trans push_new
  rw [hv]
  simp [load_bk q1, h1.alen]
  have hre : decide (w.idle = (w.tasks.length : Int)) = (outW w).rest := rfl
  rw [hre]
  refine K_ioutcomeOf (by omega) (fun x hx => by have := hb3.2 x hx; omega) (h3.ext y1) hol (h2.ext y1) fun v1 v2 H2 i1 i2 f1 f2 x2 => ?_
  have n2 := x2.1
  have x3 := Ext.push H2 [v1, v2, .nils, .b (outW w).rest]
  have q2 := (x3.2 H.n (by omega)).trans ((x2.2 _ (by omega)).trans q1)
  have y3 := (y1.trans x2).trans x3
  simp [x2, flat_cells f1, flat_tup f1, flat_cells f2, flat_tup f2, store_push4, load_bk q2, h1.alen]
  have := K_iWorldOutcome_l (l := w.tasks) (by omega) (base := H2.n + 1) (P2 := H.n + 1) (P3 := H2.n) (by omega) (vt := vt) (v1 := v1) (v2 := v2) (rest := (outW w).rest) (Q := ?_) w.tasks.length 0 (by omega) (G := H2.push [v1, v2, .nils, .b (outW w).rest]) (g := .nils) (B := 0) (by simp)
    ((h1.mono (ok' := fun b => b < H.n) (Nat.le_refl _) (fun _ _ _ => rfl) (fun b _ hb => hb)).mono (by simp; omega) (fun b hb _ => y3.2 b hb) (fun b hb _ => by omega)) push_new GrS.nils ?_
  · simpa using this
  · intro e G g B2 z1 z3 z4 z5 z6 z7
    simp only [push_n] at z5
    have qR2 := (z4 (H.n + 1) (by omega) (by omega)).trans ((x3.2 _ (by omega)).trans ((x2.2 _ (by omega)).trans qR1))
    have fg := z1.flat
    have st : G.store (H.n + 1) 0 [v1, v2, g, .b (outW w).rest] = some (G.put (H.n + 1) (some ⟨[v1, v2, g, .b (outW w).rest], true⟩)) := store_bk qR2 (by simp)
    simp [z6, z7, loadN_bk z3, st, loadN_bk put_same]
    have hk : ∀ b, b ≠ H.n + 1 → (G.put (H.n + 1) (some ⟨[v1, v2, g, .b (outW w).rest], true⟩)).bk b = G.bk b := fun b hb => by rw [put_bk, if_neg hb]
    have hkk : ∀ b, H1.n ≤ b → b < H2.n → (G.put (H.n + 1) (some ⟨[v1, v2, g, .b (outW w).rest], true⟩)).bk b = H2.bk b := fun b hb hb2 => by rw [hk b (by omega), z4 b (by omega) (by omega), x3.2 b hb2]
    have hl2 : (outW w).ended.length = w.tasks.length := by simp [outW]
    refine k _ _ ⟨v1, v2, g, rfl, i1.mono (by simp; omega) hkk (fun b hb _ => by omega), i2.mono (by simp; omega) hkk (fun b hb _ => by omega), ?_⟩ ⟨by simp; omega, fun b hb => by rw [hk b (by omega), z4 b (by omega) (by omega), x3.2 b (by omega), x2.2 b (by omega)]; exact y1.2 b hb⟩
    unfold FlV
    rw [hl2]
    exact z1.slc.mono (by simp) (fun b hb _ => hk b (by omega)) (fun b hb _ => by omega)
end
theorem K_wrestOf {ok : Nat → Prop} {H : AH} {K : AV → AH → Prop} {wf : Fk K} {c : List AV} {p : Pg} {n : Int} (h : PgC ok H c p) (hv : vaPg p = true) (hn : 0 ≤ n ∧ n ≤ 100000)
    (k : ∀ c' H', OC (fun b => H.n ≤ b) H' c' (outW (runW n.toNat (newW p))) → Ext H H' → K (.agg c') H') : CallF Cd f_wrestOf [.agg c, .I n] H K wf := by
  have h' := h
  obtain ⟨vr, vt, rfl, h1, h2⟩ := h'
  rw [CallF_eq e_wrestOf rfl]
  obtain ⟨hva, bo, bx⟩ := newW_bo hv
  have hct : ∀ f ∈ p.tasks, ctS f ≤ 100000 := fun f hf => by
    unfold vaPg at hv
    simp only [Bool.and_eq_true, List.all_eq_true] at hv
    have := hv.2 f hf
    unfold vaF vaS at this
    simp only [Bool.and_eq_true, decide_eq_true_eq] at this
    omega
  have x0 := (Ext.push H [vr, vt]).trans (Ext.push _ [.nils, .nils, .nils, .b false])
  have q0 : ((H.push [vr, vt]).push [.nils, .nils, .nils, .b false]).bk H.n = some ⟨[vr, vt], true⟩ := push_old (by simp) push_new
  have z0 : ((H.push [vr, vt]).push [.nils, .nils, .nils, .b false]).bk (H.n + 1) = some ⟨[.nils, .nils, .nils, .b false], true⟩ := push_new (H := H.push [vr, vt])
  simp [loadN_bk q0]
  refine K_iWorldNew (h.ext x0) hct fun c2 H2 wc2 x2 => ?_
  rw [hv, if_pos rfl] at wc2
  rw [hv]
  obtain ⟨vt2, vb2, vo2, rfl, _, _, _⟩ := id wc2
  have n2 := x2.1
  simp only [push_n] at n2
  have x3 := Ext.push H2 [vt2, vb2, .I (newW p).turn, .I (newW p).idle, vo2]
  have y3 := (x0.trans x2).trans x3
  simp [store_push5e, loadN_push]
  have e1 : runF n (newW p) = (runW n.toNat (newW p), true) := by
    unfold runF; rw [if_pos ⟨hva, hn⟩]
  have bo2 := bo.2
  refine K_iWorldRun (wc2.ext x3) bo.ct (by omega) (fun _ => ⟨bo.1, by omega⟩) (by omega) fun c5 H8 wc8 x8 => ?_
  rw [e1] at wc8 ⊢
  simp only at wc8
  have hk := runW_keeps n.toNat hva
  have bo8 := boW.run (n := n.toNat) (m := 700000) (bo.le (by omega)) hva
  have bo82 := bo8.2
  obtain ⟨vt5, vb5, vo5, rfl, _, _, _⟩ := id wc8
  have n8 := x8.1
  simp only [push_n] at n8
  have x9 := Ext.push H8 [vt5, vb5, .I (runW n.toNat (newW p)).turn, .I (runW n.toNat (newW p)).idle, vo5]
  have y9 := (x3.trans x8).trans x9
  simp [store_push5e, loadN_push]
  refine K_iWorldOutcome (wc8.ext x9) bo8.ct hk.1 (by omega) fun c9 Ha oc xa => ?_
  have na := xa.1
  simp only [push_n] at na
  have ya := y9.trans xa
  have za : Ha.bk (H.n + 1) = some ⟨[.nils, .nils, .nils, .b false], true⟩ := (ya.2 _ (by omega)).trans ((x2.2 _ (by simp)).trans z0)
  obtain ⟨v1, v2, v3, rfl, _, _, _⟩ := id oc
  have st : Ha.store (H.n + 1) 0 [v1, v2, v3, .b (outW (runW n.toNat (newW p))).rest] = some (Ha.put (H.n + 1) (some ⟨[v1, v2, v3, .b (outW (runW n.toNat (newW p))).rest], true⟩)) := store_bk za (by simp)
  simp [st, loadN_bk put_same]
  have hk2 : ∀ b, b ≠ H.n + 1 → (Ha.put (H.n + 1) (some ⟨[v1, v2, v3, .b (outW (runW n.toNat (newW p))).rest], true⟩)).bk b = Ha.bk b := fun b hb => by rw [put_bk, if_neg hb]
  exact k _ _ (oc.mono (by simp) (fun b hb _ => hk2 b (by simp at hb; omega)) (fun b hb _ => by simp at hb; omega)) (((x0.trans x2).trans ya).put (by omega))
end Go.Proofs.YtmecbehegmgbhaaGreat.AM
namespace Go.Proofs.YtmecbehegmgbhaaGreat.AM
set_option linter.unusedSimpArgs false
set_option linter.unusedVariables false
set_option maxRecDepth 100000
set_option maxHeartbeats 2000000
open Go
attribute [-simp] AM.elems
end Go.Proofs.YtmecbehegmgbhaaGreat.AM
namespace Go.Proofs.YtmecbehegmgbhaaGreat.AM
set_option linter.unusedSimpArgs false
set_option linter.unusedVariables false
set_option maxRecDepth 100000
set_option maxHeartbeats 2000000
open Go
attribute [-simp] AM.elems
section
variable {ok : Nat → Prop} {H : AH} {K : AV → AH → Prop} {w : Fk K} {c : List AV} {p : Pg}
end
end Go.Proofs.YtmecbehegmgbhaaGreat.AM
namespace Go.Proofs.YtmecbehegmgbhaaGreat.AM
set_option linter.unusedSimpArgs false
set_option linter.unusedVariables false
set_option maxRecDepth 100000
set_option maxHeartbeats 2000000
open Go
attribute [-simp] AM.elems
end Go.Proofs.YtmecbehegmgbhaaGreat.AM
