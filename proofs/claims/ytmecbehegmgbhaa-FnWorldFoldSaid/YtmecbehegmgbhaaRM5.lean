/-
  The abstract machine and its walks, merged by program out of smaller texts (part 5). No condition.
-/
import Derived.Test.YtmecbehegmgbhaaRM4
namespace Go.Proofs.Ytmecbehegmgbhaa.AM
set_option linter.unusedSimpArgs false
set_option linter.unusedVariables false
set_option maxRecDepth 100000
set_option maxHeartbeats 2000000
open Go
attribute [-simp] AM.elems
theorem LF.snoc3 {α : Type} {sz : Nat} {E : (Nat → Prop) → AH → List AV → α → Prop} (mono : ∀ {ok ok' : Nat → Prop} {H H' : AH} {c a}, E ok H c a → H.n ≤ H'.n → (∀ b, ok b → b < H.n → H'.bk b = H.bk b) → (∀ b, ok b → b < H.n → ok' b) → E ok' H' c a)
    {base lo B r : Nat} {G G1 : AH} {g : AV} {l : List α} {x : α} {cs c : List AV} (hg : GrS base G g l.length sz cs B) (he : LF sz (E (fun b => lo ≤ b ∧ b ≠ B) G) l cs)
    (hb : base ≤ G.n) (hlo : lo ≤ G.n) (hrb : r < base) (hrl : r < lo) (x1 : St r G G1) (hc : c.length = sz) (hx : E (fun b => G.n ≤ b) G1 c x) (hi : l.length < 1000000) :
    ∃ g' G' B', aapp G1 sz g 1 c = some (g', G') ∧ GrS base G' g' (l ++ [x]).length sz (cs ++ c) B' ∧ LF sz (E (fun b => lo ≤ b ∧ b ≠ B') G') (l ++ [x]) (cs ++ c) ∧ Only (grB g B) G1 G' ∧ ((B' = B ∧ B ∈ grB g B) ∨ B' = G1.n) ∧ g'.flat = true := by
  obtain ⟨g', G', B', a1, a2, a3, a4⟩ := (hg.st x1 hrb).app (k := 1) (new := c) (by have := x1.1; omega) (by omega) (by omega)
  have hm : ∀ b, b ∈ grB g B → b = B ∧ base ≤ B ∧ B < G.n := fun b hb => hg.mem hb
  have hB : (B' = B ∧ base ≤ B ∧ B < G.n) ∨ G1.n = B' := by
    rcases a3 with q | q
    · exact .inl ⟨q.1, (hm _ q.2).2⟩
    · exact .inr q.symm
  have n1 := x1.1
  refine ⟨g', G', B', a1, by simpa using a2, ?_, a4, a3, a2.flat⟩
  refine LF.app (he.imp fun c a h => mono h (by have := a4.1; omega) (fun b hb' h1 => ?_) (fun b hb' h1 => ⟨hb'.1, by omega⟩)) (LF.one (mono hx a4.1 (fun b hb' h1 => a4.2 b h1 (fun hm' => by have := hm b hm'; omega)) (fun b hb' h1 => by omega)) hc)
  rw [a4.2 b (by omega) (fun hm' => hb'.2 (hm b hm').1), x1.2 b h1 (by omega)]
theorem GrS.keep {base : Nat} {H G : AH} {v n sz cs B} (h : GrS base H v n sz cs B) (hn : H.n ≤ G.n) (hk : ∀ b, base ≤ b → b < H.n → G.bk b = H.bk b) : GrS base G v n sz cs B := by
  obtain ⟨h1, h2, h3 | ⟨h4, h5, h6⟩⟩ := h
  · exact ⟨h1, h2, .inl h3⟩
  · exact ⟨h1, h2, .inr ⟨h4, by omega, by rw [hk B h4 h5]; exact h6⟩⟩
theorem GrS.keep1 {base : Nat} {H G : AH} {v n sz cs B} (h : GrS base H v n sz cs B) (hn : H.n ≤ G.n) (hk : base ≤ B → B < H.n → G.bk B = H.bk B) : GrS base G v n sz cs B := by
  obtain ⟨h1, h2, h3 | ⟨h4, h5, h6⟩⟩ := h
  · exact ⟨h1, h2, .inl h3⟩
  · exact ⟨h1, h2, .inr ⟨h4, by omega, by rw [hk h4 h5]; exact h6⟩⟩
/-- The tasks of a drawn program: the first's list may grow, its block is apart. -/
def T0 (lo B : Nat) (G : AH) (l : List Sts) (cs : List AV) : Prop :=
  (l = [] ∧ cs = []) ∨ ∃ v0 c0 B0 f0 l' cs', l = f0 :: l' ∧ cs = v0 :: cs' ∧ GrS lo G v0 f0.list.length 8 c0 B0 ∧ B0 ≠ B ∧ B0 < G.n ∧ SF (fun b => lo ≤ b ∧ b ≠ B ∧ b ≠ B0) G f0 c0 ∧ LF 1 (L1 (fun b => lo ≤ b ∧ b ≠ B ∧ b ≠ B0) G) l' cs'
theorem T0.lf {lo B G l cs} (h : T0 lo B G l cs) : LF 1 (L1 (fun b => lo ≤ b ∧ b ≠ B) G) l cs := by
  rcases h with ⟨rfl, rfl⟩ | ⟨v0, c0, B0, f0, l', cs', rfl, rfl, h1, h2, h3, h4, h5⟩
  · rfl
  · exact ⟨[v0], cs', rfl, rfl, ⟨v0, rfl, c0, h1.ivB (fun a b => ⟨a, h2⟩), h4.mono (Nat.le_refl _) (fun _ _ _ => rfl) (fun b hb _ => ⟨hb.1, hb.2.1⟩)⟩, h5.imp fun c a h => h.mono (Nat.le_refl _) (fun _ _ _ => rfl) (fun b hb _ => ⟨hb.1, hb.2.1⟩)⟩
theorem T0.up {lo lo' B G l cs} (h : T0 lo B G l cs) (hl : lo' ≤ lo) : T0 lo' B G l cs := by
  rcases h with ⟨rfl, rfl⟩ | ⟨v0, c0, B0, f0, l', cs', rfl, rfl, h1, h2, h3, h4, h5⟩
  · exact .inl ⟨rfl, rfl⟩
  · exact .inr ⟨v0, c0, B0, f0, l', cs', rfl, rfl, h1.up hl, h2, h3, h4.mono (Nat.le_refl _) (fun _ _ _ => rfl) (fun b hb _ => ⟨by omega, hb.2⟩), h5.imp fun c a h => h.mono (Nat.le_refl _) (fun _ _ _ => rfl) (fun b hb _ => ⟨by omega, hb.2⟩)⟩
theorem T0.keep {lo B G G' l cs} (h : T0 lo B G l cs) (hn : G.n ≤ G'.n) (hk : ∀ b, lo ≤ b → b ≠ B → b < G.n → G'.bk b = G.bk b) : T0 lo B G' l cs := by
  rcases h with ⟨rfl, rfl⟩ | ⟨v0, c0, B0, f0, l', cs', rfl, rfl, h1, h2, h3, h4, h5⟩
  · exact .inl ⟨rfl, rfl⟩
  · exact .inr ⟨v0, c0, B0, f0, l', cs', rfl, rfl, h1.keep1 hn (fun a b => hk _ a h2 b), h2, by omega, h4.mono hn (fun b hb hb2 => hk b hb.1 hb.2.1 hb2) (fun _ h _ => h), h5.imp fun c a h => h.mono hn (fun b hb hb2 => hk b hb.1 hb.2.1 hb2) (fun _ h _ => h)⟩
/-- A list's block, named so that it is apart (none: 0). -/
theorem GrS.name {base lo G v n sz cs B} (h : GrS base G v n sz cs B) (hb : lo ≤ base) (h0 : 0 < base) (hG : 0 < G.n) : ∃ B', GrS lo G v n sz cs B' ∧ ((B' = B ∧ base ≤ B' ∧ B' < G.n) ∨ (B' = 0 ∧ cs = [])) := by
  obtain ⟨h1, h2, ⟨h3, h3'⟩ | ⟨h4, h5, h6⟩⟩ := h
  · refine ⟨0, ⟨h1, h2, .inl ⟨h3, h3'⟩⟩, .inr ⟨rfl, List.eq_nil_of_length_eq_zero (by rw [h2, h3']; simp)⟩⟩
  · exact ⟨B, ⟨h1, h2, .inr ⟨by omega, h5, h6⟩⟩, .inl ⟨rfl, h4, h5⟩⟩
theorem T0.snoc {base lo B B' r : Nat} {G G1 G' : AH} {g v : AV} {l : List Sts} {f : Sts} {n : Nat} {cs c : List AV} {B1 : Nat} (hg : GrS base G g n 1 cs B) (h : T0 lo B G l cs) (hb0 : 0 < base) (hBb : base ≤ B) (hbl : base ≤ lo) (hlo : lo ≤ G.n) (hr : r < lo) (x1 : St r G G1) (o : Only (grB g B) G1 G') (hB : (B' = B ∧ B ∈ grB g B) ∨ B' = G1.n)
    (gs : GrS G.n G1 v f.list.length 8 c B1) (sf : SF (fun b => G.n ≤ b ∧ b ≠ B1) G1 f c) : T0 lo B' G' (l ++ [f]) (cs ++ [v]) := by
  have hm : ∀ b, b ∈ grB g B → b = B ∧ base ≤ B ∧ B < G.n := fun b hb => hg.mem hb
  have hB2 : (B' = B ∧ B < G.n) ∨ B' = G1.n := by
    rcases hB with q | q
    · exact .inl ⟨q.1, (hm _ q.2).2.2⟩
    · exact .inr q
  have n1 := x1.1
  have n2 := o.1
  have hk1 : ∀ b, G.n ≤ b → b < G1.n → G'.bk b = G1.bk b := fun b h1 h2 => o.2 b h2 (fun hq => by have := hm b hq; omega)
  have hk2 : ∀ b, lo ≤ b → b ≠ B → b < G.n → G'.bk b = G.bk b := fun b h1 h2 h3 => by rw [o.2 b (by omega) (fun hq => h2 (hm b hq).1), x1.2 b h3 (by omega)]
  rcases h with ⟨rfl, rfl⟩ | ⟨v0, c0, B0, f0, l', cs', rfl, rfl, h1, h2, h3, h4, h5⟩
  · obtain ⟨B2, g2, q⟩ := gs.name (lo := lo) hlo (by omega) (by omega)
    refine .inr ⟨v, c, B2, f, [], [], rfl, rfl, g2.keep1 n2 (fun a b => hk1 _ ?_ b), by omega, by omega, ?_, rfl⟩
    · rcases q with q | q
      · exact q.2.1
      · omega
    · rcases q with q | q
      · exact sf.mono n2 (fun b hb hb2 => hk1 b hb.1 hb2) (fun b hb hb2 => ⟨by omega, by omega, by omega⟩)
      · exact sf.mono n2 (fun b hb hb2 => hk1 b hb.1 hb2) (fun b hb hb2 => ⟨by omega, by omega, by omega⟩)
  · refine .inr ⟨v0, c0, B0, f0, l' ++ [f], cs' ++ [v], rfl, rfl, h1.keep1 (by omega) (fun a b => hk2 _ a h2 b), by omega, by omega, h4.mono (by omega) (fun b hb hb2 => hk2 b hb.1 hb.2.1 hb2) (fun b hb hb2 => ⟨hb.1, by omega, hb.2.2⟩), ?_⟩
    refine LF.app (h5.imp fun c a h => h.mono (by omega) (fun b hb hb2 => hk2 b hb.1 hb.2.1 hb2) (fun b hb hb2 => ⟨hb.1, by omega, hb.2.2⟩)) (LF.one ⟨v, rfl, (gs.sv sf).mono n2 (fun b hb hb2 => hk1 b hb hb2) (fun b hb hb2 => ⟨by omega, by omega, by omega⟩)⟩ rfl)
theorem K_sl92Program_l {r : Nat} {vr : AV} {nr : Nat} (hvr : alen vr = some nr) (hnr : nr ≤ 3) {P2 P3 base lo : Nat} (hrb : r < base) (hb3 : base < P3) (h3lo : P3 < lo) {n : Int} (hn : n ≤ 10) {Q : Out → Env → AH → Prop} (j i : Nat) (hij : (i + j : Int) = n) {G : AH} {g : AV} {l : List Sts} {cs : List AV} {B : Nat} {m : Int} (hlo : lo ≤ G.n) (hl : l.length = i) (gP : G.bk P3 = some ⟨[vr, g], true⟩)
    (hg : GrS base G g l.length 1 cs B) (hB : B ≠ P3) (hBb : base ≤ B) (he : T0 lo B G l cs) (hct : ∀ f ∈ l, ctS f ≤ 1000) (hR : Rdx G r m) (hm : m + 60000 * j ≤ 500000000000)
    (hQ : ∀ e g' l' cs' B' G', (l'.length : Int) = n → GrS base G' g' l'.length 1 cs' B' → B' ≠ P3 → T0 lo B' G' l' cs' → G'.bk P3 = some ⟨[vr, g'], true⟩ → (∀ f ∈ l', ctS f ≤ 1000) → Rdx G' r (m + 60000 * j) → (∀ b, b < base → b ≠ r → G'.bk b = G.bk b) → G.n ≤ G'.n → get e 0 = some (.ptr r 0) → get e 2 = some (.ptr P2 0) → get e 3 = some (.ptr P3 0) → Q (.brk 0) e G') :
    W Cd (.loop c_sl92Program_l0) [(0, .ptr r 0), (2, .ptr P2 0), (3, .ptr P3 0), (4, .I n), (5, .I i)] G Q := by
  induction j generalizing i G g l cs B m with
  | zero =>
    rw [W_loop_as c_sl92Program_l0.eq_1]
    have hi : (i : Int) = n := by omega
    simp [hi]
    exact hQ _ g l cs B G (by omega) hg hB he gP hct (hR.up (by omega)) (fun _ _ _ => rfl) (Nat.le_refl _) rfl rfl rfl
  | succ j ih =>
    rw [W_loop_as c_sl92Program_l0.eq_1]
    have hlt : (i : Int) < n := by omega
    simp (disch := omega) [hlt, load_bk gP, hvr]
    refine K_sl92Stmts (by omega) hR (by omega) fun vs cs1 B1 f H1 gs sf ctf hR1 hS1 => ?_
    have n1 := hS1.1
    have gP1 : H1.bk P3 = some ⟨[vr, g], true⟩ := hS1.at (by omega) (by omega) gP
    have fs := gs.flat
    have hS : St r G (H1.push [vs]) := hS1.push
    obtain ⟨g', G', B', a1, a2, a3, a4, a5, a6⟩ := LF.snoc3 (E := L1) (c := [vs]) (x := f) (fun h => h.mono) hg he.lf (by omega) hlo hrb (by omega) hS rfl ⟨vs, rfl, (gs.sv sf).ext (Ext.push _ _)⟩ (by omega)
    have hmg : ∀ b, b ∈ grB g B → b = B ∧ base ≤ B ∧ B < G.n := fun b hb => hg.mem hb
    have t3 : T0 lo B' G' (l ++ [f]) (cs ++ [vs]) := T0.snoc hg he (by omega) hBb (by omega) hlo (by omega) hS a4 a5 (gs.ext (Ext.push _ _)) (sf.ext (Ext.push _ _))
    have hk : ∀ b, b < H1.n → b ≠ B ∨ b < base → G'.bk b = H1.bk b := fun b hb hb2 => (a4.2 b (by simp; omega) (fun hq => by have := hmg b hq; omega)).trans (push_old hb rfl)
    have gP2 : G'.bk P3 = some ⟨[vr, g], true⟩ := (hk P3 (by omega) (.inl (Ne.symm hB))).trans gP1
    have st := store_cell (v := g') gP2 (o := 1) (by simp)
    simp only [List.set_cons_succ, List.set_cons_zero] at st
    have n4 := a4.1
    simp only [push_n] at n4 a5
    have hB' : B' ≠ P3 := by
      rcases a5 with q | q
      · rw [q.1]; exact hB
      · omega
    have hB2' : base ≤ B' := by
      rcases a5 with q | q
      · rw [q.1]; exact hBb
      · omega
    have kk : H1.bk P3 = G.bk P3 := hS1.2 P3 (by omega) (by omega)
    simp (disch := omega) [kk, AM.elems, flat_cells fs, flat_tup fs, loadN_push, a1, st, flat_cells a6, flat_tup a6]
    have := ih (i + 1) (by push_cast; omega) (G := G'.put P3 (some ⟨[vr, g'], true⟩)) (g := g') (l := l ++ [f]) (cs := cs ++ [vs]) (B := B') (m := m + 60000) (by simp; omega) (by simp; omega) put_same
      (a2.only (bs := [P3]) (Only.refl.put (by simp)) (fun b hb => .inr (by simp at hb; subst hb; exact Ne.symm hB'))) hB'
      hB2' (t3.keep (by simp) (fun b hb _ _ => by rw [put_bk, if_neg (by omega)]))
      (fun f' hf' => by
        rcases List.mem_append.1 hf' with q | q
        · exact hct f' q
        · rw [List.mem_singleton.1 q]; exact ctf)
      ((hR1.same (by omega) fun b hb => hk b (by have := hR1.lt; omega) (.inr (by omega))).put (by omega)) (by omega)
      (fun e g2 l2 c2 B2 G2 u1 u2 u3 u4 u5 u6 u7 u8 u9 ua ub uc => hQ e g2 l2 c2 B2 G2 u1 u2 u3 u4 u5 u6 (u7.up (by omega)) (fun b h1 h2 => by rw [u8 b h1 h2, put_bk, if_neg (by omega), hk b (by omega) (.inr h1), hS1.2 b (by omega) h2]) (by simp at u9; omega) ua ub uc)
    simpa using this
section
variable {H : AH} {K : AV → AH → Prop} {r : Nat} {w : Fk K} {m boxes : Int}
theorem K_sl92ProgramX (h : Rdx H r m) (hm : m ≤ 400000000000)
    (k : ∀ vr vt (p : Pg) RB TB lo cs H', H.n ≤ lo → lo ≤ H'.n → GrS H.n H' vr p.rooms.length 1 (Ints p.rooms) RB → (∀ b ∈ grB vr RB, b < lo) → IV (fun b => H.n ≤ b ∧ b < lo) H' vr p.rooms → GrS lo H' vt p.tasks.length 1 cs TB → T0 lo TB H' p.tasks cs → 1 ≤ p.tasks.length ∧ p.tasks.length ≤ 3 → p.rooms.length ≤ 3 →
      (∀ f ∈ p.tasks, ctS f ≤ 1000) → Rdx H' r (m + 600000) → St r H H' → K (.agg [vr, vt]) H') : CallF Cd f_sl92Program [.ptr r 0] H K w := by
  rw [CallF_eq e_sl92Program rfl]
  have hr := h.lt
  simp
  refine K_sl92Rooms h.push (by omega) fun vr lr Br H1 hlr gr hR1 hS1 => ?_
  have n1 := hS1.1
  simp only [push_n] at n1
  have fr := gr.flat
  have e2 : ((H1.push []).push [.nils, .nils]).store (H1.n + 1) 0 [vr, .sl H1.n 0 0 (.ex 0)] = some ((H1.push []).push [vr, .sl H1.n 0 0 (.ex 0)]) := store_push2e (H := H1.push [])
  simp [flat_cells fr, flat_tup fr, e2]
  have iv1 : IV (fun b => H.n + 1 ≤ b ∧ b < H1.n) H1 vr lr := gr.ivB (fun a b => ⟨by simpa using a, b⟩)
  have x3 := (Ext.push H1 []).trans (Ext.push _ [vr, .sl H1.n 0 0 (.ex 0)])
  refine P_pick (hR1.ext x3) (by omega) (by omega) fun x H4 hx hR4 hS4 => ?_
  have n4 := hS4.1
  simp only [push_n] at n4
  simp (disch := omega)
  have hS14 : St r H1 H4 := x3.st.trans hS4
  have q4 : H4.bk (H1.n + 1) = some ⟨[vr, .sl H1.n 0 0 (.ex 0)], true⟩ := hS4.at (by simp) (by omega) push_new
  have qb : H4.bk H1.n = some ⟨[], true⟩ := hS4.at (by simp; omega) (by omega) (push_old (by simp) push_new)
  have qR4 : H4.bk H.n = some ⟨[.nils, .nils], true⟩ := hS14.at (by omega) (by omega) (hS1.at (by simp) (by omega) push_new)
  have S04 : St r H H4 := ((Ext.push H _).st.trans hS1).trans hS14
  have iv4 : IV (fun b => H.n + 1 ≤ b ∧ b < H1.n) H4 vr lr := iv1.mono (by omega) (fun b hb hb2 => hS14.2 b hb2 (by omega)) (fun _ h _ => h)
  obtain ⟨j, hj⟩ : ∃ j : Nat, 1 + x = j := ⟨(1 + x).toNat, by omega⟩
  have hj3 : j ≤ 3 := by omega
  -- the end, common to both ways
  have fin : ∀ (G : AH) (g : AV) (l : List Sts) (cs : List AV) (B : Nat), GrS H1.n G g l.length 1 cs B → 1 ≤ l.length ∧ l.length ≤ 3 → B ≠ H1.n + 1 → T0 (H1.n + 2) B G l cs → G.bk (H1.n + 1) = some ⟨[vr, g], true⟩ → (∀ f ∈ l, ctS f ≤ 1000) → Rdx G r (m + 500000) → (∀ b, b < H1.n → b ≠ r → G.bk b = H4.bk b) → H4.n ≤ G.n →
      ∃ G1, G.loadN (H1.n + 1) 0 2 = some [vr, g] ∧ G.store H.n 0 [vr, g] = some G1 ∧ G1.loadN H.n 0 2 = some [vr, g] ∧ K (.agg [vr, g]) G1 := by
    intro G g l cs B z1 zl z2 z3 z4 z5 z6 z7 z8
    have qR := (z7 H.n (by omega) (by omega)).trans qR4
    refine ⟨_, by rw [loadN_bk z4]; rfl, store_bk qR (by simp), by rw [loadN_bk put_same]; rfl, ?_⟩
    have hk : ∀ b, b ≠ H.n → (G.put H.n (some ⟨splice [.nils, .nils] 0 [vr, g], true⟩)).bk b = G.bk b := fun b hb => by rw [put_bk, if_neg hb]
    have kv : ∀ b, H.n < b → b < H1.n → (G.put H.n (some ⟨splice [.nils, .nils] 0 [vr, g], true⟩)).bk b = H1.bk b := fun b h1 h2 => by
      rw [hk b (by omega), z7 b h2 (by omega), hS14.2 b h2 (by omega)]
    have gr2 : GrS (H.n + 1) H1 vr lr.length 1 (Ints lr) Br := by simpa using gr
    refine k vr g ⟨lr, l⟩ Br B H1.n cs _ (by omega) (by simp; omega) ((gr2.keep (by simp; omega) (fun b h1 h2 => kv b (by omega) h2)).up (by omega)) (fun b hb => ?_) (iv4.mono (by simp; omega) (fun b hb hb2 => ?_) (fun b hb _ => by omega)) (z1.keep (by simp) (fun b h1 _ => hk b (by omega))) ((z3.keep (by simp) (fun b h1 _ _ => hk b (by omega))).up (by omega)) zl hlr z5 ((z6.put (by omega)).up (by omega)) ?_
    · have := gr2.mem hb; omega
    · rw [hk b (by omega), z7 b hb.2 (by omega)]
    · exact St.put_new ⟨by have := S04.1; omega, fun b hb hbr => by rw [z7 b (by omega) hbr, S04.2 b hb hbr]⟩ (Nat.le_refl _)
  have := K_sl92Program_l (P2 := H.n) (P3 := H1.n + 1) (base := H1.n) (lo := H1.n + 2) (vr := vr) (nr := lr.length) gr.alen hlr (r := r) (by omega) (by omega) (by omega) (n := j) (by omega) (Q := ?_) j 0 (by simp) (G := H4) (g := .sl H1.n 0 0 (.ex 0)) (l := []) (cs := []) (B := H1.n) (m := m + 51) (by omega) rfl q4
    ⟨by simp, by simp, .inr ⟨Nat.le_refl _, by omega, .inl ⟨rfl, qb⟩⟩⟩ (by omega) (Nat.le_refl _) (.inl ⟨rfl, rfl⟩) (by simp) (hR4.up (by omega)) (by omega) ?_
  · simpa [hj] using this
  · intro e g l cs B G z1 z2 z3 z4 z5 z6 z7 z8 z9 za zb zc
    simp [za, zb, zc]
    refine P_pick z7 (by omega) (by omega) fun y G2 hy hR5 hS5 => ?_
    have n5 := hS5.1
    have g2 := z2.st hS5 (by omega)
    have q5 : G2.bk (H1.n + 1) = some ⟨[vr, g], true⟩ := hS5.at (by omega) (by omega) z5
    have t5 : T0 (H1.n + 2) B G2 l cs := z4.keep n5 (fun b hb _ hb2 => hS5.2 b hb2 (by omega))
    have e5 := t5.lf
    simp
    by_cases hy0 : y = 0
    · simp [hy0, load_bk q5]
      refine K_sl92Endless hR5 (by omega) fun c s G3 s1 cts hR6 hS6 => ?_
      have n6 := hS6.1
      have l8 := s1.len
      have g3 := (g2.st hS6 (by omega)).ext (Ext.push G3 c)
      obtain ⟨f0, l', rfl⟩ : ∃ f0 l', l = f0 :: l' := by
        cases l with
        | nil => simp at z1; omega
        | cons f0 l' => exact ⟨f0, l', rfl⟩
      obtain ⟨cap, G4, rfl, t1, t2, t3, t4, t5⟩ := g3.storeAt (o := 0) (c := [.sl G3.n 0 1 (.ex 1)]) (by simp) (by simp)
      obtain ⟨cc, cr, rfl, h2, h3, hrest⟩ := e5
      have es : splice (cc ++ cr) 0 [.sl G3.n 0 1 (.ex 1)] = [.sl G3.n 0 1 (.ex 1)] ++ cr := by
        obtain ⟨v0, rfl⟩ : ∃ v0, cc = [v0] := by
          cases cc with
          | nil => simp at h2
          | cons a t => cases t with
            | nil => exact ⟨a, rfl⟩
            | cons _ _ => simp at h2
        rfl
      rw [es] at t2
      have q6 : G4.bk (H1.n + 1) = some ⟨[vr, .sl B 0 (f0 :: l').length cap], true⟩ := (t3.2 _ (by simp; omega) (by simp; omega)).trans ((push_old (by omega) rfl).trans (hS6.at (by omega) (by omega) q5))
      have hk4 : ∀ b, b ≠ B → b < G3.n → G4.bk b = G3.bk b := fun b hb hb2 => (t3.2 b (by simp; omega) (by simpa using hb)).trans (push_old hb2 rfl)
      have n7 := t3.1
      simp only [push_n] at n7
      have hBlt : B < G2.n := (g2.mem (b := B) (by simp [grB])).2.2
      have s2 : SF (fun b => G2.n ≤ b) G3 (Sts.of [s]) c := s1.one
      have g30 : GrS (H1.n + 2) G4 (.sl G3.n 0 1 (.ex 1)) (Sts.of [s]).list.length 8 c G3.n := (GrS.new (base := H1.n + 2) (G := G3) (n := 1) (sz := 8) (cs := c) (by omega) (by omega) (by simpa using l8)).keep1 n7 (fun _ hb2 => t3.2 _ hb2 (by simp; omega))
      have t6 : T0 (H1.n + 2) B G4 (Sts.of [s] :: l') ([.sl G3.n 0 1 (.ex 1)] ++ cr) := .inr ⟨_, c, G3.n, _, l', cr, rfl, rfl, g30, by omega, by omega, s2.mono (by omega) (fun b hb hb2 => hk4 b (by omega) hb2) (fun b hb _ => ⟨by omega, by omega, by omega⟩), hrest.imp fun c a h => h.mono (by omega) (fun b hb hb2 => by rw [hk4 b hb.2 (by omega), hS6.2 b hb2 (by omega)]) (fun b hb hb2 => ⟨hb.1, hb.2, by omega⟩)⟩
      obtain ⟨G5, w1, w2, w3, w4⟩ := fin G4 _ (Sts.of [s] :: l') _ B (by simpa using t2) (by simp at z1 ⊢; omega) z3 t6 q6
        (fun f hf => by
          rcases List.mem_cons.1 hf with q | q
          · rw [q]; simp only [Sts.of, ctS]; unfold ctT at cts; omega
          · exact z6 f (List.mem_cons_of_mem _ q)) ((hR6.same (by omega) fun b hb => hk4 b (by omega) (by omega)).up (by omega)) (fun b hb hbr => by rw [hk4 b (by omega) (by omega), hS6.2 b (by omega) hbr, hS5.2 b (by omega) hbr, z8 b hb hbr]) (by omega)
      have elen : (f0 :: l').length = l'.length + 1 := rfl
      have kk : G3.bk (H1.n + 1) = G2.bk (H1.n + 1) := hS6.2 _ (by omega) (by omega)
      rw [elen] at w1 w2 w3 w4
      simp [l8, kk, t1, w1, w2, w3]
      exact w4
    · obtain ⟨G5, w1, w2, w3, w4⟩ := fin G2 g l cs B g2 (by omega) z3 t5 q5 z6 (hR5.up (by omega)) (fun b hb hbr => by rw [hS5.2 b (by omega) hbr, z8 b hb hbr]) (by omega)
      simp [hy0, w1, w2, w3]
      exact w4
theorem K_sl92Program (h : Rdx H r m) (hm : m ≤ 400000000000)
    (k : ∀ c p H', PgC (fun b => H.n ≤ b) H' c p → (∀ f ∈ p.tasks, ctS f ≤ 1000) → Rdx H' r (m + 600000) → St r H H' → K (.agg c) H') : CallF Cd f_sl92Program [.ptr r 0] H K w :=
  K_sl92ProgramX h hm fun vr vt p RB TB lo cs H' h1 h2 h3 h4 h5 h6 h7 h8 h9 h10 h11 h12 =>
    k [vr, vt] p H' ⟨vr, vt, rfl, h5.mono (Nat.le_refl _) (fun _ _ _ => rfl) (fun b hb _ => hb.1), ⟨cs, h6.slc.mono (Nat.le_refl _) (fun _ _ _ => rfl) (fun b hb _ => by omega), h7.lf.imp fun c a h => h.mono (Nat.le_refl _) (fun _ _ _ => rfl) (fun b hb _ => by omega)⟩⟩ h10 h11 h12
end
end Go.Proofs.Ytmecbehegmgbhaa.AM
namespace Go.Proofs.Ytmecbehegmgbhaa.AM
set_option linter.unusedSimpArgs false
set_option linter.unusedVariables false
set_option maxRecDepth 100000
set_option maxHeartbeats 2000000
open Go
attribute [-simp] AM.elems
def w0 (p : Pg) : Wd := if vaPg p = true then newW p else zeroW
theorem w0_bo {p : Pg} (h : ∀ f ∈ p.tasks, ctS f ≤ 1000) : boW (w0 p) 850000 ∧ (w0 p).boxes.length ≤ 3 := by
  unfold w0
  split
  · rename_i hv
    obtain ⟨h1, h2⟩ := newW_ok hv
    refine ⟨⟨fun t ht => ⟨?_, by have := h2 t ht; omega⟩, by simp [newW]⟩, (vaBs_facts (vaWd_iff.1 h1).2.2.1).1⟩
    simp only [newW, List.mem_map] at ht
    obtain ⟨f, hf, rfl⟩ := ht
    have := h f hf
    simp only; omega
  · exact ⟨⟨fun t ht => by simp [zeroW] at ht, by simp [zeroW]⟩, by simp [zeroW]⟩
theorem runF_bo {w : Wd} {n : Int} {m : Nat} (h : boW w (n.toNat + m)) (hb : w.boxes.length ≤ 3) : boW (runF n w).1 m ∧ (runF n w).1.boxes.length ≤ 3 := by
  unfold runF
  split
  · rename_i hv
    obtain ⟨a1, a2, a3, a4, ⟨p, a5, a6⟩, a7⟩ := runW_keeps n.toNat hv.1
    have hu := a7 4000 (fun t ht => (h.1 t ht).2)
    have ho := h.2
    simp only
    refine ⟨⟨fun t ht => ⟨?_, hu t ht⟩, ?_⟩, by omega⟩
    · have := (show smW (runW n.toNat w) from ⟨a1, hu, by rw [a5, List.length_append]; omega⟩).task ht
      omega
    · rw [a5, List.length_append]; omega
  · exact ⟨⟨fun t ht => by simp [zeroW] at ht, by have := h.2; simp [zeroW]; omega⟩, by simp [zeroW]⟩
theorem WC.st {base r : Nat} {H H' : AH} {c : List AV} {t : Wd} (h : WC (fun b => base ≤ b) H c t) (k : St r H H') (hr : r < base) : WC (fun b => base ≤ b) H' c t := h.mono k.1 (fun b hb hb2 => k.2 b hb2 (by omega)) (fun _ h _ => h)
theorem WX.st {base r : Nat} {H H' : AH} {c : List AV} {t : Wd} (h : WX (fun b => base ≤ b) H c t) (k : St r H H') (hr : r < base) : WX (fun b => base ≤ b) H' c t := h.mono k.1 (fun b hb hb2 => k.2 b hb2 (by omega)) (fun _ h _ => h)
section
variable {H : AH} {K : AV → AH → Prop} {r : Nat} {w : Fk K} {m boxes : Int}
end
end Go.Proofs.Ytmecbehegmgbhaa.AM
namespace Go.Proofs.Ytmecbehegmgbhaa.AM
set_option linter.unusedSimpArgs false
set_option linter.unusedVariables false
set_option maxRecDepth 100000
set_option maxHeartbeats 2000000
open Go
attribute [-simp] AM.elems
section
variable {H : AH} {K : AV → AH → Prop} {w : Fk K}
end
end Go.Proofs.Ytmecbehegmgbhaa.AM
namespace Go.Proofs.Ytmecbehegmgbhaa.AM
set_option linter.unusedSimpArgs false
set_option linter.unusedVariables false
set_option maxRecDepth 100000
set_option maxHeartbeats 2000000
open Go
attribute [-simp] AM.elems
theorem runW_rest {w : Wd} (h : ¬ w.idle < w.tasks.length) : ∀ n, runW n w = w
  | 0 => rfl
  | n + 1 => by unfold runW; rw [if_neg h]
theorem runW_add (a : Nat) : ∀ (b : Nat) (w : Wd), runW b (runW a w) = runW (a + b) w := by
  induction a with
  | zero => intro b w; rw [Nat.zero_add]; rfl
  | succ a ih =>
    intro b w
    rw [Nat.succ_add]
    by_cases h : w.idle < w.tasks.length
    · rw [show runW (a + 1) w = runW a (stepW w) by conv => lhs; unfold runW
                                                    rw [if_pos h], ih]
      conv => rhs; unfold runW
      rw [if_pos h]
    · rw [runW_rest h, runW_rest h, runW_rest h]
/-- The bounds of a drawn world. -/
theorem boW.ct {w : Wd} {n : Nat} (h : boW w n) : ∀ t ∈ w.tasks, ctS t.rest ≤ 100000 := fun t ht => (h.1 t ht).1
theorem boW.run {w : Wd} {n m : Nat} (h : boW w (n + m)) (hv : vaWd w = true) : boW (runW n w) m := by
  obtain ⟨a1, a2, a3, a4, ⟨p, a5, a6⟩, a7⟩ := runW_keeps n hv
  have hu := a7 4000 (fun t ht => (h.1 t ht).2)
  have ho := h.2
  refine ⟨fun t ht => ⟨?_, hu t ht⟩, by rw [a5, List.length_append]; omega⟩
  have := (show smW (runW n w) from ⟨a1, hu, by rw [a5, List.length_append]; omega⟩).task ht
  omega
theorem boW.le {w : Wd} {n m : Nat} (h : boW w n) (hm : m ≤ n) : boW w m := ⟨h.1, by have := h.2; omega⟩
end Go.Proofs.Ytmecbehegmgbhaa.AM
namespace Go.Proofs.Ytmecbehegmgbhaa.AM
set_option linter.unusedSimpArgs false
set_option linter.unusedVariables false
set_option maxRecDepth 100000
set_option maxHeartbeats 2000000
open Go
attribute [-simp] AM.elems
theorem AH.same {G G' : AH} (hn : G.n = G'.n) (h : ∀ b, G.bk b = G'.bk b) : G = G' := by
  cases G; cases G'; simp only [AH.mk.injEq] at *; exact ⟨hn, funext h⟩
/-- One more statement on a list that may grow: what becomes of the heap, for each such statement alike. -/
theorem GrS.app1 {base B n : Nat} {G : AH} {v : AV} {cs : List AV} (h : GrS base G v n 8 cs B) (hb : base ≤ G.n) (hn : n < 1000000) :
    ∃ B' cap ex, ∃ F : List AV → AH, (∀ c, c.length = 8 → aapp (G.push c) 8 v 1 c = some (.sl B' 0 (n + 1) cap, F c) ∧ (F c).bk B' = some ⟨cs ++ c ++ ex, true⟩ ∧ (F c).n = (F []).n ∧ G.n + 1 ≤ (F c).n ∧ B' < (F c).n ∧ (∀ b, b ≠ B' → b ≠ G.n → (F c).bk b = (F []).bk b) ∧
      (∀ b, b < G.n → b ≠ B ∨ b < base → (F c).bk b = G.bk b) ∧ GrS base (F c) (.sl B' 0 (n + 1) cap) (n + 1) 8 (cs ++ c) B') ∧ B' ≠ G.n ∧ base ≤ B' ∧ ((B' = B ∧ B < G.n) ∨ B' = G.n + 1) := by
  obtain ⟨h1, h2, h3⟩ := h
  rcases h3 with ⟨rfl, rfl⟩ | ⟨h4, h5, ⟨rfl, h6⟩ | ⟨c0, ex, rfl, h7, h8, h9⟩⟩
  · have : cs = [] := List.eq_nil_of_length_eq_zero (by omega)
    subst this
    refine ⟨G.n + 1, .lb 1 8, [], fun c => (G.push c).push c, fun c hc => ⟨?_, by simp, rfl, by simp, by simp, fun b h1 h2 => by simp [h1, h2], fun b hb2 _ => push_old (by simp; omega) (push_old hb2 rfl), by omega, by simp; omega, .inr ⟨by omega, by simp, .inr ⟨1, [], rfl, by omega, by simp, by simp⟩⟩⟩, by omega, by omega, .inr rfl⟩
    unfold aapp
    rw [if_neg (by omega), if_pos (by unfold big; omega)]; rfl
  · refine ⟨G.n + 1, .lb (n + 1) 8, [], fun c => (G.push c).push (cs ++ c), fun c hc => ⟨?_, by simp, rfl, by simp, by simp, fun b h1 h2 => by simp [h1, h2], fun b hb2 _ => push_old (by simp; omega) (push_old hb2 rfl), by omega, by simp; omega, .inr ⟨by omega, by simp, .inr ⟨n + 1, [], rfl, by omega, by simp, by simp⟩⟩⟩, by omega, by omega, .inr rfl⟩
    have e1 : (G.push c).loadN B 0 (n * 8) = some cs := by rw [loadN_bk (push_old h5 h6)]; exact seg_self h2
    unfold aapp
    simp only [Nat.zero_add]
    rw [if_neg (by omega), if_neg (by unfold big; omega)]
    rw [if_neg (by omega), e1]
    rfl
  · by_cases hc0 : n + 1 ≤ c0
    · refine ⟨B, .lb c0 8, ex.drop 8, fun c => (G.push c).put B (some ⟨cs ++ c ++ ex.drop 8, true⟩), fun c hc => ⟨?_, by simp, rfl, by simp, by simp; omega, fun b h1 h2 => by simp only [put_bk, push_bk]; rw [if_neg h1, if_neg h1, if_neg h2, if_neg h2], fun b hb2 hbb => by rw [put_bk, if_neg (by omega)]; exact push_old hb2 rfl, by omega, by simp; omega, .inr ⟨by omega, by simp; omega, .inr ⟨c0, ex.drop 8, rfl, by omega, by simp; omega, by simp⟩⟩⟩, by omega, by omega, .inl ⟨rfl, h5⟩⟩
      have e3 := store_bk (o := n * 8) (vs := c) (push_old (cs := c) h5 h9) (by simp; omega)
      have e2 : splice (cs ++ ex) (n * 8) c = (cs ++ c) ++ ex.drop 8 := by
        unfold splice
        rw [← h2, List.take_left, List.drop_append]
        rw [List.drop_of_length_le (by omega), List.nil_append]
        congr 2; omega
      rw [e2] at e3
      unfold aapp
      simp only [Nat.zero_add]
      rw [if_neg (by omega), if_neg (by unfold big; omega)]
      rw [if_neg (by simp), if_pos hc0, e3]; rfl
    · refine ⟨G.n + 1, .lb (n + 1) 8, [], fun c => ((G.push c).put B none).push (cs ++ c), fun c hc => ⟨?_, by simp, rfl, by simp, by simp, fun b h1 h2 => ?_, fun b hb2 hbb => ?_, by omega, by simp; omega, .inr ⟨by omega, by simp, .inr ⟨n + 1, [], rfl, by omega, by simp, by simp⟩⟩⟩, by omega, by omega, .inr rfl⟩
      · have e1 : (G.push c).loadN B 0 (n * 8) = some cs := by rw [loadN_bk (push_old h5 h9)]; exact seg_app h2
        have e2 : (G.push c).bk B = _ := push_old h5 h9
        unfold aapp
        simp only [Nat.zero_add]
        rw [if_neg (by omega), if_neg (by unfold big; omega)]
        rw [if_neg (by simp), if_neg hc0, e1, e2]
        rfl
      · simp [h1, h2]
      · refine push_old (by simp; omega) ?_
        rw [put_bk, if_neg (by omega)]; exact push_old hb2 rfl
theorem GrS.out {base G v n sz cs B} (h : GrS base G v n sz cs B) (hn : 0 < n) : ∃ cap xs, v = .sl B 0 n cap ∧ base ≤ B ∧ B < G.n ∧ G.bk B = some ⟨cs ++ xs, true⟩ := by
  obtain ⟨h1, h2, ⟨h3, h3'⟩ | ⟨h4, h5, ⟨rfl, h6⟩ | ⟨c0, ex, rfl, h7, h8, h9⟩⟩⟩ := h
  · omega
  · exact ⟨_, [], rfl, h4, h5, by simpa using h6⟩
  · exact ⟨_, ex, rfl, h4, h5, h9⟩
section
variable {H : AH} {K : AV → AH → Prop} {r : Nat} {w : Fk K} {m boxes : Int}
theorem K_sl92Wrong (h : Rdx H r m) (hm : m ≤ 300000000000)
    (k : ∀ c p H', PgC (fun b => H.n ≤ b) H' c p → (∀ f ∈ p.tasks, ctS f ≤ 1001) → p.tasks.length ≤ 6 → p.rooms.length ≤ 4 → Rdx H' r (m + 700000) → St r H H' → K (.agg c) H') : CallF Cd f_sl92Wrong [.ptr r 0] H K w := by
  rw [CallF_eq e_sl92Wrong rfl]
  have hr := h.lt
  simp
  refine K_sl92ProgramX h.push (by omega) fun vr vt p RB TB lo cs H1 hlo1 hlo2 g1 hgl iv1 g2 t0 hl hlr hct hR1 hS1 => ?_
  simp only [push_n] at hlo1 g1 hgl iv1
  have n1 := hS1.1
  simp only [push_n] at n1
  have fr := g1.flat
  have ft := g2.flat
  simp [flat_cells fr, flat_tup fr, flat_cells ft, flat_tup ft]
  have e2 : (H1.push [.nils, .nils]).store H1.n 0 [vr, vt] = some (H1.push [vr, vt]) := store_push2e
  simp [e2]
  refine P_pick hR1.push (by omega) (by omega) fun x H3 hx hR3 hS3 => ?_
  have n3 := hS3.1
  simp only [push_n] at n3
  have hS13 : St r H1 H3 := (Ext.push H1 [vr, vt]).st.trans hS3
  have S03 : St r H H3 := ((Ext.push H _).st.trans hS1).trans hS13
  have g3 : GrS (H.n + 1) H3 vr p.rooms.length 1 (Ints p.rooms) RB := g1.st hS13 (by omega)
  have gt3 : GrS lo H3 vt p.tasks.length 1 cs TB := g2.st hS13 (by omega)
  have t3 : T0 lo TB H3 p.tasks cs := t0.keep (by omega) (fun b hb _ hb2 => hS13.2 b hb2 (by omega))
  have q3 : H3.bk H1.n = some ⟨[vr, vt], true⟩ := hS3.at (by simp) (by omega) push_new
  have qR : H3.bk H.n = some ⟨[.nils, .nils], true⟩ := hS13.at (by omega) (by omega) (hS1.at (by simp) (by omega) push_new)
  have ar := g3.alen
  have at' := gt3.alen
  have hRB : ∀ b, b ∈ grB vr RB → b = RB ∧ H.n + 1 ≤ RB ∧ RB < lo := fun b hb => ⟨(g3.mem hb).1, (g3.mem hb).2.1, by have := hgl b hb; have := (g3.mem hb).1; omega⟩
  have hTB : ∀ b, b ∈ grB vt TB → b = TB ∧ lo ≤ TB ∧ TB < H1.n := fun b hb => g2.mem hb
  have iv3 : IV (fun b => H.n + 1 ≤ b ∧ b < lo) H3 vr p.rooms := iv1.mono (by omega) (fun b hb hb2 => hS13.2 b hb2 (by omega)) (fun _ h _ => h)
  have lf1 : LF 1 (L1 (fun b => (lo ≤ b ∧ b ≠ TB) ∧ b < H1.n) H3) p.tasks cs := t0.lf.imp fun c a h => h.mono (by omega) (fun b hb hb2 => hS13.2 b hb2 (by omega)) (fun b hb hb2 => ⟨hb, hb2⟩)
  have lv3 : LV (fun b => lo ≤ b ∧ b < H1.n) H3 vt p.tasks := ⟨cs, g2.slc.mono (by omega) (fun b hb hb2 => hS13.2 b hb2 (by omega)) (fun b hb hb2 => ⟨hb, hb2⟩), lf1.imp fun c a h => h.mono (Nat.le_refl _) (fun _ _ _ => rfl) (fun b hb _ => ⟨hb.1.1, hb.2⟩)⟩
  have fin : ∀ (G : AH) (vr' vt' : AV) (p' : Pg), G.bk H1.n = some ⟨[vr', vt'], true⟩ → IV (fun b => H.n < b) G vr' p'.rooms → LV (fun b => H.n < b) G vt' p'.tasks → (∀ f ∈ p'.tasks, ctS f ≤ 1001) → p'.tasks.length ≤ 6 → p'.rooms.length ≤ 4 → Rdx G r (m + 650000) → G.bk H.n = some ⟨[.nils, .nils], true⟩ → St r H G →
      ∃ G1, G.loadN H1.n 0 2 = some [vr', vt'] ∧ G.store H.n 0 [vr', vt'] = some G1 ∧ G1.loadN H.n 0 2 = some [vr', vt'] ∧ K (.agg [vr', vt']) G1 := by
    intro G vr' vt' p' z1 z2 z3 z4 z5 z6 z7 z8 z9
    refine ⟨_, by rw [loadN_bk z1]; rfl, store_bk z8 (by simp), by rw [loadN_bk put_same]; rfl, ?_⟩
    have hk : ∀ b, b ≠ H.n → (G.put H.n (some ⟨splice [.nils, .nils] 0 [vr', vt'], true⟩)).bk b = G.bk b := fun b hb => by rw [put_bk, if_neg hb]
    exact k _ p' _ ⟨vr', vt', rfl, z2.mono (by simp) (fun b hb _ => hk b (by omega)) (fun b hb _ => by omega), z3.mono (by simp) (fun b hb _ => hk b (by omega)) (fun b hb _ => by omega)⟩ z4 z5 z6 ((z7.put (by omega)).up (by omega)) (z9.put_new (Nat.le_refl _))
  have hct' : ∀ f ∈ p.tasks, ctS f ≤ 1001 := fun f hf => by have := hct f hf; omega
  have S1G : ∀ G : AH, H3.n ≤ G.n → (∀ b, b < H3.n → b ≠ H1.n → b ≠ TB ∨ b < lo → b ≠ RB ∨ b < H.n + 1 ∨ lo ≤ b → b ≠ r → G.bk b = H3.bk b) → G.bk H.n = some ⟨[.nils, .nils], true⟩ ∧ St r H G := fun G hn hk =>
    ⟨(hk _ (by omega) (by omega) (by omega) (by omega) (by omega)).trans qR, by have := S03.1; omega, fun b hb hbr => (hk b (by omega) (by omega) (by omega) (by omega) hbr).trans (S03.2 b hb hbr)⟩
  simp
  by_cases x0 : x = 0
  · simp [x0, load_bk q3]
    refine P_pick hR3.push (by omega) (by omega) fun z H4 hz hR4 hS4 => ?_
    have n4 := hS4.1
    simp only [push_n] at n4
    obtain ⟨q, hq, eq⟩ := @Ints_get [0, 5] z 2 (by omega) rfl
    have eb : H4.bk H3.n = some ⟨Ints [0, 5], true⟩ := hS4.at (by simp) (by omega) push_new
    have q4 : H4.bk H1.n = some ⟨[vr, vt], true⟩ := hS4.at (by simp; omega) (by omega) (push_old (by omega) q3)
    have k3 : (H3.push (Ints [0, 5])).bk H1.n = some ⟨[vr, vt], true⟩ := push_old (by omega) q3
    have hS34 : St r H3 H4 := (Ext.push H3 _).st.trans hS4
    obtain ⟨g', G', B', a1, a2, a3, a4⟩ := ((g3.st hS34 (by omega)).ext (Ext.push H4 [.I q])).app (k := 1) (new := [.I q]) (by simp; omega) (by simp) (by omega)
    have n5 := a4.1
    simp only [push_n] at n5 a3
    have hk : ∀ b, b < H4.n → b ≠ RB ∨ b < H.n + 1 ∨ lo ≤ b → G'.bk b = H4.bk b := fun b hb hb2 => (a4.2 b (by simp; omega) (fun hq => by have := hRB b hq; omega)).trans (push_old hb rfl)
    have q5 : G'.bk H1.n = some ⟨[vr, vt], true⟩ := (hk _ (by omega) (by omega)).trans q4
    have st := store_cell (v := g') q5 (o := 0) (by simp)
    simp only [List.set_cons_succ, List.set_cons_zero] at st
    have f5 := a2.flat
    have hne : ¬ H1.n = H3.n := by omega
    have e8 : Ints p.rooms ++ [AV.I q] = Ints (p.rooms ++ [q]) := by simp [Ints]
    have hB' : B' ≠ H1.n ∧ H.n < B' := by
      rcases a3 with z | z
      · have := hRB _ z.2; omega
      · omega
    rw [e8] at a2
    obtain ⟨s1, s2⟩ := S1G (G'.put H1.n (some ⟨[g', vt], true⟩)) (by simp; omega) (fun b c1 c2 c3 c4 c5 => by rw [put_bk, if_neg c2, hk b (by omega) c4, hS34.2 b c1 c5])
    have a6 := a2.keep1 (G := G'.put H1.n (some ⟨[g', vt], true⟩)) (by simp) (fun _ _ => by rw [put_bk, if_neg hB'.1])
    obtain ⟨G1, u1, u2, u3, u4⟩ := fin (G'.put H1.n (some ⟨[g', vt], true⟩)) g' vt ⟨p.rooms ++ [q], p.tasks⟩ put_same (by have := a6.ivB (ok := fun b => H.n < b) (fun _ _ => hB'.2); simpa [IV] using this)
      (lv3.mono (by simp; omega) (fun b hb hb2 => by rw [put_bk, if_neg (by omega), hk b (by omega) (by omega), hS34.2 b hb2 (by omega)]) (fun b hb _ => by omega)) hct' (by simp only; omega) (by simp; omega) (((hR4.same (by omega) fun b hb => hk b (by have := hR4.lt; omega) (.inr (.inl (by omega)))).put (by omega)).up (by omega)) s1 s2
    simp (disch := omega) [AM.elems, load_eq, eb, eq, q4, q3, k3, hne, loadN_push, a1, st, flat_cells f5, flat_tup f5, u1, u2, u3]
    exact ⟨rfl, u4⟩
  by_cases x1 : x = 1
  · simp [x1, load_bk q3, ar]
    refine K_sl91Leaf hR3 (by omega) fun op n v H4 d4 hR4 hS4 => ?_
    have n4 := hS4.1
    have q4 : H4.bk H1.n = some ⟨[vr, vt], true⟩ := hS4.at (by omega) (by omega) q3
    have sm := (leafT_S1 (k := 4) (v := 0) (b := p.rooms.length) (e := ⟨op, n, .nil⟩) d4.ev).ext (Ext.push H4 [.I 4, .I 0, .I p.rooms.length, .I op, .I n, v, .nils, .nils])
    have svm : SV (fun b => H3.n ≤ b) (H4.push [.I 4, .I 0, .I p.rooms.length, .I op, .I n, v, .nils, .nils]) (.sl H4.n 0 1 (.ex 1)) (Sts.of [leafT 4 0 p.rooms.length ⟨op, n, .nil⟩]) :=
      ⟨_, (GrS.new (base := H3.n) (G := H4) (n := 1) (sz := 8) (cs := [.I 4, .I 0, .I p.rooms.length, .I op, .I n, v, .nils, .nils]) (by omega) (by omega) rfl).slc, sm.one⟩
    obtain ⟨G5, hG5⟩ : ∃ G5, G5 = (H4.push [.I 4, .I 0, .I p.rooms.length, .I op, .I n, v, .nils, .nils]).push [.sl H4.n 0 1 (.ex 1)] := ⟨_, rfl⟩
    have hS5 : St r H3 G5 := by rw [hG5]; exact (hS4.push).push
    have n5 : G5.n = H4.n + 2 := by rw [hG5]; rfl
    have l1 : L1 (fun b => H3.n ≤ b ∧ b ≠ H1.n) G5 [.sl H4.n 0 1 (.ex 1)] (Sts.of [leafT 4 0 p.rooms.length ⟨op, n, .nil⟩]) := by
      rw [hG5]; exact ⟨_, rfl, (svm.ext (Ext.push _ _)).mono (Nat.le_refl _) (fun _ _ _ => rfl) (fun b hb _ => ⟨hb, by omega⟩)⟩
    obtain ⟨g', G', B', a1, a2, a3, a4, a5, a6⟩ := LF.snoc3 (E := fun ok H c f => L1 (fun b => ok b ∧ b ≠ H1.n) H c f) (fun h h1 h2 h3 => h.mono h1 (fun b hb => h2 b hb.1) (fun b hb h => ⟨h3 b hb.1 h, hb.2⟩)) gt3 (lf1.imp fun c a h => h.mono (Nat.le_refl _) (fun _ _ _ => rfl) (fun b hb _ => ⟨hb.1, by omega⟩)) (by omega) (by omega) (r := r) (by omega) (by omega) hS5 rfl l1 (by omega)
    have hk : ∀ b, b < G5.n → b ≠ TB ∨ b < lo ∨ H1.n ≤ b → G'.bk b = G5.bk b := fun b hb hb2 => a4.2 b hb (fun hq => by have := hTB b hq; omega)
    have n6 := a4.1
    have q6 : G'.bk H1.n = some ⟨[vr, vt], true⟩ := (hk _ (by omega) (by omega)).trans (hS5.at (by omega) (by omega) q3)
    have st := store_cell (v := g') q6 (o := 1) (by simp)
    simp only [List.set_cons_succ, List.set_cons_zero] at st
    rw [hG5] at a1
    have hB' : B' ≠ H1.n ∧ H.n < B' := by
      rcases a5 with z | z
      · have := hTB _ z.2; omega
      · omega
    obtain ⟨s1, s2⟩ := S1G (G'.put H1.n (some ⟨[vr, g'], true⟩)) (by simp; omega) (fun b c1 c2 c3 c4 c5 => by rw [put_bk, if_neg c2, hk b (by omega) (by omega), hS5.2 b c1 c5])
    have a7 := a2.keep1 (G := G'.put H1.n (some ⟨[vr, g'], true⟩)) (by simp) (fun _ _ => by rw [put_bk, if_neg hB'.1])
    obtain ⟨G1, u1, u2, u3, u4⟩ := fin (G'.put H1.n (some ⟨[vr, g'], true⟩)) vr g' ⟨p.rooms, p.tasks ++ [Sts.of [leafT 4 0 p.rooms.length ⟨op, n, .nil⟩]]⟩ put_same
      (iv3.mono (by simp; omega) (fun b hb hb2 => by rw [put_bk, if_neg (by omega), hk b (by omega) (by omega), hS5.2 b hb2 (by omega)]) (fun b hb _ => by omega))
      ⟨_, a7.ivB (fun _ _ => hB'.2), a3.imp fun c a h => h.mono (by simp) (fun b hb _ => by rw [put_bk, if_neg hb.2]) (fun b hb _ => by omega)⟩
      (fun f hf => by
        rcases List.mem_append.1 hf with z | z
        · exact hct' f z
        · rw [List.mem_singleton.1 z]; simp [Sts.of, ctS, leafT]) (by simp; omega) (by simp only; omega) (((hR4.push.push).same (G' := G') (by rw [hG5] at n6; simpa using n6) (fun b hb => by rw [hk b (by omega) (by omega), hG5]) |>.put (by omega)).up (by omega)) s1 s2
    simp [AM.elems, q4, q3, loadN_push, a1, st, flat_cells a6, flat_tup a6, u1, u2, u3]
    exact u4
  by_cases x2 : x = 2
  · have q4 : (H3.push []).bk H1.n = some ⟨[vr, vt], true⟩ := push_old (by omega) q3
    have st := store_cell (v := .sl H3.n 0 0 (.ex 0)) q4 (o := 1) (by simp)
    simp only [List.set_cons_succ, List.set_cons_zero] at st
    obtain ⟨s1, s2⟩ := S1G ((H3.push []).put H1.n (some ⟨[vr, .sl H3.n 0 0 (.ex 0)], true⟩)) (by simp) (fun b c1 c2 c3 c4 c5 => by rw [put_bk, if_neg c2]; exact push_old c1 rfl)
    have b0 : ((H3.push []).put H1.n (some ⟨[vr, .sl H3.n 0 0 (.ex 0)], true⟩)).bk H3.n = some ⟨[], true⟩ := by rw [put_bk, if_neg (by omega)]; exact push_new
    obtain ⟨G1, u1, u2, u3, u4⟩ := fin ((H3.push []).put H1.n (some ⟨[vr, .sl H3.n 0 0 (.ex 0)], true⟩)) vr (.sl H3.n 0 0 (.ex 0)) ⟨p.rooms, []⟩ put_same
      (iv3.mono (by simp) (fun b hb hb2 => by rw [put_bk, if_neg (by omega)]; exact push_old hb2 rfl) (fun b hb _ => by omega))
      ⟨[], ⟨by simp, rfl, .inr ⟨H3.n, 0, _, rfl, ⟨by omega, by simp [capOk]⟩, by simp, by rw [loadN_bk b0]; rfl⟩⟩, rfl⟩
      (fun f hf => by simp at hf) (by simp) (by simp only; omega) ((hR3.push.put (by omega)).up (by omega)) s1 s2
    simp [x2, st, u1, u2, u3]
    exact u4
  by_cases x3 : x = 3
  · obtain ⟨cap, xs, rfl, b1, b2, b3⟩ := gt3.out (by omega)
    rcases t3 with ⟨e0, _⟩ | ⟨v0, c0, B0, f0, l', cs', e1, rfl, w1, w2, w3, w4, w5⟩
    · rw [e0] at hl; simp at hl
    have hl1 : 0 < p.tasks.length := by omega
    have b4 : (H3.push [v0, v0, v0]).bk TB = _ := push_old b2 b3
    obtain ⟨g', G', B', a1, a2, a3, a4⟩ := (gt3.ext (Ext.push H3 [v0, v0, v0])).app (k := 3) (new := [v0, v0, v0]) (by simp; omega) (by simp) (by omega)
    have n5 := a4.1
    simp only [push_n] at n5 a3
    have hk : ∀ b, b < H3.n → b ≠ TB ∨ b < lo ∨ H1.n ≤ b → G'.bk b = H3.bk b := fun b hb hb2 => (a4.2 b (by simp; omega) (fun hq => by have := hTB b hq; omega)).trans (push_old hb rfl)
    have q5 : G'.bk H1.n = some ⟨[vr, .sl TB 0 p.tasks.length cap], true⟩ := (hk _ (by omega) (by omega)).trans q3
    have st := store_cell (v := g') q5 (o := 1) (by simp)
    simp only [List.set_cons_succ, List.set_cons_zero] at st
    have f5 := a2.flat
    have f0' := w1.flat
    have hB' : B' ≠ H1.n ∧ H.n < B' ∧ (B' = TB ∨ B' = H3.n + 1) := by
      rcases a3 with z | z
      · have := hTB _ z.2; omega
      · omega
    have hTB1 : TB < H1.n := (hTB TB (by simp [grB])).2.2
    obtain ⟨s1, s2⟩ := S1G (G'.put H1.n (some ⟨[vr, g'], true⟩)) (by simp; omega) (fun b c1 c2 c3 c4 c5 => by rw [put_bk, if_neg c2, hk b (by omega) (by omega)])
    have a7 := a2.keep1 (G := G'.put H1.n (some ⟨[vr, g'], true⟩)) (by simp) (fun _ _ => by rw [put_bk, if_neg hB'.1])
    obtain ⟨cc, hcc, l0⟩ := lf1.get (i := 0) (a := f0) (by rw [e1]; rfl)
    have : cc = [v0] := by
      unfold seg at hcc
      rw [if_pos (by simp)] at hcc
      exact (Option.some.inj hcc).symm
    subst this
    have mv : ∀ c a, L1 (fun b => (lo ≤ b ∧ b ≠ TB) ∧ b < H1.n) H3 c a → L1 (fun b => H.n < b) (G'.put H1.n (some ⟨[vr, g'], true⟩)) c a := fun c a h => h.mono (by simp; omega) (fun b hb _ => by rw [put_bk, if_neg (by omega), hk b (by omega) (by omega)]) (fun b hb _ => by omega)
    obtain ⟨G1, u1, u2, u3, u4⟩ := fin (G'.put H1.n (some ⟨[vr, g'], true⟩)) vr g' ⟨p.rooms, p.tasks ++ [f0, f0, f0]⟩ put_same
      (iv3.mono (by simp; omega) (fun b hb hb2 => by rw [put_bk, if_neg (by omega), hk b (by omega) (by omega)]) (fun b hb _ => by omega))
      ⟨_, by simpa using a7.ivB (ok := fun b => H.n < b) (fun _ _ => hB'.2.1), (lf1.imp mv).app ⟨[v0], [v0, v0], rfl, rfl, mv _ _ l0, [v0], [v0], rfl, rfl, mv _ _ l0, [v0], [], rfl, rfl, mv _ _ l0, rfl⟩⟩
      (fun f hf => by
        rcases List.mem_append.1 hf with z | z
        · exact hct' f z
        · have : f = f0 := by simpa using z
          rw [this]; exact hct' f0 (by rw [e1]; simp)) (by simp; omega) (by simp only; omega) (((hR3.push).same (G' := G') (by simpa using n5) (fun b hb => (a4.2 b (by simp; omega) (fun hq => by have := hTB b hq; omega)).trans rfl) |>.put (by omega)).up (by omega)) s1 s2
    simp [AM.elems, x3, load_bk q3, hl1, load_bk b3, flat_cells f0', flat_tup f0', loadN_push, a1, st, flat_cells f5, flat_tup f5, u1, u2, u3]
    exact u4
  by_cases x4 : x = 4
  · obtain ⟨cap, xs, rfl, b1, b2, b3⟩ := g2.out (by omega)
    rcases t0 with ⟨e0, _⟩ | ⟨v0, c0, B0, f0, l', cs', e1, rfl, w1, w2, w3, w4, w5⟩
    · rw [e0] at hl; simp at hl
    have hl1 : 0 < p.tasks.length := by omega
    have hsk : ∀ b, b < H3.n → H3.skip.bk b = H3.bk b := fun b hb => by unfold AH.skip; rw [put_bk, if_neg (by omega)]; exact push_old hb rfl
    obtain ⟨J, hJ⟩ : ∃ J, J = H3.skip := ⟨_, rfl⟩
    have nJ : J.n = H3.n + 1 := by rw [hJ]; rfl
    rw [← hJ] at hsk
    have hJ1 : ∀ b, b < H1.n → b ≠ r → J.bk b = H1.bk b := fun b hb hbr => (hsk b (by omega)).trans (hS13.2 b hb hbr)
    have wJ := w1.keep1 (G := J) (by omega) (fun q1 q2 => hJ1 _ q2 (by omega))
    have hlen := len_ctS (f := f0)
    have hc0 := hct f0 (by rw [e1]; simp)
    obtain ⟨B', cp, ex, F, hF, hB1, hB2, hB3⟩ := wJ.app1 (by omega) (by omega)
    obtain ⟨A1, A2, A3, A4, A5, A6, A7, A8⟩ := hF [.I 0, .I 0, .I 0, .I 0, .I 0, .nils, .nils, .nils] rfl
    obtain ⟨D1, D2, D3, D4, D5, D6, D7, D8⟩ := hF [.I 9, .I 0, .I 0, .I 0, .I 0, .nils, .nils, .nils] rfl
    generalize hF1 : F [.I 0, .I 0, .I 0, .I 0, .I 0, .nils, .nils, .nils] = F1 at *
    generalize hF2 : F [.I 9, .I 0, .I 0, .I 0, .I 0, .nils, .nils, .nils] = F2 at *
    have jH1 : J.bk H1.n = some ⟨[vr, .sl TB 0 p.tasks.length cap], true⟩ := (hsk _ (by omega)).trans q3
    have jTB : J.bk TB = some ⟨v0 :: (cs' ++ xs), true⟩ := (hJ1 _ b2 (by omega)).trans b3
    have fTB1 : F1.bk TB = some ⟨v0 :: (cs' ++ xs), true⟩ := (A7 TB (by omega) (.inl (Ne.symm w2))).trans jTB
    have fTB2 : F2.bk TB = some ⟨v0 :: (cs' ++ xs), true⟩ := (D7 TB (by omega) (.inl (Ne.symm w2))).trans jTB
    have s1 := store_cell (v := .sl B' 0 (f0.list.length + 1) cp) fTB1 (o := 0) (by simp)
    have s2 := store_cell (v := .sl B' 0 (f0.list.length + 1) cp) fTB2 (o := 0) (by simp)
    simp only [List.set_cons_zero] at s1 s2
    have v0l := w1.alen
    have v0f := w1.flat
    have lc0 := w1.2.1
    have hBT : B' ≠ TB := by omega
    have s3 := store_bk (H := F1.put TB (some ⟨.sl B' 0 (f0.list.length + 1) cp :: (cs' ++ xs), true⟩)) (o := f0.list.length * 8) (vs := [.I 9, .I 0, .I 0, .I 0, .I 0, .nils, .nils, .nils]) ((by rw [put_bk, if_neg hBT]; exact A2)) (by simp; omega)
    have e3 : splice (c0 ++ [AV.I 0, .I 0, .I 0, .I 0, .I 0, .nils, .nils, .nils] ++ ex) (f0.list.length * 8) [.I 9, .I 0, .I 0, .I 0, .I 0, .nils, .nils, .nils] = c0 ++ [.I 9, .I 0, .I 0, .I 0, .I 0, .nils, .nils, .nils] ++ ex := by
      unfold splice; rw [← lc0]; simp
    rw [e3] at s3
    have hne : ¬ H1.n = J.n := by omega
    have hne2 : ¬ TB = J.n := by omega
    simp [x4, load_bk q3]
    refine W_alt (e' := [(2, .ptr H.n 0), (3, .ptr H1.n 0)]) (H' := (F2.put TB (some ⟨.sl B' 0 (f0.list.length + 1) cp :: (cs' ++ xs), true⟩)).put J.n none) rfl rfl ?_ ?_ ?_
    · rw [← hJ]
      have hlt : (f0.list.length : Int) < f0.list.length + 1 := by omega
      simp [AM.elems, load_bk jH1, load_bk jTB, hl1, v0l, loadN_push, A1, s1, s3, hlt]
      rw [W_kill (b := J.n) (o := 0) (n := 1) (c := .ex 1) rfl]
      simp
      refine AH.same (by simp; omega) fun b => ?_
      simp only [put_bk]
      by_cases c1 : b = J.n
      · rw [if_pos c1, if_pos c1]
      rw [if_neg c1, if_neg c1]
      by_cases c2 : b = B'
      · rw [if_pos c2, if_neg (by omega), c2, D2]; simp
      rw [if_neg c2]
      by_cases c3 : b = TB
      · rw [if_pos c3, if_pos c3]
      rw [if_neg c3, if_neg c3, A6 b c2 c1, D6 b c2 c1]
    · rw [← hJ]
      have fH1 : F2.bk H1.n = some ⟨[vr, .sl TB 0 p.tasks.length cap], true⟩ := (D7 _ (by omega) (by omega)).trans jH1
      simp [AM.elems, load_bk jH1, load_bk jTB, hl1, v0l, loadN_push, D1, s2, hne, fH1, jH1]
      rw [W_kill (b := J.n) (o := 0) (n := 1) (c := .ex 1) rfl]
      simp
    obtain ⟨G, hG⟩ : ∃ G, G = (F2.put TB (some ⟨.sl B' 0 (f0.list.length + 1) cp :: (cs' ++ xs), true⟩)).put J.n none := ⟨_, rfl⟩
    rw [← hG]
    have nG : G.n = F2.n := by rw [hG]; rfl
    have hGk : ∀ b, b ≠ TB → b ≠ J.n → G.bk b = F2.bk b := fun b c1 c2 => by rw [hG, put_bk, if_neg c2, put_bk, if_neg c1]
    have hG1 : ∀ b, b < H1.n → b ≠ TB → b ≠ B0 ∨ b < lo → b ≠ r → G.bk b = H1.bk b := fun b c1 c2 c3 c4 => by rw [hGk b c2 (by omega), D7 b (by omega) c3, hJ1 b c1 c4]
    have hG3 : ∀ b, b < H3.n → b ≠ TB → b ≠ B0 ∨ b < lo → G.bk b = H3.bk b := fun b c1 c2 c3 => by rw [hGk b c2 (by omega), D7 b (by omega) c3, hsk b c1]
    have gTB : G.bk TB = some ⟨.sl B' 0 (f0.list.length + 1) cp :: (cs' ++ xs), true⟩ := by rw [hG, put_bk, if_neg hne2]; exact put_same
    have gH1 : G.bk H1.n = some ⟨[vr, .sl TB 0 p.tasks.length cap], true⟩ := (hG3 _ (by omega) (by omega) (by omega)).trans q3
    have a7 := D8.keep1 (G := G) (by omega) (fun _ _ => hGk B' (by omega) (by omega))
    have s9 : S1 (fun b => H.n < b) G [.I 9, .I 0, .I 0, .I 0, .I 0, .nils, .nils, .nils] ⟨9, 0, 0, ⟨0, 0, .nil⟩, .nil, .nil⟩ := ⟨.nils, .nils, .nils, rfl, ⟨[], ⟨by simp, rfl, .inl ⟨rfl, .inl rfl⟩⟩, rfl⟩, SV.nil (.inl rfl), SV.nil (.inl rfl)⟩
    have sfn : SF (fun b => H.n < b) G (Sts.of (f0.list ++ [⟨9, 0, 0, ⟨0, 0, .nil⟩, .nil, .nil⟩])) (c0 ++ [.I 9, .I 0, .I 0, .I 0, .I 0, .nils, .nils, .nils]) := by
      have := SF.app (w4.mono (ok' := fun b => H.n < b) (H' := G) (by omega) (fun b hb hb2 => hG1 b hb2 hb.2.1 (.inl hb.2.2) (by omega)) (fun b hb _ => by omega)) s9.one
      rwa [Sts.list_of] at this
    have lenf : (Sts.of (f0.list ++ [⟨9, 0, 0, ⟨0, 0, .nil⟩, .nil, .nil⟩])).list.length = f0.list.length + 1 := by rw [Sts.list_of]; simp
    have svn : SV (fun b => H.n < b) G (.sl B' 0 (f0.list.length + 1) cp) (Sts.of (f0.list ++ [⟨9, 0, 0, ⟨0, 0, .nil⟩, .nil, .nil⟩])) := ⟨_, by rw [lenf]; exact a7.ivB (fun _ _ => by omega), sfn⟩
    have lcs : (v0 :: cs').length = p.tasks.length := by have := g2.2.1; simpa using this
    obtain ⟨z1, z2, ⟨z3, _⟩ | ⟨bb, oo, cc, z4, z5, z6, z7⟩⟩ := g2.slc
    · omega
    simp only [AV.sl.injEq, true_and] at z4
    obtain ⟨rfl, rfl, rfl⟩ := z4
    have ll : p.tasks.length = l'.length + 1 := by rw [e1]; rfl
    have lc : cs'.length + 1 = p.tasks.length := by simpa using lcs
    have k1 : G.bk H.n = some ⟨[.nils, .nils], true⟩ := (hG3 _ (by omega) (by omega) (by omega)).trans qR
    have k2 : St r H G := ⟨by have := S03.1; omega, fun b hb hbr => (hG3 b (by omega) (by omega) (by omega)).trans (S03.2 b hb hbr)⟩
    obtain ⟨G1, u1, u2, u3, u4⟩ := fin G vr _ ⟨p.rooms, Sts.of (f0.list ++ [⟨9, 0, 0, ⟨0, 0, .nil⟩, .nil, .nil⟩]) :: l'⟩ gH1
      (iv3.mono (by omega) (fun b hb hb2 => hG3 b hb2 (by omega) (by omega)) (fun b hb _ => by omega))
      ⟨.sl B' 0 (f0.list.length + 1) cp :: cs', ⟨by simp only [List.length_cons]; omega, by simp only [List.length_cons]; omega, .inr ⟨TB, 0, cap, by rw [e1]; rfl, ⟨by omega, by simp only [List.length_cons]; have := z5.2; rw [e1] at this; exact this⟩, by omega, by
        rw [loadN_bk gTB]
        exact seg_app (cs := .sl B' 0 (f0.list.length + 1) cp :: cs') (ex := xs) (by rw [e1] at lcs; simpa using lcs)⟩⟩,
        [_], cs', rfl, rfl, ⟨_, rfl, svn⟩, w5.imp fun c a h => h.mono (by omega) (fun b hb hb2 => hG1 b hb2 hb.2.1 (.inl hb.2.2) (by omega)) (fun b hb _ => by omega)⟩
      (fun f hf => by
        rcases List.mem_cons.1 hf with z | z
        · rw [z, ctS_of, List.map_append, List.sum_append, ← ctS_sum]; simp [ctT, ctS]; omega
        · exact hct' f (by rw [e1]; exact List.mem_cons_of_mem _ z)) (by simp only [List.length_cons]; omega) (by simp only; omega) ((hR3.same (by omega) (fun b hb => hG3 b (by omega) (by omega) (by omega))).up (by omega)) k1 k2
    simp [u1, u2, u3]
    exact u4
  obtain ⟨G1, u1, u2, u3, u4⟩ := fin H3 vr vt p q3 (iv3.mono (Nat.le_refl _) (fun _ _ _ => rfl) (fun b hb _ => by omega)) (lv3.mono (Nat.le_refl _) (fun _ _ _ => rfl) (fun b hb _ => by omega)) hct' (by omega) (by omega) (hR3.up (by omega)) qR S03
  simp [x0, x1, x2, x3, x4, u1, u2, u3]
  exact u4
end
end Go.Proofs.Ytmecbehegmgbhaa.AM
namespace Go.Proofs.Ytmecbehegmgbhaa.AM
set_option linter.unusedSimpArgs false
set_option linter.unusedVariables false
set_option maxRecDepth 100000
set_option maxHeartbeats 2000000
open Go
attribute [-simp] AM.elems
theorem vaF_eq {many : Int} (hm : many ≤ 3) {f : Sts} : vaS many f = vaF many f := by
  unfold vaF vaS
  cases h3 : okS 3 3 f with
  | false =>
    cases hm' : okS many 3 f with
    | false => rfl
    | true => have := okS_boxes hm hm'; rw [h3] at this; cases this
  | true =>
    have := ok_bx hm h3
    cases h4 : okS many 3 f with
    | false =>
      rw [h4] at this
      cases h5 : bxS many f with
      | false => simp
      | true => rw [h5] at this; simp at this
    | true => rw [this.1 h4]; simp
section
variable {H : AH} {K : AV → AH → Prop} {w : Fk K}
theorem K_iroomsValid_l {v : AV} {l : List Int} (h : SeesZ H v l) {Q : Out → Env → AH → Prop}
    (h1 : ∀ e, get e 0 = some v → Q (.brk 0) e H = K (.b (decide (l.length ≤ 3))) H) (h2 : ∀ e H, Q .ret e H = bindO (get e 2) fun v => K v H)
    (m i : Nat) (hm : i + m = l.length) (k : K (.b ((l.drop i).all (fun x => decide (1 ≤ x ∧ x ≤ 4)) && decide (l.length ≤ 3))) H) :
    W Cd (.loop c_iroomsValid_l0) [(0, v), (5, v), (6, .I l.length), (7, .I i)] H Q := by
  have hbig := h.2.1
  induction m generalizing i with
  | zero =>
    rw [W_loop_as c_iroomsValid_l0.eq_1]
    have : i = l.length := by omega
    subst this
    simp
    rw [h1 _ rfl]
    rw [List.drop_eq_nil_of_le (Nat.le_refl _)] at k
    simpa using k
  | succ m ih =>
    rw [W_loop_as c_iroomsValid_l0.eq_1]
    have hlt : i < l.length := by omega
    have hlt' : (i : Int) < l.length := by omega
    obtain ⟨b, o, s1, hb, l1⟩ := h.at hlt
    obtain ⟨x, hx⟩ : ∃ x, l[i]? = some x := ⟨_, List.getElem?_eq_getElem hlt⟩
    have ex : l[i] = x := by have := List.getElem?_eq_getElem hlt; rw [hx] at this; exact (Option.some.inj this).symm
    rw [ex] at l1
    rw [all_dropB hx] at k
    simp (disch := omega) [hlt', s1, l1]
    by_cases hok : 1 ≤ x ∧ x ≤ 4
    · rw [decide_eq_true hok, Bool.true_and] at k
      have e1 : ¬ x < 1 := by omega
      have e2 : ¬ 4 < x := by omega
      simp (disch := omega) [e1, e2]
      have := ih (i + 1) (by omega) k
      simpa using this
    · rw [decide_eq_false hok] at k
      by_cases e1 : x < 1
      · simp (disch := omega) [e1, h2]
        simpa using k
      · have e2 : 4 < x := by omega
        simp (disch := omega) [e1, e2, h2]
        simpa using k
theorem K_iroomsValid {v : AV} {l : List Int} (h : SeesZ H v l) (k : K (.b (vaRm l)) H) : CallF Cd f_iroomsValid [v] H K w := by
  rw [CallF_eq e_iroomsValid rfl]
  simp [h.1]
  have := K_iroomsValid_l (K := K) h (Q := ?_) ?_ ?_ l.length 0 (by omega) k
  · simpa using this
  · intro e he
    have : decide ((l.length : Int) ≤ 3) = decide (l.length ≤ 3) := dec_nat3
    simp [he, h.1, this]
  · intros; simp
end
theorem K_iProgramValid_l {p : Pg} {ok : Nat → Prop} {K : AV → AH → Prop} {vr vt : AV} {P : Nat} (hct : ∀ f ∈ p.tasks, ctS f ≤ 100000) {Q : Out → Env → AH → Prop} (h1 : ∀ e G, Q (.brk 0) e G = K (.b true) G) (h2 : ∀ e H, Q .ret e H = bindO (get e 2) fun v => K v H) (hr : alen vr = some p.rooms.length) (hrl : p.rooms.length ≤ 3)
    (m i : Nat) (hm : i + m = p.tasks.length) {H : AH} (hP : P < H.n) (gP : H.bk P = some ⟨[vr, vt], true⟩) (h : LV ok H vt p.tasks)
    (k : ∀ H', Ext H H' → K (.b ((p.tasks.drop i).all (vaF p.rooms.length))) H') :
    W Cd (.loop c_iProgramValid_l0) [(1, .ptr P 0), (22, vt), (23, .I p.tasks.length), (24, .I i)] H Q := by
  have hbig := h.big
  induction m generalizing i H with
  | zero =>
    rw [W_loop_as c_iProgramValid_l0.eq_1]
    have : i = p.tasks.length := by omega
    subst this
    simp [h1]
    have := k H (Ext.refl _)
    rwa [List.drop_eq_nil_of_le (Nat.le_refl _)] at this
  | succ m ih =>
    rw [W_loop_as c_iProgramValid_l0.eq_1]
    have hlt : i < p.tasks.length := by omega
    have hlt' : (i : Int) < p.tasks.length := by omega
    obtain ⟨f, hf⟩ : ∃ f, p.tasks[i]? = some f := ⟨_, List.getElem?_eq_getElem hlt⟩
    obtain ⟨b, o, cap, u, e1, hbn, l1, s1⟩ := h.at hf
    have hh := h
    subst e1
    rw [all_dropB hf] at k
    simp (disch := omega) [load_bk gP, hlt', l1, hr]
    refine K_istmtsValid s1 (hct f (List.mem_of_getElem? hf)) fun H2 x2 => ?_
    rw [vaF_eq (by omega)]
    cases hv : vaF p.rooms.length f with
    | false =>
      have := k H2 x2
      rw [hv] at this
      simp [x2, h2]
      simpa using this
    | true =>
      rw [hv, Bool.true_and] at k
      simp (disch := omega) [x2]
      have := ih (i + 1) (by omega) (H := H2) (by have := x2.1; omega) ((x2.2 _ hP).trans gP) (hh.ext x2) (fun H' x' => k H' (x2.trans x'))
      simpa using this
theorem K_iProgramValid {ok : Nat → Prop} {H : AH} {K : AV → AH → Prop} {wf : Fk K} {c : List AV} {p : Pg} (h : PgC ok H c p) (hct : ∀ f ∈ p.tasks, ctS f ≤ 100000) (k : ∀ H', Ext H H' → K (.b (vaPg p)) H') : CallF Cd f_iProgramValid [.agg c] H K wf := by
  obtain ⟨vr, vt, rfl, h1, h2⟩ := h
  rw [CallF_eq e_iProgramValid rfl]
  have x0 := Ext.push H [vr, vt]
  have q0 : (H.push [vr, vt]).bk H.n = some ⟨[vr, vt], true⟩ := push_new
  have hbig := h2.big
  have hr := SlC.alen h1
  simp [load_bk q0]
  refine K_iroomsValid ((show SlC ok H vr p.rooms.length 1 (Ints p.rooms) from h1).mono x0.1 (fun b _ hb => x0.2 b hb) (fun _ h _ => h) |> fun q => IV.sees q) ?_
  have e : vaPg p = (vaRm p.rooms && decide (1 ≤ p.tasks.length ∧ p.tasks.length ≤ 3) && p.tasks.all (vaF p.rooms.length)) := rfl
  cases hv : vaRm p.rooms with
  | false =>
    simp
    have := k _ x0
    rw [e, hv] at this
    simpa using this
  | true =>
    have h3 : p.rooms.length ≤ 3 := by unfold vaRm at hv; simp at hv; exact hv.2
    by_cases c1 : 1 ≤ p.tasks.length ∧ p.tasks.length ≤ 3
    · have e1 : ¬ (p.tasks.length : Int) < 1 := by omega
      have e2 : ¬ (3 : Int) < p.tasks.length := by omega
      simp (disch := omega) [load_bk q0, h2.alen, e1, e2]
      have := K_iProgramValid_l (p := p) (K := K) (Q := ?_) (vr := vr) hct ?_ ?_ hr h3 p.tasks.length 0 (by omega) (P := H.n) (H := H.push [vr, vt]) (by simp) q0 (h2.ext x0) (fun H' x' => by have := k H' (x0.trans x'); rw [e, hv, decide_eq_true c1] at this; simpa using this)
      · simpa using this
      · intros; simp
      · intros; simp
    · have e3 : vaPg p = false := by rw [e, decide_eq_false c1]; simp
      have kk := k _ x0
      rw [e3] at kk
      by_cases c2 : p.tasks.length < 1
      · have e1 : (p.tasks.length : Int) < 1 := by omega
        simp (disch := omega) [load_bk q0, h2.alen, e1]
        exact kk
      · have e1 : ¬ (p.tasks.length : Int) < 1 := by omega
        have e2 : (3 : Int) < p.tasks.length := by omega
        simp (disch := omega) [load_bk q0, h2.alen, e1, e2]
        exact kk
end Go.Proofs.Ytmecbehegmgbhaa.AM
namespace Go.Proofs.Ytmecbehegmgbhaa.AM
set_option linter.unusedSimpArgs false
set_option linter.unusedVariables false
set_option maxRecDepth 100000
set_option maxHeartbeats 2000000
open Go
attribute [-simp] AM.elems
theorem K_iTaskNew {ok : Nat → Prop} {H : AH} {K : AV → AH → Prop} {w : Fk K} {v : AV} {f : Sts} (h : SV ok H v f) (hv : vaS 3 f = true)
    (k : ∀ c' H', TC (fun b => H.n ≤ b) H' c' ⟨[0, 0, 0, 0], f⟩ → Ext H H' → K (.tup [.agg c', .b true]) H') : CallF Cd f_iTaskNew [v] H K w := by
  rw [CallF_eq e_iTaskNew rfl]
  have hv' := hv
  unfold vaS at hv'
  simp only [Bool.and_eq_true, decide_eq_true_eq] at hv'
  have x0 := Ext.push H [.nils, .nils]
  simp
  refine K_iStmtsValid (h.ext x0) (by omega) fun H1 x1 => ?_
  have n1 := x1.1
  simp only [push_n] at n1
  have qR := (x1.2 H.n (by simp)).trans (push_new (H := H) (cs := [.nils, .nils]))
  have e4 : (List.replicate (4 : Int).toNat [AV.I 0]).flatten = Ints [0, 0, 0, 0] := rfl
  have x2 := (x0.trans x1).trans (Ext.push H1 (Ints [0, 0, 0, 0]))
  simp [hv, e4]
  refine K_istmtsCopy f (h.ext x2) (cp_of_okS hv'.1) (by omega) fun v' H2 cs B g s x3 => ?_
  have n3 := x3.1
  simp only [push_n] at n3
  have fl := g.flat
  have qR2 := (x3.2 H.n (by simp; omega)).trans ((Ext.push H1 (Ints [0, 0, 0, 0])).2 H.n (by omega) |>.trans qR)
  have q4 : H2.bk H1.n = some ⟨Ints [0, 0, 0, 0], true⟩ := (x3.2 _ (by simp)).trans push_new
  have st : H2.store H.n 0 [.sl H1.n 0 4 (.ex 4), v'] = some (H2.put H.n (some ⟨[.sl H1.n 0 4 (.ex 4), v'], true⟩)) := store_bk qR2 (by simp)
  simp [x3, flat_cells fl, flat_tup fl, st, loadN_bk put_same]
  have hk : ∀ b, b ≠ H.n → (H2.put H.n (some ⟨[.sl H1.n 0 4 (.ex 4), v'], true⟩)).bk b = H2.bk b := fun b hb => by rw [put_bk, if_neg hb]
  refine k _ _ ⟨_, _, rfl, ⟨by simp, rfl, .inr ⟨H1.n, 0, _, rfl, ⟨by omega, by simp [capOk]⟩, by simp; omega, ?_⟩⟩, (g.sv s).mono (by simp) (fun b hb _ => hk b (by simp at hb; omega)) (fun b hb _ => by simp at hb; omega)⟩ ((x2.trans x3).put (by omega))
  rw [loadN_bk ((hk _ (by omega)).trans q4)]; rfl
theorem K_iboxesNew_l {l : List Int} (hll : l.length ≤ 1000) {base : Nat} {v : AV} {Q : Out → Env → AH → Prop} (m i : Nat) (him : i + m = l.length) {G : AH} {g : AV} {cs : List AV} {B : Nat} (hb : base ≤ G.n) (hv : IV (fun b => b < base) G v l) (hg : GrS base G g i 2 cs B)
    (he : LF 2 (BC (fun b => base ≤ b ∧ b ≠ B) G) ((l.take i).map fun x => ⟨x, []⟩) cs)
    (hQ : ∀ e G' g' cs' B', GrS base G' g' l.length 2 cs' B' → LF 2 (BC (fun b => base ≤ b ∧ b ≠ B') G') (l.map fun x => ⟨x, []⟩) cs' → (∀ b, b < base → G'.bk b = G.bk b) → G.n ≤ G'.n → get e 3 = some g' → Q (.brk 0) e G') :
    W Cd (.loop c_iboxesNew_l0) [(3, g), (6, v), (7, .I l.length), (8, .I i)] G Q := by
  have hbig : l.length ≤ 8589934592 := hv.1
  induction m generalizing i G g cs B with
  | zero =>
    rw [W_loop_as c_iboxesNew_l0.eq_1]
    have : i = l.length := by omega
    subst this
    simp
    rw [List.take_length] at he
    exact hQ _ G g cs B hg he (fun _ _ => rfl) (Nat.le_refl _) rfl
  | succ m ih =>
    rw [W_loop_as c_iboxesNew_l0.eq_1]
    have hlt : i < l.length := by omega
    have hlt' : (i : Int) < l.length := by omega
    obtain ⟨b, o, s1, hbn, l1⟩ := hv.sees.at hlt
    obtain ⟨x, hx⟩ : ∃ x, l[i]? = some x := ⟨_, List.getElem?_eq_getElem hlt⟩
    have ex : l[i] = x := by have := List.getElem?_eq_getElem hlt; rw [hx] at this; exact (Option.some.inj this).symm
    rw [ex] at l1
    have x2 := Ext.push G [.I x, .nils]
    have bc : BC (fun b => G.n ≤ b) (G.push [.I x, .nils]) [.I x, .nils] ⟨x, []⟩ := ⟨_, rfl, IV.nilp (.inl rfl)⟩
    obtain ⟨g', G', B', a1, a2, a3, a4, a5, a6⟩ := LF.snoc (E := BC) (l := l.map fun x => ⟨x, []⟩) (x := ⟨x, []⟩) (i := i) (fun h => h.mono) (by rw [List.getElem?_map, hx]; rfl) hg (by rw [← List.map_take]; exact he) hb x2 (c := [.I x, .nils]) rfl bc (by omega)
    simp only [push_n] at a5
    simp (disch := omega) [SlC.alen hv, hlt', s1, l1, AM.elems, loadN_push, a1]
    rw [← List.map_take] at a3
    have := ih (i + 1) (by omega) (G := G') (g := g') (B := B') (by omega) (hv.mono (by omega) (fun b hb _ => a4 b hb) (fun _ h _ => h)) a2 a3
      (fun e G2 g2 c2 B2 z1 z2 z3 z4 z5 => hQ e G2 g2 c2 B2 z1 z2 (fun b hb => (z3 b hb).trans (a4 b hb)) (by omega) z5)
    simpa using this
theorem K_iboxesNew {ok : Nat → Prop} {H : AH} {K : AV → AH → Prop} {w : Fk K} {v : AV} {l : List Int} (h : IV ok H v l) (hl : l.length ≤ 1000)
    (k : ∀ v' H', BV (fun b => H.n ≤ b) H' v' (l.map fun x => ⟨x, []⟩) → Ext H H' → v'.flat = true → K v' H') : CallF Cd f_iboxesNew [v] H K w := by
  rw [CallF_eq e_iboxesNew rfl]
  simp [SlC.alen h]
  have := K_iboxesNew_l (l := l) hl (base := H.n) (v := v) (Q := ?_) l.length 0 (by omega) (G := H) (g := .nils) (cs := []) (B := H.n) (Nat.le_refl _) (h.mono (Nat.le_refl _) (fun _ _ _ => rfl) (fun b _ hb => hb)) GrS.nils rfl ?_
  · simpa using this
  · intro e G g cs B z1 z2 z3 z4 z5
    simp [z5]
    have hl2 : (l.map fun x => (⟨x, []⟩ : Bx)).length = l.length := by simp
    exact k g G (GrS.bv (by rw [hl2]; exact z1) z2) ⟨z4, z3⟩ z1.flat
theorem K_iWorldNew_l {p : Pg} (hp : ∀ f ∈ p.tasks, vaS 3 f = true) (hl3 : p.tasks.length ≤ 3) {vt vb vo : AV} {R P4 base lo : Nat} {Q : Out → Env → AH → Prop} (hbl : base ≤ lo) (hP4 : base ≤ P4 ∧ P4 < lo)
    (m i : Nat) (hm : i + m = p.tasks.length) {G : AH} {g : AV} {cs : List AV} {B : Nat} (hlo : lo ≤ G.n) (hv : LV (fun b => b < base) G vt p.tasks) (g4 : G.bk P4 = some ⟨[g, vb, .I 0, .I 0, vo], true⟩)
    (hg : GrS base G g i 2 cs B) (hB : B ≠ P4) (he : LF 2 (TC (fun b => lo ≤ b ∧ b ≠ B) G) ((p.tasks.take i).map fun f => ⟨[0, 0, 0, 0], f⟩) cs) (S : Nat → Prop) (hS : ∀ b, S b → b < lo ∧ b ≠ P4 ∧ b ≠ B)
    (hQ : ∀ e G' g' cs' B', GrS base G' g' p.tasks.length 2 cs' B' → LF 2 (TC (fun b => lo ≤ b ∧ b ≠ B') G') (p.tasks.map fun f => ⟨[0, 0, 0, 0], f⟩) cs' → G'.bk P4 = some ⟨[g', vb, .I 0, .I 0, vo], true⟩ → B' ≠ P4 → (∀ b, S b → b ≠ B') → (∀ b, (b < base ∨ S b) → G'.bk b = G.bk b) → G.n ≤ G'.n → get e 2 = some (.ptr R 0) → get e 4 = some (.ptr P4 0) → Q (.brk 0) e G') :
    W Cd (.loop c_iWorldNew_l0) [(2, .ptr R 0), (4, .ptr P4 0), (18, vt), (19, .I p.tasks.length), (20, .I i)] G Q := by
  have hbig := hv.big
  induction m generalizing i G g cs B with
  | zero =>
    rw [W_loop_as c_iWorldNew_l0.eq_1]
    have : i = p.tasks.length := by omega
    subst this
    simp
    rw [List.take_length] at he
    exact hQ _ G g cs B hg he g4 hB (fun b hb => (hS b hb).2.2) (fun _ _ => rfl) (Nat.le_refl _) rfl rfl
  | succ m ih =>
    rw [W_loop_as c_iWorldNew_l0.eq_1]
    have hlt : i < p.tasks.length := by omega
    have hlt' : (i : Int) < p.tasks.length := by omega
    obtain ⟨f, hf⟩ : ∃ f, p.tasks[i]? = some f := ⟨_, List.getElem?_eq_getElem hlt⟩
    obtain ⟨b, o, cap, u, e1, hbn, l1, s1⟩ := hv.at hf
    have hv' := hv
    subst e1
    simp (disch := omega) [hlt', l1]
    refine K_iTaskNew s1 (hp f (List.mem_of_getElem? hf)) fun c' H1 tc x1 => ?_
    have n1 := x1.1
    have tc' := tc
    obtain ⟨cv, cr, rfl, j1, j2⟩ := tc'
    have x2 := (x1.trans (Ext.push H1 [cv, cr])).trans (Ext.push _ [cv, cr])
    have g4' : (H1.push [cv, cr]).bk P4 = some ⟨[g, vb, .I 0, .I 0, vo], true⟩ := ((x1.trans (Ext.push H1 [cv, cr])).2 P4 (by omega)).trans g4
    obtain ⟨g', G', B', a1, a2, a3, a4, a5, a6⟩ := LF.snoc2 (E := TC) (l := p.tasks.map fun f => ⟨[0, 0, 0, 0], f⟩) (x := ⟨[0, 0, 0, 0], f⟩) (i := i) (fun h => h.mono) (by rw [List.getElem?_map, hf]; rfl) hg (by rw [← List.map_take]; exact he) (by omega) hlo x2 (c := [cv, cr]) rfl ((tc.ext (Ext.push H1 _)).ext (Ext.push _ _)) (by omega)
    have hgm : ∀ b, b ∈ grB g B → b = B ∧ base ≤ B ∧ B < G.n := fun b hb => hg.mem hb
    have g4'' : G'.bk P4 = some ⟨[g, vb, .I 0, .I 0, vo], true⟩ := (a4.2 P4 (by simp; omega) (fun hm => hB (hgm _ hm).1.symm)).trans ((x2.2 P4 (by omega)).trans g4)
    have st := store_cell (v := g') g4'' (o := 0) (by simp)
    simp only [List.set_cons_zero] at st
    have hB' : B' ≠ P4 := by
      rcases a5 with q | q
      · rw [q.1]; exact hB
      · rw [q]; simp; omega
    have n4 := a4.1
    simp only [push_n] at n4
    have gg : ∀ b, b < G.n → b ∉ grB g B → b ≠ P4 → (G'.put P4 (some ⟨[g', vb, .I 0, .I 0, vo], true⟩)).bk b = G.bk b := fun b hb h1 h2 => by
      rw [put_bk, if_neg h2, a4.2 b (by simp; omega) h1, x2.2 b hb]
    simp (disch := omega) [store_push2e, load_bk g4', AM.elems, loadN_push, a1, flat_cells a6, flat_tup a6, st]
    rw [← List.map_take] at a3
    have := ih (i + 1) (by omega) (G := G'.put P4 (some ⟨[g', vb, .I 0, .I 0, vo], true⟩)) (g := g') (cs := cs ++ [cv, cr]) (B := B') (by simp; omega)
      (hv'.mono (by simp; omega) (fun b hb _ => gg b (by omega) (fun hm => by have := hgm _ hm; omega) (by omega)) (fun _ h _ => h)) put_same
      (a2.only (bs := [P4]) (Only.refl.put (by simp)) (fun b hb => .inr (by simp at hb; subst hb; exact Ne.symm hB'))) hB'
      (a3.imp fun c a h => h.mono (by simp) (fun b hb _ => by rw [put_bk, if_neg (by omega)]) (fun _ h _ => h))
      (fun b hb => ⟨(hS b hb).1, (hS b hb).2.1, by
        rcases a5 with q | q
        · rw [q.1]; exact (hS b hb).2.2
        · have := (hS b hb).1; rw [q]; simp; omega⟩)
      (fun e G2 g2 cs2 B2 z1 z2 z3 z4 z5 z6 z7 z8 z9 => hQ e G2 g2 cs2 B2 z1 z2 z3 z4 z5 (fun b hb => (z6 b hb).trans (gg b (by rcases hb with q | q; omega; have := (hS b q).1; omega) (fun hm => by
        have := hgm _ hm
        rcases hb with q | q
        · omega
        · exact (hS b q).2.2 this.1) (by rcases hb with q | q; omega; exact (hS b q).2.1))) (by simp at z7; omega) z8 z9)
    simpa using this
theorem K_iWorldNew {ok : Nat → Prop} {H : AH} {K : AV → AH → Prop} {wf : Fk K} {c : List AV} {p : Pg} (h : PgC ok H c p) (hct : ∀ f ∈ p.tasks, ctS f ≤ 100000)
    (k : ∀ c' H', WC (fun b => H.n ≤ b) H' c' (if vaPg p = true then newW p else zeroW) → Ext H H' → K (.tup [.agg c', .b (vaPg p)]) H') : CallF Cd f_iWorldNew [.agg c] H K wf := by
  have h' := h
  obtain ⟨vr, vt, rfl, h1, h2⟩ := h'
  rw [CallF_eq e_iWorldNew rfl]
  have x0 := (Ext.push H [vr, vt]).trans (Ext.push _ zC)
  have q0 : ((H.push [vr, vt]).push zC).bk H.n = some ⟨[vr, vt], true⟩ := push_old (by simp) push_new
  simp [loadN_bk q0]
  refine K_iProgramValid (h.ext x0) hct fun H1 x1 => ?_
  have n1 := x1.1
  simp only [push_n] at n1
  have y1 := x0.trans x1
  have q1 := (x1.2 H.n (by simp <;> omega)).trans q0
  have qR1 : H1.bk (H.n + 1) = some ⟨zC, true⟩ := (x1.2 _ (by simp)).trans push_new
  have stb := store_five qR1 (l := zC) rfl rfl
  cases hv : vaPg p with
  | false =>
    rw [hv] at k
    simp [stb, loadN_bk put_same]
    exact k zC _ zero_WC (y1.put (by omega))
  | true =>
  rw [hv, if_pos rfl] at k
  have hv' := hv
  unfold vaPg vaRm at hv'
  simp only [Bool.and_eq_true, decide_eq_true_eq, List.all_eq_true] at hv'
  simp [load_bk q1]
  refine K_iboxesNew (h1.ext y1) (by omega) fun vb H2 bv x2 fb => ?_
  have n2 := x2.1
  have x3 := Ext.push H2 [.nils, vb, .I 0, .I 0, .nils]
  have y3 := (y1.trans x2).trans x3
  have q2 : (H2.push [.nils, vb, .I 0, .I 0, .nils]).bk H.n = some ⟨[vr, vt], true⟩ := (x3.2 _ (by omega)).trans ((x2.2 _ (by omega)).trans q1)
  have st5 : (H2.push [.nils, .nils, .I 0, .I 0, .nils]).store H2.n 0 [.nils, vb, .I 0, .I 0, .nils] = some (H2.push [.nils, vb, .I 0, .I 0, .nils]) := store_push5e
  simp [flat_cells fb, flat_tup fb, st5, load_bk q2, h2.alen]
  have keep : ∀ b, b < H1.n → (H2.push [.nils, vb, .I 0, .I 0, .nils]).bk b = H1.bk b := fun b hb => (x3.2 b (by omega)).trans (x2.2 b (by omega))
  have := K_iWorldNew_l (p := p) (fun f hf => by have := hv'.2 f hf; unfold vaF at this; simp only [Bool.and_eq_true] at this; exact this.1) (by omega) (vt := vt) (vb := vb) (vo := .nils) (R := H.n + 1) (P4 := H2.n) (base := H1.n) (lo := H2.n + 1) (by omega) (by omega) p.tasks.length 0 (by omega)
    (G := H2.push [.nils, vb, .I 0, .I 0, .nils]) (g := .nils) (cs := []) (B := H2.n + 1) (by simp) (h2.mono (by simp; omega) (fun b _ hb => y3.2 b hb) (fun b _ hb => by omega)) push_new
    GrS.nils (by omega) rfl (fun b => H1.n ≤ b ∧ b < H2.n) (fun b hb => by omega) (Q := ?_) ?_
  · simpa using this
  · intro e G g cs B z1 z2 z3 z4 z5 z6 z7 z8 z9
    simp only [push_n] at z7
    have keep0 : ∀ b, b < H1.n → G.bk b = H1.bk b := fun b hb => (z6 b (.inl hb)).trans (keep b hb)
    have keepS : ∀ b, H1.n ≤ b → b < H2.n → G.bk b = H2.bk b := fun b h h' => (z6 b (.inr ⟨h, h'⟩)).trans (x3.2 b h')
    have qR2 := (keep0 (H.n + 1) (by omega)).trans qR1
    have st := store_five qR2 (l := [g, vb, .I 0, .I 0, .nils]) rfl rfl
    simp [z8, z9, loadN_bk z3, st, loadN_bk put_same]
    have hk : ∀ b, b ≠ H.n + 1 → (G.put (H.n + 1) (some ⟨[g, vb, .I 0, .I 0, .nils], true⟩)).bk b = G.bk b := fun b hb => by rw [put_bk, if_neg hb]
    have hlen : (newW p).tasks.length = p.tasks.length := by simp [newW]
    refine k _ _ ⟨_, _, _, rfl, ⟨cs, ?_, z2.imp fun c a h => h.mono (by simp) (fun b hb _ => hk b (by omega)) (fun b hb _ => by omega)⟩, ?_, IV.nilp (.inl rfl)⟩ ⟨by simp; omega, fun b hb => by rw [hk b (by omega), keep0 b (by omega)]; exact y1.2 b hb⟩
    · rw [hlen]
      exact z1.slc.mono (by simp) (fun b hb _ => hk b (by omega)) (fun b hb _ => by omega)
    · refine bv.mono (by simp; omega) (fun b hb hn => ?_) (fun b hb _ => by omega)
      rw [hk b (by omega), keepS b hb hn]
end Go.Proofs.Ytmecbehegmgbhaa.AM
namespace Go.Proofs.Ytmecbehegmgbhaa.AM
set_option linter.unusedSimpArgs false
set_option linter.unusedVariables false
set_option maxRecDepth 100000
set_option maxHeartbeats 2000000
open Go
attribute [-simp] AM.elems
theorem newW_bo {p : Pg} (hv : vaPg p = true) : vaWd (newW p) = true ∧ boW (newW p) 850000 ∧ (newW p).boxes.length ≤ 3 := by
  obtain ⟨h1, h2⟩ := newW_ok hv
  have hv' := hv
  unfold vaPg vaRm at hv'
  simp only [Bool.and_eq_true, decide_eq_true_eq, List.all_eq_true] at hv'
  refine ⟨h1, ⟨fun t ht => ⟨?_, by have := h2 t ht; omega⟩, by simp [newW]⟩, by simp [newW]; omega⟩
  simp only [newW, List.mem_map] at ht
  obtain ⟨f, hf, rfl⟩ := ht
  have := hv'.2 f hf
  unfold vaF vaS at this
  simp only [Bool.and_eq_true, decide_eq_true_eq] at this
  simp only; omega
section
variable {H : AH} {K : AV → AH → Prop} {w : Fk K}
theorem K_sDrawWorldNew {v : AV} {zs : List Int} (h : SlI H .u8 v zs) (hz : ∀ n ∈ zs, 0 ≤ n ∧ n < 256) (hl : zs.length ≤ 1048576)
    (k : ∀ c p H', PgC (fun _ => True) H' c p → (∀ f ∈ p.tasks, ctS f ≤ 1001) → p.tasks.length ≤ 6 → p.rooms.length ≤ 4 → Ext H H' → K (.agg c) H') : CallF Cd f_sDrawWorldNew [v] H K w := by
  rw [CallF_eq e_sDrawWorldNew rfl]
  simp
  refine K_l6Open (SlI.ext h (Ext.push _ _)) hz hl fun H0 hR0 hS0 => ?_
  have hR0 : Rdx H0 (H.n + 1) 0 := ⟨0, by omega, by omega, by simpa using hR0⟩
  have n0 := hS0.1
  simp only [push_n] at n0
  have qR : H0.bk H.n = some ⟨[.nils, .nils], true⟩ := hS0.at (by simp) (by simp) push_new
  have hr0 := hR0.lt
  simp
  refine K_sl92Wrong hR0 (by omega) fun c p H1 pc hct ht hr hR1 hS1 => ?_
  have n1 := hS1.1
  obtain ⟨vr, vt, rfl, _, _⟩ := id pc
  have q1 : H1.bk H.n = some ⟨[.nils, .nils], true⟩ := hS1.at (by omega) (by omega) qR
  have st : H1.store H.n 0 [vr, vt] = some (H1.put H.n (some ⟨[vr, vt], true⟩)) := store_bk q1 (by simp)
  simp [st, loadN_bk put_same]
  refine k _ p _ (pc.mono (by simp) (fun b hb _ => by rw [put_bk, if_neg (by omega)]) (fun _ _ _ => trivial)) hct ht hr ⟨by simp; omega, fun b hb => ?_⟩
  rw [put_bk, if_neg (by omega), hS1.2 b (by omega) (by omega), hS0.2 b (by simp; omega) (by simp; omega)]
  exact push_old hb rfl
end
end Go.Proofs.Ytmecbehegmgbhaa.AM
namespace Go.Proofs.Ytmecbehegmgbhaa.AM
set_option linter.unusedSimpArgs false
set_option linter.unusedVariables false
set_option maxRecDepth 100000
set_option maxHeartbeats 2000000
open Go
attribute [-simp] AM.elems
end Go.Proofs.Ytmecbehegmgbhaa.AM
namespace Go.Proofs.Ytmecbehegmgbhaa.AM
set_option linter.unusedSimpArgs false
set_option linter.unusedVariables false
set_option maxRecDepth 100000
set_option maxHeartbeats 2000000
open Go
attribute [-simp] AM.elems
theorem set_same {α : Type} {l : List α} {i : Nat} {x : α} (h : l[i]? = some x) : l.set i x = l := by
  obtain ⟨hl, rfl⟩ := List.getElem?_eq_some_iff.1 h
  exact List.set_getElem_self hl
def stillT (t : Tk) (bs : List Bx) : Prop := (stepP t bs).2.2.2 = 3 ∨ (stepP t bs).2.2.2 = 4
theorem talk_still {t : Tk} {bs : List Bx} {s : St1} {r : List St1} (h : (talkP t bs s r).2.2 = 3 ∨ (talkP t bs s r).2.2 = 4) : (talkP t bs s r).1 = t ∧ (talkP t bs s r).2.1 = bs := by
  unfold talkP at h ⊢
  split
  · exact ⟨rfl, rfl⟩
  · rename_i b hb
    rw [hb] at h
    simp only at h ⊢
    split
    · rename_i hk
      rw [if_pos hk] at h
      split
      · rename_i hr; rw [if_pos hr] at h; simp at h
      · exact ⟨rfl, rfl⟩
    · rename_i hk
      rw [if_neg hk] at h
      split
      · exact ⟨rfl, rfl⟩
      · rename_i y q hq; rw [hq] at h; simp at h
theorem still_same {t : Tk} {bs : List Bx} (h : stillT t bs) : (stepP t bs).1 = t ∧ (stepP t bs).2.1 = bs ∧ (stepP t bs).2.2.1 = [] := by
  unfold stillT stepP at h
  unfold stepP
  split
  · exact ⟨rfl, rfl, rfl⟩
  · rename_i s r hr
    rw [hr] at h
    simp only at h
    split
    · rename_i hk
      rw [if_pos hk] at h
      have := talk_still h
      exact ⟨this.1, this.2, rfl⟩
    · rename_i hk
      rw [if_neg hk] at h
      split
      · rename_i h2; rw [if_pos h2] at h; simp at h
      · rename_i h2
        rw [if_neg h2] at h
        split
        · rename_i h3; rw [if_pos h3] at h; simp at h
        · rename_i h3
          rw [if_neg h3] at h
          split
          · rename_i h4; rw [if_pos h4] at h; simp at h
          · rename_i h4; rw [if_neg h4] at h; simp at h
/-- The last idle tasks wait or have ended. -/
def idleI (w : Wd) : Prop := ∀ j : Int, 1 ≤ j → j ≤ w.idle → ∀ t, w.tasks[((w.turn - j) % w.tasks.length).toNat]? = some t → stillT t w.boxes
theorem idleI.step {w : Wd} (h : idleI w) (hv : vaWd w = true) (hi : w.idle < w.tasks.length) : idleI (stepW w) := by
  obtain ⟨h1, h2, h3, h4⟩ := vaWd_iff.1 hv
  obtain ⟨t, ht⟩ : ∃ t, w.tasks[w.turn.toNat]? = some t := ⟨_, List.getElem?_eq_getElem (by omega)⟩
  have hc := step_code' (bs := w.boxes) (h4 t (List.mem_of_getElem? ht))
  have e : stepW w = ⟨w.tasks.set w.turn.toNat (stepP t w.boxes).1, (stepP t w.boxes).2.1, (nextT w.tasks.length w.turn w.idle (stepP t w.boxes).2.2.2).1, (nextT w.tasks.length w.turn w.idle (stepP t w.boxes).2.2.2).2, w.out ++ (stepP t w.boxes).2.2.1⟩ := by
    unfold stepW; rw [ht]
  rw [e]
  intro j hj1 hj2 u hu
  simp only at hj2 hu ⊢
  by_cases c1 : (stepP t w.boxes).2.2.2 = 1
  · rw [c1] at hj2; simp [nextT] at hj2; omega
  by_cases c2 : (stepP t w.boxes).2.2.2 = 2
  · rw [c2] at hj2; simp [nextT] at hj2; omega
  have hs : stillT t w.boxes := by unfold stillT; omega
  obtain ⟨s1, s2, s3⟩ := still_same hs
  rw [s1, set_same ht] at hu
  rw [s2]
  have en : nextT w.tasks.length w.turn w.idle (stepP t w.boxes).2.2.2 = ((w.turn + 1) % w.tasks.length, w.idle + 1) := by unfold nextT; rw [if_neg c1, if_neg c2]
  rw [en] at hj2 hu
  simp only at hj2 hu
  have hm : (((w.turn + 1) % w.tasks.length - j) % w.tasks.length) = (w.turn + 1 - j) % w.tasks.length := by
    rw [Int.emod_sub_emod]
  rw [hm] at hu
  by_cases j1 : j = 1
  · subst j1
    rw [show w.turn + 1 - 1 = w.turn by omega, Int.emod_eq_of_lt (by omega) (by omega), ht] at hu
    cases hu; exact hs
  · exact h (j - 1) (by omega) (by omega) u (by rw [show w.turn - (j - 1) = w.turn + 1 - j by omega]; exact hu)
theorem idleI.run : ∀ (n : Nat) {w : Wd}, idleI w → vaWd w = true → idleI (runW n w)
  | 0, _, h, _ => h
  | n + 1, w, h, hv => by
    unfold runW
    split
    · rename_i hi
      exact idleI.run n (h.step hv hi) (stepW_keeps hv hi).1
    · exact h
theorem idleI.rest {w : Wd} (h : idleI w) (hv : vaWd w = true) (hi : ¬ w.idle < w.tasks.length) : ∀ t ∈ w.tasks, stillT t w.boxes := by
  intro t ht
  obtain ⟨h1, h2, h3, h4⟩ := vaWd_iff.1 hv
  obtain ⟨i, hi2⟩ := List.mem_iff_getElem?.1 ht
  have hl := (List.getElem?_eq_some_iff.1 hi2).1
  by_cases c : (i : Int) < w.turn
  · refine h (w.turn - i) (by omega) (by omega) t ?_
    rw [show w.turn - (w.turn - i) = i by omega, Int.emod_eq_of_lt (by omega) (by omega)]; exact hi2
  · refine h (w.turn - i + w.tasks.length) (by omega) (by omega) t ?_
    rw [show w.turn - (w.turn - i + w.tasks.length) = (i : Int) - w.tasks.length by omega, Int.sub_emod_right, Int.emod_eq_of_lt (by omega) (by omega)]; exact hi2
theorem idleI_new {p : Pg} : idleI (newW p) := fun j h1 h2 => by simp [newW] at h2; omega
theorem stillW {p : Pg} {n : Nat} (hv : vaPg p = true) (hi : ¬ (runW n (newW p)).idle < (runW n (newW p)).tasks.length) : ∀ t ∈ (runW n (newW p)).tasks, stillT t (runW n (newW p)).boxes := by
  have h := (newW_bo hv).1
  exact (idleI_new.run n h).rest (runW_keeps n h).1 hi
end Go.Proofs.Ytmecbehegmgbhaa.AM
namespace Go.Proofs.Ytmecbehegmgbhaa.AM
set_option linter.unusedSimpArgs false
set_option linter.unusedVariables false
set_option maxRecDepth 100000
set_option maxHeartbeats 2000000
open Go
attribute [-simp] AM.elems
end Go.Proofs.Ytmecbehegmgbhaa.AM
namespace Go.Proofs.Ytmecbehegmgbhaa.AM
set_option linter.unusedSimpArgs false
set_option linter.unusedVariables false
set_option maxRecDepth 100000
set_option maxHeartbeats 2000000
open Go
attribute [-simp] AM.elems
/-- A slice of events. -/
def EvV (ok : Nat → Prop) (H : AH) (v : AV) (l : List Evt) : Prop := SlC ok H v l.length 4 (evCs l)
theorem EvV.mono {ok ok' : Nat → Prop} {H H' v l} (h : EvV ok H v l) (hn : H.n ≤ H'.n) (hk : ∀ b, ok b → b < H.n → H'.bk b = H.bk b) (ho : ∀ b, ok b → b < H.n → ok' b) : EvV ok' H' v l := SlC.mono h hn hk ho
theorem EvV.ext {ok H H' v l} (h : EvV ok H v l) (k : Ext H H') : EvV ok H' v l := h.mono k.1 (fun b _ hb => k.2 b hb) (fun _ h _ => h)
theorem EvV.alen {ok H v l} (h : EvV ok H v l) : alen v = some l.length := SlC.alen h
theorem EvV.flat {ok H v l} (h : EvV ok H v l) : v.flat = true := SlC.flat h
theorem EvV.big {ok H v l} (h : EvV ok H v l) : l.length ≤ 8589934592 := h.1
theorem EvV.nil {ok H} : EvV ok H .nils [] := ⟨by simp, rfl, .inl ⟨rfl, .inl rfl⟩⟩
theorem EvV.emp {ok : Nat → Prop} {H : AH} {b : Nat} (h : H.bk b = some ⟨[], true⟩) (hb : b < H.n) (ho : ok b) : EvV ok H (.sl b 0 0 (.ex 0)) [] :=
  ⟨by simp, rfl, .inr ⟨b, 0, _, rfl, ⟨ho, by simp [capOk]⟩, hb, by rw [loadN_bk h]; rfl⟩⟩
theorem seg_evCs : ∀ {l : List Evt} {i : Nat} {e : Evt}, l[i]? = some e → seg (evCs l) (i * 4) 4 = some (evC e)
  | [], i, e, h => by simp at h
  | x :: l, 0, e, h => by
    simp at h; subst h
    unfold seg
    rw [if_pos (by rw [evCs_len]; simp; omega)]
    simp [evCs, evC]
  | x :: l, i + 1, e, h => by
    have := seg_evCs (l := l) (i := i) (e := e) (by simpa using h)
    rw [← this]
    have e1 : evCs (x :: l) = evC x ++ evCs l := by simp [evCs]
    have e2 : (i + 1) * 4 = (evC x).length + i * 4 := by simp [evC]; omega
    unfold seg
    rw [e1, e2, ← List.drop_drop, List.drop_left]
    simp only [List.length_append]
    by_cases hq : i * 4 + 4 ≤ (evCs l).length
    · rw [if_pos (by omega), if_pos hq]
    · rw [if_neg (by omega), if_neg hq]
theorem EvV.at {ok H v l} (h : EvV ok H v l) {i : Nat} {e : Evt} (hi : l[i]? = some e) : ∃ b o cap, v = .sl b o l.length cap ∧ b < H.n ∧ H.loadN b (o + i * 4) 4 = some (evC e) := by
  have hl := (List.getElem?_eq_some_iff.1 hi).1
  obtain ⟨b, o, cap, e1, ob, hb, hs⟩ := SlC.at h hl
  exact ⟨b, o, cap, e1, hb, by rw [hs _ _ (by omega)]; exact seg_evCs hi⟩
def trF (n : Int) (w : Wd) : List Evt × Bool := if vaWd w = true ∧ 0 ≤ n ∧ n ≤ 100000 then (trW n.toNat w, true) else ([], false)
theorem trW_len : ∀ (n : Nat) (w : Wd), (trW n w).length ≤ n
  | 0, w => by simp [trW]
  | n + 1, w => by
    unfold trW
    split
    · have := trW_len n (stepW w)
      have e : (evW w).length ≤ 1 := by
        unfold evW evL
        split
        · simp
        · split <;> simp
      rw [List.length_append]; omega
    · simp
section
variable {ok : Nat → Prop} {H : AH} {K : AV → AH → Prop} {wf : Fk K} {c : List AV} {w : Wd} {n : Int}
theorem K_iWorldTrace (h : WC ok H c w) (hct : ∀ t ∈ w.tasks, ctS t.rest ≤ 100000) (hbl : w.boxes.length ≤ 100) (hbo : n ≤ 100000 → boW w n.toNat) (hol : w.out.length ≤ 700000)
    (k : ∀ v' H', EvV (fun b => H.n ≤ b) H' v' (trF n w).1 → Ext H H' → K (.tup [v', .b (trF n w).2]) H') : CallF Cd f_iWorldTrace [.agg c, .I n] H K wf := by
  have h' := h
  obtain ⟨vt, vb, vo, rfl, h1, h2, h3⟩ := h'
  rw [CallF_eq e_iWorldTrace rfl]
  have x0 := Ext.push H [vt, vb, .I w.turn, .I w.idle, vo]
  have q0 : (H.push [vt, vb, .I w.turn, .I w.idle, vo]).bk H.n = some ⟨[vt, vb, .I w.turn, .I w.idle, vo], true⟩ := push_new
  simp [loadN_bk q0]
  refine K_iWorldValid (h.ext x0) hct hbl fun H1 x1 => ?_
  have n1 := x1.1
  simp only [push_n] at n1
  have y1 := x0.trans x1
  have q1 := (x1.2 H.n (by simp <;> omega)).trans q0
  have bad : ¬ (vaWd w = true ∧ 0 ≤ n ∧ n ≤ 100000) → K (.tup [.nils, .b false]) H1 := fun hb => by
    have e : trF n w = ([], false) := by unfold trF; rw [if_neg hb]
    rw [e] at k
    exact k .nils _ EvV.nil y1
  cases hv : vaWd w with
  | false =>
    simp
    exact bad (by rw [hv]; simp)
  | true =>
  by_cases hn0 : n < 0
  · simp [hn0]
    exact bad (fun hh => by omega)
  by_cases hn1 : 100000 < n
  · simp [hn0, hn1]
    exact bad (fun hh => by omega)
  have hF : trF n w = (trW n.toNat w, true) := by unfold trF; rw [if_pos ⟨hv, by omega, by omega⟩]
  rw [hF] at k
  have hbo := hbo (by omega)
  have en : n = (n.toNat : Int) := by omega
  have x2 := Ext.push H1 [.nils]
  have q2 := (x2.2 H.n (by omega)).trans q1
  have hw2 : WC (fun b => b < H1.n) (H1.push [.nils]) [vt, vb, .I w.turn, .I w.idle, vo] w := (h.ext y1).mono x2.1 (fun b _ hb => x2.2 b hb) (fun b _ hb => hb)
  simp [hn0, hn1, loadN_bk q2]
  have := K_irunWorld (K := ?_) (wf := ?_) (n := n.toNat) (some H1.n) hw2 (fun b hb => by simp [trBk]; omega) hv hbo (by omega) (by omega) ⟨by simp, push_new⟩ ?_
  · rw [← en] at this
    exact this
  · intro c' H2 wc o2 t2
    obtain ⟨ve, OE, t3, t4⟩ := t2
    have n2 := o2.1
    simp only [push_n] at n2 t4
    simp [load_bk t3]
    refine k ve _ (t4.ivB (fun hb _ => by omega)) ⟨by omega, fun b hb => ?_⟩
    rw [o2.2 b (by simp; omega) (by simp [trBk]; omega), x2.2 b (by omega)]
    exact y1.2 b hb
end
end Go.Proofs.Ytmecbehegmgbhaa.AM
namespace Go.Proofs.Ytmecbehegmgbhaa.AM
set_option linter.unusedSimpArgs false
set_option linter.unusedVariables false
set_option maxRecDepth 100000
set_option maxHeartbeats 2000000
open Go
attribute [-simp] AM.elems
theorem evC_one {base : Nat} {G : AH} {a b c d : Int} (hb : base ≤ G.n) : EvV (fun x => base ≤ x) (G.push [.I a, .I b, .I c, .I d]) (.sl G.n 0 1 (.ex 1)) [(a, b, c, d)] := by
  refine ⟨by simp, rfl, .inr ⟨G.n, 0, _, rfl, ⟨hb, by simp [capOk]⟩, by simp, ?_⟩⟩
  rw [loadN_bk push_new]; rfl
section
variable {ok : Nat → Prop} {H : AH} {K : AV → AH → Prop} {wf : Fk K} {c : List AV} {w : Wd}
end
theorem T_wsameEvents_l {o1 o2 : Nat → Prop} {H : AH} {va vb : AV} {l : List Evt} {Q : Out → Env → AH → Prop} (h1 : EvV o1 H va l) (h2 : EvV o2 H vb l) (hQ : ∀ e, Q (.brk 0) e H) (m i : Nat) (hm : i + m = l.length) :
    W Cd (.loop c_wsameEvents_l0) [(0, va), (1, vb), (5, .I i)] H Q := by
  have hbig := h1.big
  induction m generalizing i with
  | zero =>
    rw [W_loop_as c_wsameEvents_l0.eq_1]
    have : i = l.length := by omega
    subst this
    simp [h1.alen]
    exact hQ _
  | succ m ih =>
    rw [W_loop_as c_wsameEvents_l0.eq_1]
    have hlt : i < l.length := by omega
    have hlt' : (i : Int) < l.length := by omega
    obtain ⟨e, he⟩ : ∃ e, l[i]? = some e := ⟨_, List.getElem?_eq_getElem hlt⟩
    obtain ⟨b, o, cap, e1, hb, l1⟩ := h1.at he
    obtain ⟨b2, o2, cap2, e2, hb2, l2⟩ := h2.at he
    have := ih (i + 1) (by omega)
    subst e1 e2
    simp (disch := omega) [hlt', l1, l2, evC]
    simpa using this
theorem T_wsameEvents {o1 o2 : Nat → Prop} {H : AH} {K : AV → AH → Prop} {w : Fk K} {va vb : AV} {l : List Evt} (h1 : EvV o1 H va l) (h2 : EvV o2 H vb l) (k : K (.b true) H) : CallF Cd f_wsameEvents [va, vb] H K w := by
  rw [CallF_eq e_wsameEvents rfl]
  simp [h1.alen, h2.alen]
  have := T_wsameEvents_l h1 h2 (Q := ?_) ?_ l.length 0 (by omega)
  · simpa using this
  · intro e; simpa using k
end Go.Proofs.Ytmecbehegmgbhaa.AM
namespace Go.Proofs.Ytmecbehegmgbhaa.AM
set_option linter.unusedSimpArgs false
set_option linter.unusedVariables false
set_option maxRecDepth 100000
set_option maxHeartbeats 2000000
open Go
attribute [-simp] AM.elems
theorem EvV.elems {ok H v l} (h : EvV ok H v l) : AM.elems H 4 v = some (evCs l) := SlC.elems h
/-- Events behind those of a slice that grows. -/
theorem app_evs {base B : Nat} {G G1 : AH} {g v : AV} {evs l : List Evt} {o : Nat → Prop} (hg : GrS base G g evs.length 4 (evCs evs) B) (x1 : Ext G G1) (hv : EvV o G1 v l) (hb : base ≤ G.n) (hl : evs.length + l.length ≤ 1000000) :
    ∃ g' G' B', aapp G1 4 g l.length (evCs l) = some (g', G') ∧ GrS base G' g' (evs ++ l).length 4 (evCs (evs ++ l)) B' ∧ Only (grB g B) G1 G' ∧ ((B' = B ∧ B ∈ grB g B) ∨ B' = G1.n) ∧ g'.flat = true := by
  obtain ⟨g', G', B', a1, a2, a3, a4⟩ := (hg.ext x1).app (k := l.length) (new := evCs l) (by have := x1.1; omega) evCs_len hl
  exact ⟨g', G', B', a1, by rw [List.length_append, evCs_app]; exact a2, a4, a3, a2.flat⟩
section
variable {ok : Nat → Prop} {H : AH} {K : AV → AH → Prop} {wf : Fk K} {c : List AV} {w : Wd} {n : Int}
end
end Go.Proofs.Ytmecbehegmgbhaa.AM
namespace Go.Proofs.Ytmecbehegmgbhaa.AM
set_option linter.unusedSimpArgs false
set_option linter.unusedVariables false
set_option maxRecDepth 100000
set_option maxHeartbeats 2000000
open Go
attribute [-simp] AM.elems
section
variable {H : AH} {K : AV → AH → Prop} {w : Fk K}
end
/-- The values of the events that are wanted. -/
def valsL (pr : Evt → Bool) (l : List Evt) : List Int := (l.filter pr).map fun e => e.2.2.2
theorem valsL_app {pr : Evt → Bool} {a b : List Evt} : valsL pr (a ++ b) = valsL pr a ++ valsL pr b := by simp [valsL]
theorem valsL_len {pr : Evt → Bool} {a : List Evt} : (valsL pr a).length ≤ a.length := by simp [valsL]; exact List.length_filter_le _ _
/-- What a function answers that is asked of events. -/
def AskOk (ff : FuncId) (cap : List AV) (P : AH → Prop) (pr : Evt → Bool) : Prop :=
  ∀ {H : AH} {K : AV → AH → Prop} {e : Evt} {w1 : Fk K}, P H → (∀ H', Ext H H' → K (.b (pr e)) H') → CallF Cd ff (.agg (evC e) :: cap) H K w1
end Go.Proofs.Ytmecbehegmgbhaa.AM
namespace Go.Proofs.Ytmecbehegmgbhaa.AM
set_option linter.unusedSimpArgs false
set_option linter.unusedVariables false
set_option maxRecDepth 100000
set_option maxHeartbeats 2000000
open Go
attribute [-simp] AM.elems
def sentP (box : Int) (e : Evt) : Bool := decide (e.2.1 = 1) && decide (e.2.2.1 = box)
def gotP (box : Int) (e : Evt) : Bool := decide (e.2.1 = 2) && decide (e.2.2.1 = box)
def outP (e : Evt) : Bool := decide (e.2.1 = 3)
section
variable {ok : Nat → Prop} {H : AH} {K : AV → AH → Prop} {w : Fk K} {l : List Evt} {v : AV} {box : Int}
end
end Go.Proofs.Ytmecbehegmgbhaa.AM
namespace Go.Proofs.Ytmecbehegmgbhaa.AM
set_option linter.unusedSimpArgs false
set_option linter.unusedVariables false
set_option maxRecDepth 100000
set_option maxHeartbeats 2000000
open Go
attribute [-simp] AM.elems
theorem orW_bo {w : Wd} (h : w = zeroW ∨ ∃ p, vaPg p = true ∧ w = newW p) : boW w 850000 ∧ w.boxes.length ≤ 3 := by
  rcases h with rfl | ⟨p, hv, rfl⟩
  · exact ⟨⟨fun t ht => by simp [zeroW] at ht, by simp [zeroW]⟩, by simp [zeroW]⟩
  · exact (newW_bo hv).2
theorem trW_rest {w : Wd} (h : ¬ w.idle < w.tasks.length) : ∀ n, trW n w = []
  | 0 => rfl
  | n + 1 => by unfold trW; rw [if_neg h]
theorem trW_succ {w : Wd} (h : w.idle < w.tasks.length) (n : Nat) : trW (n + 1) w = evW w ++ trW n (stepW w) := by
  conv => lhs; unfold trW
  rw [if_pos h]
theorem runW_succ {w : Wd} (h : w.idle < w.tasks.length) (n : Nat) : runW (n + 1) w = runW n (stepW w) := by
  conv => lhs; unfold runW
  rw [if_pos h]
theorem trW_add (a : Nat) : ∀ (b : Nat) (w : Wd), trW (a + b) w = trW a w ++ trW b (runW a w) := by
  induction a with
  | zero => intro b w; rw [Nat.zero_add]; rfl
  | succ a ih =>
    intro b w
    rw [Nat.succ_add]
    by_cases h : w.idle < w.tasks.length
    · rw [trW_succ h, trW_succ h, runW_succ h, ih, List.append_assoc]
    · rw [trW_rest h, trW_rest h, runW_rest h, trW_rest h]; rfl
theorem evW_len {w : Wd} : (evW w).length ≤ 1 := by
  unfold evW evL
  split
  · simp
  · split <;> simp
theorem trW_one {w : Wd} : (trW 1 w).length ≤ 1 := trW_len 1 w
/-- A beginning of what happens is what happens in fewer steps. -/
theorem trW_take (n : Nat) : ∀ (w : Wd) (i : Nat), i ≤ (trW n w).length → ∃ m, m ≤ n ∧ (trW n w).take i = trW m w := by
  induction n with
  | zero => intro w i hi; exact ⟨0, Nat.le_refl _, by simp [trW]⟩
  | succ n ih =>
    intro w i hi
    by_cases h : w.idle < w.tasks.length
    · rw [trW_succ h] at hi ⊢
      by_cases h0 : i = 0
      · exact ⟨0, by omega, by subst h0; rfl⟩
      by_cases hl : (evW w).length ≤ i
      · obtain ⟨m, h1, h2⟩ := ih (stepW w) (i - (evW w).length) (by rw [List.length_append] at hi; omega)
        refine ⟨m + 1, by omega, ?_⟩
        rw [trW_succ h, ← h2, List.take_append, List.take_of_length_le hl]
      · have := evW_len (w := w); omega
    · exact ⟨0, by omega, by rw [trW_rest h]; simp [trW]⟩
/-- The words of an event that is wanted. -/
def itemsAt (bs : List Bx) (k : Nat) : List Int := ((bs[k]?).map (·.items)).getD []
theorem evW_items {w : Wd} (hv : vaWd w = true) (hi : w.idle < w.tasks.length) (k : Nat) :
    itemsAt w.boxes k ++ valsL (sentP k) (evW w) = valsL (gotP k) (evW w) ++ itemsAt (stepW w).boxes k := by
  obtain ⟨h1, h2, h3, h4⟩ := vaWd_iff.1 hv
  obtain ⟨t, ht⟩ : ∃ t, w.tasks[w.turn.toNat]? = some t := ⟨_, List.getElem?_eq_getElem (by omega)⟩
  have e1 : evW w = evL w.turn (evS t w.boxes) := by unfold evW; rw [ht]
  have e2 : (stepW w).boxes = (stepP t w.boxes).2.1 := by unfold stepW; rw [ht]
  rw [e1, e2]
  have hva := h4 t (List.mem_of_getElem? ht)
  unfold evS stepP
  cases hr : t.rest.list with
  | nil => simp [evL, valsL]
  | cons s r =>
    have hok := (vaS_one ((vaT_iff.1 hva).2.2 s (by rw [hr]; exact List.mem_cons_self))).1
    have hb := (okT_facts hok).2.2.2.1
    simp only
    by_cases k4 : s.k = 4
    · rw [if_pos k4, if_pos (.inl k4)]
      simp only [talkP]
      cases hbx : w.boxes[s.b.toNat]? with
      | none => simp [evL, valsL]
      | some bx =>
        simp only [k4, if_true]
        have hbl := (List.getElem?_eq_some_iff.1 hbx).1
        have hb0 := (hb (.inl k4)).1
        by_cases hq : (bx.items.length : Int) < bx.room
        · rw [if_pos hq, if_pos hq]
          by_cases hk : k = s.b.toNat
          · subst hk
            have hs : (s.b.toNat : Int) = s.b := by omega
            have hbe : w.boxes[s.b.toNat] = bx := by have := List.getElem?_eq_getElem hbl; rw [hbx] at this; exact (Option.some.inj this).symm
            simp [evL, valsL, sentP, gotP, itemsAt, hbx, hbl, hs, hbe]
          · have hs : ¬ s.b = (k : Int) := by omega
            simp [evL, valsL, sentP, gotP, itemsAt, hs, List.getElem?_set, Ne.symm hk]
        · rw [if_neg hq, if_neg hq]
          simp [evL, valsL]
    by_cases k5 : s.k = 5
    · rw [if_neg k4, if_pos k5, if_pos (.inr k5)]
      simp only [talkP]
      cases hbx : w.boxes[s.b.toNat]? with
      | none => simp [evL, valsL]
      | some bx =>
        simp only [k4, if_false]
        have hbl := (List.getElem?_eq_some_iff.1 hbx).1
        have hb0 := (hb (.inr k5)).1
        cases hit : bx.items with
        | nil => simp [evL, valsL]
        | cons y q =>
          simp only
          by_cases hk : k = s.b.toNat
          · subst hk
            have hs : (s.b.toNat : Int) = s.b := by omega
            have hbe : w.boxes[s.b.toNat] = bx := by have := List.getElem?_eq_getElem hbl; rw [hbx] at this; exact (Option.some.inj this).symm
            simp [evL, valsL, sentP, gotP, itemsAt, hbx, hbl, hs, hit, hbe]
          · have hs : ¬ s.b = (k : Int) := by omega
            simp [evL, valsL, sentP, gotP, itemsAt, hs, List.getElem?_set, Ne.symm hk]
    · rw [if_neg k4, if_neg k5, if_neg (show ¬ (s.k = 4 ∨ s.k = 5) by omega)]
      have e3 : (if s.k = 2 ∨ s.k = 3 then ((⟨t.vars, blkR s r (evE t.vars s.e)⟩ : Tk), w.boxes, ([] : List Int), (1 : Int)) else if s.k = 1 then (⟨t.vars.set s.v.toNat (evE t.vars s.e), Sts.of r⟩, w.boxes, [], 1) else if s.k = 6 then (⟨t.vars, Sts.of r⟩, w.boxes, [], 2) else (⟨t.vars, Sts.of r⟩, w.boxes, [evE t.vars s.e], 1)).2.1 = w.boxes := by
        split
        · rfl
        · split
          · rfl
          · split <;> rfl
      rw [e3]
      by_cases k7 : s.k = 7
      · simp [k7, evL, valsL, sentP, gotP]
      · simp [k7, evL, valsL]
theorem trW_items (n : Nat) : ∀ {w : Wd} (hv : vaWd w = true) (k : Nat), itemsAt w.boxes k ++ valsL (sentP k) (trW n w) = valsL (gotP k) (trW n w) ++ itemsAt (runW n w).boxes k := by
  induction n with
  | zero => intro w hv k; simp [trW, runW, valsL]
  | succ n ih =>
    intro w hv k
    by_cases h : w.idle < w.tasks.length
    · rw [trW_succ h, runW_succ h, valsL_app, valsL_app, ← List.append_assoc, evW_items hv h, List.append_assoc, List.append_assoc, ih (stepW_keeps hv h).1]
    · rw [trW_rest h, runW_rest h]; simp [valsL]
theorem evW_out {w : Wd} (hv : vaWd w = true) : (stepW w).out = w.out ++ valsL outP (evW w) := by
  obtain ⟨h1, h2, h3, h4⟩ := vaWd_iff.1 hv
  obtain ⟨t, ht⟩ : ∃ t, w.tasks[w.turn.toNat]? = some t := ⟨_, List.getElem?_eq_getElem (by omega)⟩
  have e1 : evW w = evL w.turn (evS t w.boxes) := by unfold evW; rw [ht]
  have e2 : (stepW w).out = w.out ++ (stepP t w.boxes).2.2.1 := by unfold stepW; rw [ht]
  rw [e1, e2]
  congr 1
  have hva := h4 t (List.mem_of_getElem? ht)
  unfold evS stepP
  cases hr : t.rest.list with
  | nil => simp [evL, valsL]
  | cons s r =>
    have hok := (vaS_one ((vaT_iff.1 hva).2.2 s (by rw [hr]; exact List.mem_cons_self))).1
    have hk17 := (okT_facts hok).1
    simp only
    by_cases k4 : s.k = 4
    · rw [if_pos k4, if_pos (.inl k4)]
      cases hbx : w.boxes[s.b.toNat]? with
      | none => simp [evL, valsL]
      | some bx =>
        simp only
        split <;> simp [evL, valsL, outP]
    by_cases k5 : s.k = 5
    · rw [if_neg k4, if_pos k5, if_pos (.inr k5)]
      cases hbx : w.boxes[s.b.toNat]? with
      | none => simp [evL, valsL]
      | some bx =>
        simp only
        split <;> simp [evL, valsL, outP]
    · rw [if_neg k4, if_neg k5, if_neg (show ¬ (s.k = 4 ∨ s.k = 5) by omega)]
      by_cases k7 : s.k = 7
      · simp [k7, evL, valsL, outP]
      · rw [if_neg k7]
        by_cases k23 : s.k = 2 ∨ s.k = 3
        · rw [if_pos k23]; simp [evL, valsL]
        · rw [if_neg k23]
          by_cases k1 : s.k = 1
          · rw [if_pos k1]; simp [evL, valsL]
          · rw [if_neg k1, if_pos (by omega)]; simp [evL, valsL]
theorem trW_out (n : Nat) : ∀ {w : Wd} (hv : vaWd w = true), (runW n w).out = w.out ++ valsL outP (trW n w) := by
  induction n with
  | zero => intro w hv; simp [trW, runW, valsL]
  | succ n ih =>
    intro w hv
    by_cases h : w.idle < w.tasks.length
    · rw [trW_succ h, runW_succ h, valsL_app, ih (stepW_keeps hv h).1, evW_out hv, List.append_assoc]
    · rw [trW_rest h, runW_rest h]; simp [valsL]
/-- What an event is that happens in a world. -/
def evOk (tasks boxes : Nat) (e : Evt) : Prop := 0 ≤ e.1 ∧ e.1 < tasks ∧ isW e.2.2.2 = true ∧ ((e.2.1 = 1 ∨ e.2.1 = 2) ∧ 0 ≤ e.2.2.1 ∧ e.2.2.1 < boxes ∨ e.2.1 = 3 ∧ e.2.2.1 = 0)
theorem evW_ok {w : Wd} (hv : vaWd w = true) : ∀ e ∈ evW w, evOk w.tasks.length w.boxes.length e := by
  obtain ⟨h1, h2, h3, h4⟩ := vaWd_iff.1 hv
  obtain ⟨t, ht⟩ : ∃ t, w.tasks[w.turn.toNat]? = some t := ⟨_, List.getElem?_eq_getElem (by omega)⟩
  have e1 : evW w = evL w.turn (evS t w.boxes) := by unfold evW; rw [ht]
  rw [e1]
  have hva := h4 t (List.mem_of_getElem? ht)
  obtain ⟨f1, f2, f3, f4⟩ := vaT_facts hva
  unfold evS
  cases hr : t.rest.list with
  | nil => simp [evL]
  | cons s r =>
    have hok := (vaS_one ((vaT_iff.1 hva).2.2 s (by rw [hr]; exact List.mem_cons_self))).1
    obtain ⟨hk17, hoe, _, hb, _⟩ := okT_facts hok
    have hw : s.k ≠ 5 → s.k ≠ 6 → isW (evE t.vars s.e) = true := fun a b => evE_word f2 s.e.args (d := 5) (op := s.e.op) (n := s.e.n) (hoe a b)
    simp only
    by_cases k4 : s.k = 4
    · rw [if_pos k4]
      cases hbx : w.boxes[s.b.toNat]? with
      | none => simp [evL]
      | some bx =>
        have hbl := (List.getElem?_eq_some_iff.1 hbx).1
        simp only
        split
        · simp only [evL, List.mem_singleton]
          rintro e rfl
          exact ⟨by simp only; omega, by simp only; omega, hw (by omega) (by omega), .inl ⟨.inl rfl, by have := (hb (.inl k4)); simp only; omega, by have := (hb (.inl k4)); simp only; omega⟩⟩
        · simp [evL]
    by_cases k5 : s.k = 5
    · rw [if_neg k4, if_pos k5]
      cases hbx : w.boxes[s.b.toNat]? with
      | none => simp [evL]
      | some bx =>
        have hbl := (List.getElem?_eq_some_iff.1 hbx).1
        simp only
        cases hit : bx.items with
        | nil => simp [evL]
        | cons y q =>
          simp only [evL, List.mem_singleton]
          rintro e rfl
          have hvb := (vaBs_facts h3).2 bx (List.mem_of_getElem? hbx)
          refine ⟨by simp only; omega, by simp only; omega, ?_, .inl ⟨.inr rfl, by have := (hb (.inr k5)); simp only; omega, by have := (hb (.inr k5)); simp only; omega⟩⟩
          have h5 := h3
          unfold vaBs at h5
          simp only [Bool.and_eq_true] at h5
          have h6 := List.all_eq_true.1 h5.1 bx (List.mem_of_getElem? hbx)
          unfold vaB at h6
          simp only [Bool.and_eq_true] at h6
          exact List.all_eq_true.1 h6.2 y (by rw [hit]; exact List.mem_cons_self)
    · rw [if_neg k4, if_neg k5]
      by_cases k7 : s.k = 7
      · rw [if_pos k7]
        simp only [evL, List.mem_singleton]
        rintro e rfl
        exact ⟨by simp only; omega, by simp only; omega, hw (by omega) (by omega), .inr ⟨rfl, rfl⟩⟩
      · rw [if_neg k7]; simp [evL]
theorem trW_ok (n : Nat) : ∀ {w : Wd} (hv : vaWd w = true), ∀ e ∈ trW n w, evOk w.tasks.length w.boxes.length e := by
  induction n with
  | zero => intro w hv e he; simp [trW] at he
  | succ n ih =>
    intro w hv e he
    by_cases h : w.idle < w.tasks.length
    · rw [trW_succ h] at he
      rcases List.mem_append.1 he with q | q
      · exact evW_ok hv e q
      · have hk := stepW_keeps hv h
        have := ih hk.1 e q
        rwa [hk.2.1, hk.2.2.1] at this
    · rw [trW_rest h] at he; simp at he
end Go.Proofs.Ytmecbehegmgbhaa.AM
namespace Go.Proofs.Ytmecbehegmgbhaa.AM
set_option linter.unusedSimpArgs false
set_option linter.unusedVariables false
set_option maxRecDepth 100000
set_option maxHeartbeats 2000000
open Go
attribute [-simp] AM.elems
structure Oc where
  out : List Int
  items : List (List Int)
  ended : List Bool
  rest : Bool
deriving DecidableEq, Inhabited
/-- A list of words in one cell. -/
def LIc (ok : Nat → Prop) (H : AH) (c : List AV) (x : List Int) : Prop := ∃ v, c = [v] ∧ IV ok H v x
theorem LIc.mono {ok ok' : Nat → Prop} {H H' c f} (h : LIc ok H c f) (hn : H.n ≤ H'.n) (hk : ∀ b, ok b → b < H.n → H'.bk b = H.bk b) (ho : ∀ b, ok b → b < H.n → ok' b) : LIc ok' H' c f := by
  obtain ⟨v, e, h⟩ := h; exact ⟨v, e, h.mono hn hk ho⟩
def LIV (ok : Nat → Prop) (H : AH) (v : AV) (l : List (List Int)) : Prop := ∃ ca, SlC ok H v l.length 1 ca ∧ LF 1 (LIc ok H) l ca
theorem LIV.mono {ok ok' : Nat → Prop} {H H' v l} (h : LIV ok H v l) (hn : H.n ≤ H'.n) (hk : ∀ b, ok b → b < H.n → H'.bk b = H.bk b) (ho : ∀ b, ok b → b < H.n → ok' b) : LIV ok' H' v l := by
  obtain ⟨ca, h1, h2⟩ := h
  exact ⟨ca, h1.mono hn hk ho, h2.imp fun c a h => h.mono hn hk ho⟩
theorem LIV.ext {ok H H' c t} (h : LIV ok H c t) (k : Ext H H') : LIV ok H' c t := h.mono k.1 (fun b _ hb => k.2 b hb) (fun _ h _ => h)
theorem LIV.alen {ok H v l} (h : LIV ok H v l) : alen v = some l.length := h.choose_spec.1.alen
theorem LIV.at {ok H v l} (h : LIV ok H v l) {i : Nat} {f : List Int} (hi : l[i]? = some f) : ∃ b o cap u, v = .sl b o l.length cap ∧ b < H.n ∧ H.load b (o + i) = some u ∧ IV ok H u f := by
  obtain ⟨ca, h1, h2⟩ := h
  have hl := (List.getElem?_eq_some_iff.1 hi).1
  obtain ⟨b, o, cap, e, ob, hb, hs⟩ := h1.at hl
  obtain ⟨c, hc, u, rfl, i1⟩ := h2.get hi
  have hh := hs i 1 (by omega)
  rw [Nat.mul_one] at hc
  rw [hc] at hh
  have := loadN_get hh (i := 0) (by omega)
  exact ⟨b, o, cap, u, e, hb, by simpa using this, i1⟩
def Bls (l : List Bool) : List AV := l.map .b
def FlV (ok : Nat → Prop) (H : AH) (v : AV) (l : List Bool) : Prop := SlC ok H v l.length 1 (Bls l)
theorem FlV.mono {ok ok' : Nat → Prop} {H H' v l} (h : FlV ok H v l) (hn : H.n ≤ H'.n) (hk : ∀ b, ok b → b < H.n → H'.bk b = H.bk b) (ho : ∀ b, ok b → b < H.n → ok' b) : FlV ok' H' v l := SlC.mono h hn hk ho
theorem FlV.ext {ok H H' v l} (h : FlV ok H v l) (k : Ext H H') : FlV ok H' v l := h.mono k.1 (fun b _ hb => k.2 b hb) (fun _ h _ => h)
theorem FlV.alen {ok H v l} (h : FlV ok H v l) : alen v = some l.length := SlC.alen h
theorem FlV.at {ok H v l} (h : FlV ok H v l) {i : Nat} {x : Bool} (hi : l[i]? = some x) : ∃ b o cap, v = .sl b o l.length cap ∧ b < H.n ∧ H.load b (o + i) = some (.b x) := by
  have hl := (List.getElem?_eq_some_iff.1 hi).1
  obtain ⟨b, o, cap, e, ob, hb, hs⟩ := SlC.at h hl
  have hh := hs i 1 (by omega)
  have h2 : seg (Bls l) i 1 = some [.b x] := by
    unfold seg
    rw [if_pos (by simp [Bls]; omega)]
    congr 1
    have hl2 : i < (Bls l).length := by simp [Bls]; omega
    have hx : (Bls l)[i] = .b x := by
      have h3 := List.getElem?_eq_getElem hl2
      have h4 : (Bls l)[i]? = some (.b x) := by simp [Bls, hi]
      rw [h4] at h3; exact (Option.some.inj h3).symm
    rw [List.drop_eq_getElem_cons hl2, hx]; rfl
  rw [h2] at hh
  have := loadN_get hh (i := 0) (by omega)
  exact ⟨b, o, cap, e, hb, by simpa using this⟩
def OC (ok : Nat → Prop) (H : AH) (c : List AV) (o : Oc) : Prop := ∃ v1 v2 v3, c = [v1, v2, v3, .b o.rest] ∧ IV ok H v1 o.out ∧ LIV ok H v2 o.items ∧ FlV ok H v3 o.ended
theorem OC.mono {ok ok' : Nat → Prop} {H H' c t} (h : OC ok H c t) (hn : H.n ≤ H'.n) (hk : ∀ b, ok b → b < H.n → H'.bk b = H.bk b) (ho : ∀ b, ok b → b < H.n → ok' b) : OC ok' H' c t := by
  obtain ⟨v1, v2, v3, e, h1, h2, h3⟩ := h
  exact ⟨v1, v2, v3, e, h1.mono hn hk ho, h2.mono hn hk ho, h3.mono hn hk ho⟩
theorem OC.ext {ok H H' c t} (h : OC ok H c t) (k : Ext H H') : OC ok H' c t := h.mono k.1 (fun b _ hb => k.2 b hb) (fun _ h _ => h)
/-- What can be seen of a world. -/
def outW (w : Wd) : Oc := ⟨w.out, w.boxes.map (·.items), w.tasks.map (fun t => decide (t.rest.list.length = 0)), decide (w.idle = w.tasks.length)⟩
theorem store_push4 {H : AH} {a b c d x y z u : AV} : (H.push [a, b, c, d]).store H.n 0 [x, y, z, u] = some (H.push [x, y, z, u]) := by
  rw [store_bk push_new (by simp), push_put]
  rfl
theorem K_ioutcomeOf_l {l : List Bx} (hll : l.length ≤ 1000) (hit : ∀ x ∈ l, x.items.length ≤ 1000) {base P6 P7 : Nat} (h7 : P7 < base) {vb v1 : AV} {rest : Bool} {Q : Out → Env → AH → Prop} (m i : Nat) (hm : i + m = l.length) {G : AH} {g : AV} {cs : List AV} {B : Nat} (hb : base ≤ G.n)
    (hv : BV (fun b => b < P7) G vb l) (g7 : G.bk P7 = some ⟨[v1, g, .nils, .b rest], true⟩) (hg : GrS base G g i 1 cs B) (he : LF 1 (LIc (fun b => base ≤ b ∧ b ≠ B) G) ((l.take i).map (·.items)) cs)
    (hQ : ∀ e G' g' cs' B', GrS base G' g' l.length 1 cs' B' → LF 1 (LIc (fun b => base ≤ b ∧ b ≠ B') G') (l.map (·.items)) cs' → G'.bk P7 = some ⟨[v1, g', .nils, .b rest], true⟩ → (∀ b, b < base → b ≠ P7 → G'.bk b = G.bk b) → G.n ≤ G'.n → get e 6 = some (.ptr P6 0) → get e 7 = some (.ptr P7 0) → Q (.brk 0) e G') :
    W Cd (.loop c_ioutcomeOf_l0) [(6, .ptr P6 0), (7, .ptr P7 0), (14, vb), (15, .I l.length), (16, .I i)] G Q := by
  induction m generalizing i G g cs B with
  | zero =>
    rw [W_loop_as c_ioutcomeOf_l0.eq_1]
    have : i = l.length := by omega
    subst this
    simp
    rw [List.take_length] at he
    exact hQ _ G g cs B hg he g7 (fun _ _ _ => rfl) (Nat.le_refl _) rfl rfl
  | succ m ih =>
    rw [W_loop_as c_ioutcomeOf_l0.eq_1]
    have hlt : i < l.length := by omega
    have hlt' : (i : Int) < l.length := by omega
    obtain ⟨x, hx⟩ : ∃ x, l[i]? = some x := ⟨_, List.getElem?_eq_getElem hlt⟩
    obtain ⟨b, o, cap, vi, e1, ob, hbn, l1, iv⟩ := hv.at hx
    have hv0 := hv
    subst e1
    have st : (G.push [.I 0, .nils]).store G.n 0 [.I x.room, vi] = some (G.push [.I x.room, vi]) := store_push2e
    have x1 := Ext.push G [.I x.room, vi]
    have q1 : (G.push [.I x.room, vi]).bk G.n = some ⟨[.I x.room, vi], true⟩ := push_new
    have g71 := (x1.2 P7 (by omega)).trans g7
    simp (disch := omega) [hlt', l1, st, load_bk g71, load_bk q1]
    refine K_cloneG (iv.ext x1).src (by have := hit x (List.mem_of_getElem? hx); omega) fun v' H2 B3 g3 x2 => ?_
    have x3 := (x1.trans x2).trans (Ext.push H2 [v'])
    have n3 := x2.1
    simp only [push_n] at n3
    obtain ⟨g', G', B', a1, a2, a3, a4, a5, a6⟩ := LF.snoc (E := LIc) (l := l.map (·.items)) (x := x.items) (i := i) (fun h => h.mono) (by rw [List.getElem?_map, hx]; rfl) hg (by rw [← List.map_take]; exact he) hb x3 (c := [v']) rfl ⟨v', rfl, (g3.iv.ext (Ext.push H2 [v'])).mono (Nat.le_refl _) (fun _ _ _ => rfl) (fun b hb _ => by simp at hb; omega)⟩ (by omega)
    have kk : ∀ b, b < base → G'.bk b = G.bk b := fun b hb2 => (a4 b hb2)
    have g7' := (kk P7 h7).trans g7
    have st2 := store_cell (v := g') g7' (o := 1) (by simp)
    simp only [List.set_cons_succ, List.set_cons_zero] at st2
    have f3 := g3.flat
    simp only [push_n] at a5
    simp (disch := omega) [x2, flat_cells f3, flat_tup f3, AM.elems, loadN_push, a1, flat_cells a6, flat_tup a6, st2]
    rw [← List.map_take] at a3
    have := ih (i + 1) (by omega) (G := G'.put P7 (some ⟨[v1, g', .nils, .b rest], true⟩)) (g := g') (cs := cs ++ [v']) (B := B') (by simp; omega)
      (hv0.mono (by simp; omega) (fun b hb _ => by rw [put_bk, if_neg (by omega), kk b (by omega)]) (fun _ h _ => h)) put_same
      (a2.keep1 (by simp) (fun hb1 _ => by rw [put_bk, if_neg (by omega)]))
      (a3.imp fun c a h => h.mono (by simp) (fun b hb _ => by rw [put_bk, if_neg (by omega)]) (fun _ h _ => h))
      (fun e G2 g2 c2 B2 z1 z2 z3 z4 z5 z6 z7 => hQ e G2 g2 c2 B2 z1 z2 z3 (fun b hb h2 => by rw [z4 b hb h2, put_bk, if_neg h2, kk b hb]) (by simp at z5; omega) z6 z7)
    simpa using this
section
variable {ok : Nat → Prop} {H : AH} {K : AV → AH → Prop} {wf : Fk K}
theorem K_ioutcomeOf {l : List Bx} (hll : l.length ≤ 1000) (hit : ∀ x ∈ l, x.items.length ≤ 1000) {vo vb : AV} {out : List Int} {rest : Bool} (h1 : IV ok H vo out) (hol : out.length ≤ 1000000) (h2 : BV ok H vb l)
    (k : ∀ v1 v2 H', IV (fun b => H.n ≤ b) H' v1 out → LIV (fun b => H.n ≤ b) H' v2 (l.map (·.items)) → v1.flat = true → v2.flat = true → Ext H H' → K (.agg [v1, v2, .nils, .b rest]) H') : CallF Cd f_ioutcomeOf [vo, vb, .b rest] H K wf := by
  rw [CallF_eq e_ioutcomeOf rfl]
  have x0 := Ext.push H [.nils, .nils, .nils, .b false]
  simp
  refine K_cloneG (h1.ext x0).src hol fun v1 H1 B g x1 => ?_
  have n1 := x1.1
  simp only [push_n] at n1
  have f1 := g.flat
  have y1 := x0.trans x1
  have qR := (x1.2 H.n (by simp)).trans (push_new (H := H) (cs := [.nils, .nils, .nils, .b false]))
  have x2 := Ext.push H1 [v1, .nils, .nils, .b rest]
  simp [x1, flat_cells f1, flat_tup f1, store_push4, h2.alen]
  have := K_ioutcomeOf_l (l := l) hll hit (base := H1.n + 1) (P6 := H.n) (P7 := H1.n) (by omega) (vb := vb) (v1 := v1) (rest := rest) (Q := ?_) l.length 0 (by omega) (G := H1.push [v1, .nils, .nils, .b rest]) (g := .nils) (cs := []) (B := 0) (by simp)
    ((h2.mono (ok' := fun b => b < H.n) (Nat.le_refl _) (fun _ _ _ => rfl) (fun b _ hb => hb)).mono (by simp; omega) (fun b hb _ => (y1.trans x2).2 b hb) (fun b hb _ => by omega)) push_new GrS.nils rfl ?_
  · simpa using this
  · intro e G g2 cs B2 z1 z2 z3 z4 z5 z6 z7
    simp only [push_n] at z5
    have qR2 := (z4 H.n (by omega) (by omega)).trans ((x2.2 _ (by omega)).trans qR)
    have f2 := z1.flat
    have st : G.store H.n 0 [v1, g2, .nils, .b rest] = some (G.put H.n (some ⟨[v1, g2, .nils, .b rest], true⟩)) := store_bk qR2 (by simp)
    simp [z6, z7, loadN_bk z3, st, loadN_bk put_same]
    have hk : ∀ b, b ≠ H.n → (G.put H.n (some ⟨[v1, g2, .nils, .b rest], true⟩)).bk b = G.bk b := fun b hb => by rw [put_bk, if_neg hb]
    have hl2 : (l.map (·.items)).length = l.length := by simp
    refine k v1 g2 _ (g.iv.mono (by simp; omega) (fun b hb hb2 => by simp only [push_n] at hb; rw [hk b (by omega), z4 b (by omega) (by omega), x2.2 b hb2]) (fun b hb _ => by simp at hb; omega)) ⟨cs, by rw [hl2]; exact z1.slc.mono (by simp) (fun b hb _ => hk b (by omega)) (fun b hb _ => by omega), z2.imp fun c a h => h.mono (by simp) (fun b hb _ => hk b (by omega)) (fun b hb _ => by omega)⟩ f1 f2 ⟨by simp; omega, fun b hb => by rw [hk b (by omega), z4 b (by omega) (by omega), x2.2 b (by omega)]; exact y1.2 b hb⟩
end
theorem K_iWorldOutcome_l {l : List Tk} (hll : l.length ≤ 1000) {base P2 P3 : Nat} (h3 : P3 < base) {vt v1 v2 : AV} {rest : Bool} {Q : Out → Env → AH → Prop} (m i : Nat) (hm : i + m = l.length) {G : AH} {g : AV} {B : Nat} (hb : base ≤ G.n)
    (hv : TV (fun b => b < P3) G vt l) (g3 : G.bk P3 = some ⟨[v1, v2, g, .b rest], true⟩) (hg : GrS base G g i 1 (Bls ((l.take i).map fun t => decide (t.rest.list.length = 0))) B)
    (hQ : ∀ e G' g' B', GrS base G' g' l.length 1 (Bls (l.map fun t => decide (t.rest.list.length = 0))) B' → G'.bk P3 = some ⟨[v1, v2, g', .b rest], true⟩ → (∀ b, b < base → b ≠ P3 → G'.bk b = G.bk b) → G.n ≤ G'.n → get e 2 = some (.ptr P2 0) → get e 3 = some (.ptr P3 0) → Q (.brk 0) e G') :
    W Cd (.loop c_iWorldOutcome_l0) [(2, .ptr P2 0), (3, .ptr P3 0), (22, vt), (23, .I l.length), (24, .I i)] G Q := by
  induction m generalizing i G g B with
  | zero =>
    rw [W_loop_as c_iWorldOutcome_l0.eq_1]
    have : i = l.length := by omega
    subst this
    simp
    rw [List.take_length] at hg
    exact hQ _ G g B hg g3 (fun _ _ _ => rfl) (Nat.le_refl _) rfl rfl
  | succ m ih =>
    rw [W_loop_as c_iWorldOutcome_l0.eq_1]
    have hlt : i < l.length := by omega
    have hlt' : (i : Int) < l.length := by omega
    obtain ⟨x, hx⟩ : ∃ x, l[i]? = some x := ⟨_, List.getElem?_eq_getElem hlt⟩
    obtain ⟨b, o, cap, vv, vr, e1, ob, hbn, l1, iv, sv⟩ := hv.at hx
    have hv0 := hv
    subst e1
    have st : (G.push [.nils, .nils]).store G.n 0 [vv, vr] = some (G.push [vv, vr]) := store_push2e
    have x1 := Ext.push G [vv, vr]
    have q1 : (G.push [vv, vr]).bk G.n = some ⟨[vv, vr], true⟩ := push_new
    have g31 := (x1.2 P3 (by omega)).trans g3
    obtain ⟨D, hD⟩ : ∃ D : Bool, D = decide (x.rest.list.length = 0) := ⟨_, rfl⟩
    have hD' : decide (x.rest.list = []) = D := by rw [hD]; simp
    have htk : l.take (i + 1) = l.take i ++ [x] := by rw [List.take_add_one, hx]; rfl
    obtain ⟨g', G', B', a1, a2, a3, a4⟩ := ((hg.ext x1).ext (Ext.push _ [.b D])).app (k := 1) (new := [.b D]) (by simp; omega) rfl (by omega)
    have hgm : ∀ b, b ∈ grB g B → b = B ∧ base ≤ B ∧ B < G.n := fun b hb => hg.mem hb
    have n4 := a4.1
    simp only [push_n] at n4
    have kk : ∀ b, b < base → G'.bk b = G.bk b := fun b hb2 => by
      rw [a4.2 b (by simp; omega) (fun hq => by have := hgm b hq; omega), push_old (by simp; omega) rfl, x1.2 b (by omega)]
    have e8 : Bls ((l.take i).map fun t => decide (t.rest.list.length = 0)) ++ [.b D] = Bls ((l.take (i + 1)).map fun t => decide (t.rest.list.length = 0)) := by rw [htk, hD]; simp [Bls]
    rw [e8] at a2
    have g3' := (kk P3 h3).trans g3
    have st2 := store_cell (v := g') g3' (o := 2) (by simp)
    simp only [List.set_cons_succ, List.set_cons_zero] at st2
    have f4 := a2.flat
    simp (disch := omega) [hlt', l1, st, load_bk g31, load_bk q1, sv.alen, hD', AM.elems, loadN_push, a1, flat_cells f4, flat_tup f4, st2]
    have := ih (i + 1) (by omega) (G := G'.put P3 (some ⟨[v1, v2, g', .b rest], true⟩)) (g := g') (B := B') (by simp; omega)
      (hv0.mono (by simp; omega) (fun b hb _ => by rw [put_bk, if_neg (by omega), kk b (by omega)]) (fun _ h _ => h)) put_same
      (a2.keep1 (by simp) (fun hb1 _ => by rw [put_bk, if_neg (by omega)]))
      (fun e G2 g2 B2 z1 z3 z4 z5 z6 z7 => hQ e G2 g2 B2 z1 z3 (fun b hb h2 => by rw [z4 b hb h2, put_bk, if_neg h2, kk b hb]) (by simp at z5; omega) z6 z7)
    simpa using this
section
variable {ok : Nat → Prop} {H : AH} {K : AV → AH → Prop} {wf : Fk K} {c : List AV} {w : Wd}
theorem K_iWorldOutcome (h : WC ok H c w) (hct : ∀ t ∈ w.tasks, ctS t.rest ≤ 100000) (hv : vaWd w = true) (hol : w.out.length ≤ 1000000)
    (k : ∀ c' H', OC (fun b => H.n ≤ b) H' c' (outW w) → Ext H H' → K (.agg c') H') : CallF Cd f_iWorldOutcome [.agg c] H K wf := by
  have h' := h
  obtain ⟨vt, vb, vo, rfl, h1, h2, h3⟩ := h'
  rw [CallF_eq e_iWorldOutcome rfl]
  obtain ⟨g1, g2, g3, g4⟩ := vaWd_iff.1 hv
  have hb3 := vaBs_facts g3
  have x0 := (Ext.push H [vt, vb, .I w.turn, .I w.idle, vo]).trans (Ext.push _ [.nils, .nils, .nils, .b false])
  have q0 : ((H.push [vt, vb, .I w.turn, .I w.idle, vo]).push [.nils, .nils, .nils, .b false]).bk H.n = some ⟨[vt, vb, .I w.turn, .I w.idle, vo], true⟩ := push_old (by simp) push_new
  simp [loadN_bk q0]
  refine K_iWorldValid (h.ext x0) hct (by omega) fun H1 x1 => ?_
  have n1 := x1.1
  simp only [push_n] at n1
  have y1 := x0.trans x1
  have q1 := (x1.2 H.n (by simp <;> omega)).trans q0
  have qR1 : H1.bk (H.n + 1) = some ⟨[.nils, .nils, .nils, .b false], true⟩ := (x1.2 _ (by simp)).trans push_new
  rw [hv]
  simp [load_bk q1, h1.alen]
  have hre : decide (w.idle = (w.tasks.length : Int)) = (outW w).rest := rfl
  rw [hre]
  refine K_ioutcomeOf (by omega) (fun x hx => by have := hb3.2 x hx; omega) (h3.ext y1) hol (h2.ext y1) fun v1 v2 H2 i1 i2 f1 f2 x2 => ?_
  have n2 := x2.1
  have x3 := Ext.push H2 [v1, v2, .nils, .b (outW w).rest]
  have q2 := (x3.2 H.n (by omega)).trans ((x2.2 _ (by omega)).trans q1)
  have y3 := (y1.trans x2).trans x3
  simp [x2, flat_cells f1, flat_tup f1, flat_cells f2, flat_tup f2, store_push4, load_bk q2, h1.alen]
  have := K_iWorldOutcome_l (l := w.tasks) (by omega) (base := H2.n + 1) (P2 := H.n + 1) (P3 := H2.n) (by omega) (vt := vt) (v1 := v1) (v2 := v2) (rest := (outW w).rest) (Q := ?_) w.tasks.length 0 (by omega) (G := H2.push [v1, v2, .nils, .b (outW w).rest]) (g := .nils) (B := 0) (by simp)
    ((h1.mono (ok' := fun b => b < H.n) (Nat.le_refl _) (fun _ _ _ => rfl) (fun b _ hb => hb)).mono (by simp; omega) (fun b hb _ => y3.2 b hb) (fun b hb _ => by omega)) push_new GrS.nils ?_
  · simpa using this
  · intro e G g B2 z1 z3 z4 z5 z6 z7
    simp only [push_n] at z5
    have qR2 := (z4 (H.n + 1) (by omega) (by omega)).trans ((x3.2 _ (by omega)).trans ((x2.2 _ (by omega)).trans qR1))
    have fg := z1.flat
    have st : G.store (H.n + 1) 0 [v1, v2, g, .b (outW w).rest] = some (G.put (H.n + 1) (some ⟨[v1, v2, g, .b (outW w).rest], true⟩)) := store_bk qR2 (by simp)
    simp [z6, z7, loadN_bk z3, st, loadN_bk put_same]
    have hk : ∀ b, b ≠ H.n + 1 → (G.put (H.n + 1) (some ⟨[v1, v2, g, .b (outW w).rest], true⟩)).bk b = G.bk b := fun b hb => by rw [put_bk, if_neg hb]
    have hkk : ∀ b, H1.n ≤ b → b < H2.n → (G.put (H.n + 1) (some ⟨[v1, v2, g, .b (outW w).rest], true⟩)).bk b = H2.bk b := fun b hb hb2 => by rw [hk b (by omega), z4 b (by omega) (by omega), x3.2 b hb2]
    have hl2 : (outW w).ended.length = w.tasks.length := by simp [outW]
    refine k _ _ ⟨v1, v2, g, rfl, i1.mono (by simp; omega) hkk (fun b hb _ => by omega), i2.mono (by simp; omega) hkk (fun b hb _ => by omega), ?_⟩ ⟨by simp; omega, fun b hb => by rw [hk b (by omega), z4 b (by omega) (by omega), x3.2 b (by omega), x2.2 b (by omega)]; exact y1.2 b hb⟩
    unfold FlV
    rw [hl2]
    exact z1.slc.mono (by simp) (fun b hb _ => hk b (by omega)) (fun b hb _ => by omega)
end
/-- What a program comes to. -/
theorem K_wrestOf {ok : Nat → Prop} {H : AH} {K : AV → AH → Prop} {wf : Fk K} {c : List AV} {p : Pg} {n : Int} (h : PgC ok H c p) (hv : vaPg p = true) (hn : 0 ≤ n ∧ n ≤ 100000)
    (k : ∀ c' H', OC (fun b => H.n ≤ b) H' c' (outW (runW n.toNat (newW p))) → Ext H H' → K (.agg c') H') : CallF Cd f_wrestOf [.agg c, .I n] H K wf := by
  have h' := h
  obtain ⟨vr, vt, rfl, h1, h2⟩ := h'
  rw [CallF_eq e_wrestOf rfl]
  obtain ⟨hva, bo, bx⟩ := newW_bo hv
  have hct : ∀ f ∈ p.tasks, ctS f ≤ 100000 := fun f hf => by
    unfold vaPg at hv
    simp only [Bool.and_eq_true, List.all_eq_true] at hv
    have := hv.2 f hf
    unfold vaF vaS at this
    simp only [Bool.and_eq_true, decide_eq_true_eq] at this
    omega
  have x0 := (Ext.push H [vr, vt]).trans (Ext.push _ [.nils, .nils, .nils, .b false])
  have q0 : ((H.push [vr, vt]).push [.nils, .nils, .nils, .b false]).bk H.n = some ⟨[vr, vt], true⟩ := push_old (by simp) push_new
  have z0 : ((H.push [vr, vt]).push [.nils, .nils, .nils, .b false]).bk (H.n + 1) = some ⟨[.nils, .nils, .nils, .b false], true⟩ := push_new (H := H.push [vr, vt])
  simp [loadN_bk q0]
  refine K_iWorldNew (h.ext x0) hct fun c2 H2 wc2 x2 => ?_
  rw [hv, if_pos rfl] at wc2
  rw [hv]
  obtain ⟨vt2, vb2, vo2, rfl, _, _, _⟩ := id wc2
  have n2 := x2.1
  simp only [push_n] at n2
  have x3 := Ext.push H2 [vt2, vb2, .I (newW p).turn, .I (newW p).idle, vo2]
  have y3 := (x0.trans x2).trans x3
  simp [store_push5e, loadN_push]
  have e1 : runF n (newW p) = (runW n.toNat (newW p), true) := by
    unfold runF; rw [if_pos ⟨hva, hn⟩]
  have bo2 := bo.2
  refine K_iWorldRun (wc2.ext x3) bo.ct (by omega) (fun _ => ⟨bo.1, by omega⟩) (by omega) fun c5 H8 wc8 x8 => ?_
  rw [e1] at wc8 ⊢
  simp only at wc8
  have hk := runW_keeps n.toNat hva
  have bo8 := boW.run (n := n.toNat) (m := 700000) (bo.le (by omega)) hva
  have bo82 := bo8.2
  obtain ⟨vt5, vb5, vo5, rfl, _, _, _⟩ := id wc8
  have n8 := x8.1
  simp only [push_n] at n8
  have x9 := Ext.push H8 [vt5, vb5, .I (runW n.toNat (newW p)).turn, .I (runW n.toNat (newW p)).idle, vo5]
  have y9 := (x3.trans x8).trans x9
  simp [store_push5e, loadN_push]
  refine K_iWorldOutcome (wc8.ext x9) bo8.ct hk.1 (by omega) fun c9 Ha oc xa => ?_
  have na := xa.1
  simp only [push_n] at na
  have ya := y9.trans xa
  have za : Ha.bk (H.n + 1) = some ⟨[.nils, .nils, .nils, .b false], true⟩ := (ya.2 _ (by omega)).trans ((x2.2 _ (by simp)).trans z0)
  obtain ⟨v1, v2, v3, rfl, _, _, _⟩ := id oc
  have st : Ha.store (H.n + 1) 0 [v1, v2, v3, .b (outW (runW n.toNat (newW p))).rest] = some (Ha.put (H.n + 1) (some ⟨[v1, v2, v3, .b (outW (runW n.toNat (newW p))).rest], true⟩)) := store_bk za (by simp)
  simp [st, loadN_bk put_same]
  have hk2 : ∀ b, b ≠ H.n + 1 → (Ha.put (H.n + 1) (some ⟨[v1, v2, v3, .b (outW (runW n.toNat (newW p))).rest], true⟩)).bk b = Ha.bk b := fun b hb => by rw [put_bk, if_neg hb]
  exact k _ _ (oc.mono (by simp) (fun b hb _ => hk2 b (by simp at hb; omega)) (fun b hb _ => by simp at hb; omega)) (((x0.trans x2).trans ya).put (by omega))
end Go.Proofs.Ytmecbehegmgbhaa.AM
namespace Go.Proofs.Ytmecbehegmgbhaa.AM
set_option linter.unusedSimpArgs false
set_option linter.unusedVariables false
set_option maxRecDepth 100000
set_option maxHeartbeats 2000000
open Go
attribute [-simp] AM.elems
theorem boxes_len {p : Pg} : (newW p).boxes.length = p.rooms.length := by simp [newW]
theorem alone_ended {p : Pg} {n : Nat} (hv : vaPg p = true) (hr : (outW (runW n (newW p))).rest = true) (h0 : p.rooms.length = 0) : ∀ x ∈ (outW (runW n (newW p))).ended, x = true := by
  have hva := (newW_bo hv).1
  have hk := runW_keeps n hva
  obtain ⟨g1, g2, g3, g4⟩ := vaWd_iff.1 hk.1
  have hi : ¬ (runW n (newW p)).idle < (runW n (newW p)).tasks.length := by
    simp only [outW, decide_eq_true_eq] at hr; omega
  have hst := stillW hv hi
  have hb0 : (runW n (newW p)).boxes.length = 0 := by rw [hk.2.2.1, boxes_len, h0]
  intro x hx
  simp only [outW, List.mem_map] at hx
  obtain ⟨t, ht, rfl⟩ := hx
  have h4 := g4 t ht
  have hs := hst t ht
  cases hr2 : t.rest.list with
  | nil => simp
  | cons s r =>
    exfalso
    have hok := (vaS_one ((vaT_iff.1 h4).2.2 s (by rw [hr2]; exact List.mem_cons_self))).1
    have hb := (okT_facts hok).2.2.2.1
    have k45 : ¬ (s.k = 4 ∨ s.k = 5) := fun h => by have := hb h; rw [hb0] at this; omega
    unfold stillT stepP at hs
    rw [hr2] at hs
    simp only at hs
    rw [if_neg k45] at hs
    split at hs
    · simp at hs
    · split at hs
      · simp at hs
      · split at hs <;> simp at hs
end Go.Proofs.Ytmecbehegmgbhaa.AM
namespace Go.Proofs.Ytmecbehegmgbhaa.AM
set_option linter.unusedSimpArgs false
set_option linter.unusedVariables false
set_option maxRecDepth 100000
set_option maxHeartbeats 2000000
open Go
attribute [-simp] AM.elems
theorem sumTake {α : Type} {l : List α} {g : α → Nat} {i : Nat} {s : α} (h : l[i]? = some s) : ((l.take (i + 1)).map g).sum = ((l.take i).map g).sum + g s := by
  rw [List.take_add_one, h]; simp
theorem sumTake_le {α : Type} {l : List α} {g : α → Nat} {i : Nat} : ((l.take i).map g).sum ≤ (l.map g).sum := by
  conv => rhs; rw [← List.take_append_drop i l, List.map_append, List.sum_append]
  omega
def lpS : Sts → Bool
  | .nil => false
  | .cons k v b e y z r => (decide (k = 3) || lpS y || lpS z) || lpS r
def lpT (s : St1) : Bool := decide (s.k = 3) || lpS s.body || lpS s.els
theorem lpS_mem : ∀ {f : Sts}, lpS f = f.list.any lpT
  | .nil => rfl
  | .cons k v b e y z r => by simp only [lpS, Sts.list, List.any_cons, lpS_mem (f := r)]; rfl
section
variable {ok : Nat → Prop} {H : AH} {K : AV → AH → Prop} {w : Fk K} {c : List AV} {p : Pg}
def sizeP (p : Pg) : Nat := (p.tasks.map ctS).sum
end
end Go.Proofs.Ytmecbehegmgbhaa.AM
namespace Go.Proofs.Ytmecbehegmgbhaa.AM
set_option linter.unusedSimpArgs false
set_option linter.unusedVariables false
set_option maxRecDepth 100000
set_option maxHeartbeats 2000000
open Go
attribute [-simp] AM.elems
theorem sum_map_le {α : Type} {l : List α} {g : α → Nat} {c : Nat} (h : ∀ x ∈ l, g x ≤ c) : (l.map g).sum ≤ c * l.length := by
  induction l with
  | nil => simp
  | cons a l ih =>
    have h1 := h a List.mem_cons_self
    have h2 := ih (fun x hx => h x (List.mem_cons_of_mem _ hx))
    rw [List.map_cons, List.sum_cons, List.length_cons, Nat.mul_succ]; omega
theorem lpS_of {l : List St1} : lpS (Sts.of l) = l.any lpT := by rw [lpS_mem, Sts.list_of]
/-- A step without loops leaves less to do, or nothing happens. -/
theorem step_work {t : Tk} {bs : List Bx} (hp : lpS t.rest = false) : stillT t bs ∨ (ctS (stepP t bs).1.rest + 1 ≤ ctS t.rest ∧ lpS (stepP t bs).1.rest = false) := by
  unfold stillT stepP
  cases hr : t.rest.list with
  | nil => simp
  | cons s r =>
    simp only
    rw [lpS_mem, hr, List.any_cons, Bool.or_eq_false_iff] at hp
    obtain ⟨hp1, hp2⟩ := hp
    have hct : ctS t.rest = ctT s + (r.map ctT).sum := by rw [ctS_sum, hr]; simp
    have hcs : ctT s = 1 + ctS s.body + ctS s.els := rfl
    have hr1 : ctS (Sts.of r) + 1 ≤ ctS t.rest ∧ lpS (Sts.of r) = false := by
      rw [ctS_of, lpS_of]; exact ⟨by omega, hp2⟩
    by_cases k45 : s.k = 4 ∨ s.k = 5
    · simp only [if_pos k45]
      unfold talkP
      split
      · simp
      · split
        · split
          · exact .inr hr1
          · simp
        · split
          · simp
          · exact .inr hr1
    · simp only [if_neg k45]
      by_cases k23 : s.k = 2 ∨ s.k = 3
      · simp only [if_pos k23]
        unfold lpT at hp1
        simp only [Bool.or_eq_false_iff, decide_eq_false_iff_not] at hp1
        have k2 : s.k = 2 := by omega
        refine .inr ?_
        unfold blkR
        rw [if_pos k2, ctS_of, lpS_of, List.map_append, List.sum_append, List.any_append, ← ctS_sum, ← lpS_mem]
        split
        · exact ⟨by omega, by rw [hp1.1.2, hp2]; rfl⟩
        · exact ⟨by omega, by rw [hp1.2, hp2]; rfl⟩
      · simp only [if_neg k23]
        by_cases k1 : s.k = 1
        · simp only [if_pos k1]; exact .inr hr1
        · simp only [if_neg k1]
          by_cases k6 : s.k = 6
          · simp only [if_pos k6]; exact .inr hr1
          · simp only [if_neg k6]; exact .inr hr1
def workW (w : Wd) : Nat := (w.tasks.map fun t => ctS t.rest).sum
def phiW (w : Wd) : Nat := (w.tasks.length + 1) * workW w + (w.tasks.length - w.idle.toNat)
theorem sum_set {l : List Tk} {i : Nat} {t u : Tk} (h : l[i]? = some t) : ((l.set i u).map fun t => ctS t.rest).sum + ctS t.rest = (l.map fun t => ctS t.rest).sum + ctS u.rest := by
  induction l generalizing i with
  | nil => simp at h
  | cons a l ih =>
    cases i with
    | zero => simp at h; subst h; simp; omega
    | succ i => have := ih (i := i) (by simpa using h); simp at this ⊢; omega
theorem phi_step {w : Wd} (hv : vaWd w = true) (hp : ∀ t ∈ w.tasks, lpS t.rest = false) (hi : w.idle < w.tasks.length) : phiW (stepW w) + 1 ≤ phiW w ∧ ∀ t ∈ (stepW w).tasks, lpS t.rest = false := by
  obtain ⟨h1, h2, h3, h4⟩ := vaWd_iff.1 hv
  obtain ⟨t, ht⟩ : ∃ t, w.tasks[w.turn.toNat]? = some t := ⟨_, List.getElem?_eq_getElem (by omega)⟩
  have hm := List.mem_of_getElem? ht
  have e : stepW w = ⟨w.tasks.set w.turn.toNat (stepP t w.boxes).1, (stepP t w.boxes).2.1, (nextT w.tasks.length w.turn w.idle (stepP t w.boxes).2.2.2).1, (nextT w.tasks.length w.turn w.idle (stepP t w.boxes).2.2.2).2, w.out ++ (stepP t w.boxes).2.2.1⟩ := by
    unfold stepW; rw [ht]
  have hs := sum_set (u := (stepP t w.boxes).1) ht
  have hc := step_code' (bs := w.boxes) (h4 t hm)
  rw [e]
  unfold phiW workW
  simp only [List.length_set]
  by_cases hst : stillT t w.boxes
  · obtain ⟨s1, s2, s3⟩ := still_same hst
    rw [s1, set_same ht]
    have en : (nextT w.tasks.length w.turn w.idle (stepP t w.boxes).2.2.2).2 = w.idle + 1 := by
      unfold stillT at hst
      unfold nextT; rw [if_neg (by omega), if_neg (by omega)]
    rw [en]
    exact ⟨by omega, hp⟩
  · rcases step_work (bs := w.boxes) (hp t hm) with q | ⟨q1, q2⟩
    · exact absurd q hst
    · have en : (nextT w.tasks.length w.turn w.idle (stepP t w.boxes).2.2.2).2 = 0 := by
        unfold stillT at hst
        unfold nextT
        by_cases c1 : (stepP t w.boxes).2.2.2 = 1
        · rw [if_pos c1]
        · rw [if_neg c1, if_pos (by omega)]
      rw [en]
      obtain ⟨A, hA⟩ : ∃ A, A = ((w.tasks.set w.turn.toNat (stepP t w.boxes).1).map fun t => ctS t.rest).sum := ⟨_, rfl⟩
      obtain ⟨B, hB⟩ : ∃ B, B = (w.tasks.map fun t => ctS t.rest).sum := ⟨_, rfl⟩
      rw [← hA, ← hB] at hs ⊢
      have hAB : A + 1 ≤ B := by omega
      have hmul := Nat.mul_le_mul_left (w.tasks.length + 1) hAB
      rw [Nat.mul_succ] at hmul
      refine ⟨by simp; omega, fun u hu => ?_⟩
      rcases List.mem_or_eq_of_mem_set hu with q | q
      · exact hp u q
      · rw [q]; exact q2
theorem plain_rest (n : Nat) : ∀ {w : Wd} (hv : vaWd w = true) (hp : ∀ t ∈ w.tasks, lpS t.rest = false) (hn : phiW w ≤ n), ¬ (runW n w).idle < (runW n w).tasks.length := by
  induction n with
  | zero =>
    intro w hv hp hn
    unfold phiW at hn
    have := (vaWd_iff.1 hv).1
    simp only [runW]
    omega
  | succ n ih =>
    intro w hv hp hn
    by_cases h : w.idle < w.tasks.length
    · rw [runW_succ h]
      obtain ⟨a, b⟩ := phi_step hv hp h
      exact ih (stepW_keeps hv h).1 b (by omega)
    · rw [runW_rest h]; exact h
end Go.Proofs.Ytmecbehegmgbhaa.AM
namespace Go.Proofs.Ytmecbehegmgbhaa.AM
set_option linter.unusedSimpArgs false
set_option linter.unusedVariables false
set_option maxRecDepth 100000
set_option maxHeartbeats 2000000
open Go
attribute [-simp] AM.elems
theorem T_wsameLists_l {o1 o2 : Nat → Prop} {H : AH} {va vb : AV} {l : List (List Int)} {Q : Out → Env → AH → Prop} (h1 : LIV o1 H va l) (h2 : LIV o2 H vb l) (hQ : ∀ e, Q (.brk 0) e H) (m i : Nat) (hm : i + m = l.length) :
    W Cd (.loop c_wsameLists_l0) [(0, va), (1, vb), (5, .I i)] H Q := by
  have hbig : l.length ≤ 8589934592 := h1.choose_spec.1.1
  induction m generalizing i with
  | zero =>
    rw [W_loop_as c_wsameLists_l0.eq_1]
    have : i = l.length := by omega
    subst this
    simp [h1.alen]
    exact hQ _
  | succ m ih =>
    rw [W_loop_as c_wsameLists_l0.eq_1]
    have hlt : i < l.length := by omega
    have hlt' : (i : Int) < l.length := by omega
    obtain ⟨e, he⟩ : ∃ e, l[i]? = some e := ⟨_, List.getElem?_eq_getElem hlt⟩
    obtain ⟨b, o, cap, u, e1, hb, l1, i1⟩ := h1.at he
    obtain ⟨b2, o2, cap2, u2, e2, hb2, l2, i2⟩ := h2.at he
    have := ih (i + 1) (by omega)
    subst e1 e2
    simp (disch := omega) [hlt', l1, l2]
    refine T_wsameInts i1.sees i2.sees ?_
    simp (disch := omega) [Ext.refl]
    simpa using this
theorem T_wsameLists {o1 o2 : Nat → Prop} {H : AH} {K : AV → AH → Prop} {w : Fk K} {va vb : AV} {l : List (List Int)} (h1 : LIV o1 H va l) (h2 : LIV o2 H vb l) (k : K (.b true) H) : CallF Cd f_wsameLists [va, vb] H K w := by
  rw [CallF_eq e_wsameLists rfl]
  simp [h1.alen, h2.alen]
  have := T_wsameLists_l h1 h2 (Q := ?_) ?_ l.length 0 (by omega)
  · simpa using this
  · intro e; simpa using k
theorem T_wsameFlags_l {o1 o2 : Nat → Prop} {H : AH} {va vb : AV} {l : List Bool} {Q : Out → Env → AH → Prop} (h1 : FlV o1 H va l) (h2 : FlV o2 H vb l) (hQ : ∀ e, Q (.brk 0) e H) (m i : Nat) (hm : i + m = l.length) :
    W Cd (.loop c_wsameFlags_l0) [(0, va), (1, vb), (5, .I i)] H Q := by
  have hbig : l.length ≤ 8589934592 := h1.1
  induction m generalizing i with
  | zero =>
    rw [W_loop_as c_wsameFlags_l0.eq_1]
    have : i = l.length := by omega
    subst this
    simp [h1.alen]
    exact hQ _
  | succ m ih =>
    rw [W_loop_as c_wsameFlags_l0.eq_1]
    have hlt : i < l.length := by omega
    have hlt' : (i : Int) < l.length := by omega
    obtain ⟨e, he⟩ : ∃ e, l[i]? = some e := ⟨_, List.getElem?_eq_getElem hlt⟩
    obtain ⟨b, o, cap, e1, hb, l1⟩ := h1.at he
    obtain ⟨b2, o2, cap2, e2, hb2, l2⟩ := h2.at he
    have := ih (i + 1) (by omega)
    subst e1 e2
    simp (disch := omega) [hlt', l1, l2]
    simpa using this
theorem T_wsameFlags {o1 o2 : Nat → Prop} {H : AH} {K : AV → AH → Prop} {w : Fk K} {va vb : AV} {l : List Bool} (h1 : FlV o1 H va l) (h2 : FlV o2 H vb l) (k : K (.b true) H) : CallF Cd f_wsameFlags [va, vb] H K w := by
  rw [CallF_eq e_wsameFlags rfl]
  simp [h1.alen, h2.alen]
  have := T_wsameFlags_l h1 h2 (Q := ?_) ?_ l.length 0 (by omega)
  · simpa using this
  · intro e; simpa using k
theorem T_wsameOutcome {o1 o2 : Nat → Prop} {H : AH} {K : AV → AH → Prop} {w : Fk K} {c1 c2 : List AV} {o : Oc} (h1 : OC o1 H c1 o) (h2 : OC o2 H c2 o) (k : ∀ H', Ext H H' → K (.b true) H') : CallF Cd f_wsameOutcome [.agg c1, .agg c2] H K w := by
  obtain ⟨a1, a2, a3, rfl, i1, i2, i3⟩ := h1
  obtain ⟨b1, b2, b3, rfl, j1, j2, j3⟩ := h2
  rw [CallF_eq e_wsameOutcome rfl]
  have x1 := (Ext.push H [a1, a2, a3, .b o.rest]).trans (Ext.push _ [b1, b2, b3, .b o.rest])
  have q1 : ((H.push [a1, a2, a3, .b o.rest]).push [b1, b2, b3, .b o.rest]).bk H.n = some ⟨[a1, a2, a3, .b o.rest], true⟩ := push_old (by simp) push_new
  have q2 : ((H.push [a1, a2, a3, .b o.rest]).push [b1, b2, b3, .b o.rest]).bk (H.n + 1) = some ⟨[b1, b2, b3, .b o.rest], true⟩ := push_new (H := H.push [a1, a2, a3, .b o.rest])
  simp [load_bk q1, load_bk q2]
  refine T_wsameInts (i1.ext x1).sees (j1.ext x1).sees ?_
  simp [load_bk q1, load_bk q2]
  refine T_wsameLists (i2.ext x1) (j2.ext x1) ?_
  simp [load_bk q1, load_bk q2]
  refine T_wsameFlags (i3.ext x1) (j3.ext x1) ?_
  simp [load_bk q1, load_bk q2]
  exact k _ x1
end Go.Proofs.Ytmecbehegmgbhaa.AM
namespace Go.Proofs.Ytmecbehegmgbhaa.AM
set_option linter.unusedSimpArgs false
set_option linter.unusedVariables false
set_option maxRecDepth 100000
set_option maxHeartbeats 2000000
open Go
attribute [-simp] AM.elems
theorem app_copyW {H : AH} {b n sz : Nat} {cs : List AV} (hb : H.bk b = some ⟨[], true⟩) (hbn : b < H.n) (hl : n ≤ 1000000) (hc : cs.length = n * sz) :
    ∃ v H' B, aapp H sz (.sl b 0 0 (.ex 0)) n cs = some (v, H') ∧ Ext H H' ∧ GrS b H' v n sz cs B ∧ v.flat = true ∧ (B = b ∨ B = H.n) := by
  by_cases h0 : n = 0
  · subst h0
    have : cs = [] := List.eq_nil_of_length_eq_zero (by simpa using hc)
    subst this
    exact ⟨.sl b 0 0 (.ex 0), H, b, by simp [aapp], Ext.refl _, ⟨by simp, by simp, .inr ⟨Nat.le_refl _, hbn, .inl ⟨rfl, hb⟩⟩⟩, rfl, .inl rfl⟩
  · refine ⟨.sl H.n 0 n (.lb n sz), H.push cs, H.n, ?_, Ext.push _ _, ⟨hl, hc, .inr ⟨by omega, Nat.lt_succ_self _, .inr ⟨n, [], rfl, Nat.le_refl _, by simp, by rw [List.append_nil]; exact push_new⟩⟩⟩, rfl, .inr rfl⟩
    unfold aapp
    simp only [if_neg h0, Nat.zero_add, Nat.zero_mul]
    rw [if_neg (show ¬ big < n by unfold big; omega)]
    have hs : H.loadN b 0 0 = some [] := by rw [loadN_bk hb]; rfl
    simp only [hs, List.nil_append]
    rw [if_neg (by omega)]
/-- The statement that yields. -/
def yldT : St1 := ⟨6, 0, 0, ⟨0, 0, .nil⟩, .nil, .nil⟩
def sufT (t : Tk) : Tk := ⟨t.vars, Sts.of (t.rest.list ++ [yldT])⟩
theorem stepP_suf {t : Tk} {bs : List Bx} {s : St1} {r : List St1} (hr : t.rest.list = s :: r) : stepP (sufT t) bs = (sufT (stepP t bs).1, (stepP t bs).2) := by
  have hr2 : (sufT t).rest.list = s :: (r ++ [yldT]) := by unfold sufT; rw [Sts.list_of, hr]; rfl
  have hvar : (sufT t).vars = t.vars := rfl
  unfold stepP
  rw [hr, hr2]
  simp only [hvar]
  have hsr : ∀ v, sufT ⟨v, Sts.of r⟩ = ⟨v, Sts.of (r ++ [yldT])⟩ := fun v => by unfold sufT; rw [Sts.list_of]
  split
  · unfold talkP
    simp only [hvar]
    split
    · rfl
    · split
      · split
        · rw [hsr]
        · rfl
      · split
        · rfl
        · rw [hsr]
  · split
    · unfold blkR
      have e : ∀ a : List St1, sufT ⟨t.vars, Sts.of (a ++ r)⟩ = ⟨t.vars, Sts.of (a ++ (r ++ [yldT]))⟩ := fun a => by unfold sufT; rw [Sts.list_of, List.append_assoc]
      have e2 : ∀ a : List St1, sufT ⟨t.vars, Sts.of (a ++ s :: r)⟩ = ⟨t.vars, Sts.of (a ++ s :: (r ++ [yldT]))⟩ := fun a => by unfold sufT; rw [Sts.list_of, List.append_assoc]; rfl
      split
      · rw [e]
      · split
        · rw [e2]
        · rw [hsr]
    · split
      · rw [hsr]
      · split
        · rw [hsr]
        · rw [hsr]
theorem one_out {t : Tk} {bs : List Bx} {out : List Int} : ∀ (n : Nat) (i : Int), (i = 0 ∨ (i = 1 ∧ t.rest.list ≠ [])) → vaWd ⟨[t], bs, 0, i, out⟩ = true → ¬ (runW n ⟨[t], bs, 0, i, out⟩).idle < (runW n ⟨[t], bs, 0, i, out⟩).tasks.length → outW (runW (n + 1) ⟨[sufT t], bs, 0, i, out⟩) = outW (runW n ⟨[t], bs, 0, i, out⟩) := by
  intro n
  induction n generalizing t bs out with
  | zero =>
    intro i hi hv hr
    simp only [runW, List.length_singleton] at hr
    rcases hi with rfl | ⟨rfl, hne⟩
    · simp at hr
    · have e : runW (0 + 1) ⟨[sufT t], bs, 0, 1, out⟩ = ⟨[sufT t], bs, 0, 1, out⟩ := runW_rest (by simp) _
      rw [e]
      simp [runW, outW, sufT, Sts.list_of, hne]
  | succ n ih =>
    intro i hi hv hr
    rcases hi with rfl | ⟨rfl, hne⟩
    case inr =>
      rw [runW_rest (by simp), runW_rest (by simp)]
      simp [outW, sufT, Sts.list_of, hne]
    have hidle : (⟨[t], bs, 0, 0, out⟩ : Wd).idle < (⟨[t], bs, 0, 0, out⟩ : Wd).tasks.length := by simp
    have hidle2 : (⟨[sufT t], bs, 0, 0, out⟩ : Wd).idle < (⟨[sufT t], bs, 0, 0, out⟩ : Wd).tasks.length := by simp
    rw [runW_succ hidle] at hr ⊢
    rw [runW_succ hidle2]
    have hva := (vaWd_iff.1 hv).2.2.2 t (by simp)
    have hc := step_code' (bs := bs) hva
    have hk := stepW_keeps hv hidle
    have e1 : stepW ⟨[t], bs, 0, 0, out⟩ = ⟨[(stepP t bs).1], (stepP t bs).2.1, 0, (nextT 1 0 0 (stepP t bs).2.2.2).2, out ++ (stepP t bs).2.2.1⟩ := by
      unfold stepW
      simp [nextT]
      split
      · rfl
      · split <;> simp
    cases hl : t.rest.list with
    | cons s r =>
      have e2 : stepW ⟨[sufT t], bs, 0, 0, out⟩ = ⟨[sufT (stepP t bs).1], (stepP t bs).2.1, 0, (nextT 1 0 0 (stepP t bs).2.2.2).2, out ++ (stepP t bs).2.2.1⟩ := by
        unfold stepW
        simp [stepP_suf hl, nextT]
        split
        · rfl
        · split <;> simp
      rw [e1] at hr hk ⊢
      rw [e2]
      refine ih _ ?_ hk.1 hr
      by_cases c1 : (stepP t bs).2.2.2 = 1
      · left; simp [nextT, c1]
      by_cases c2 : (stepP t bs).2.2.2 = 2
      · left; simp [nextT, c2]
      · right
        refine ⟨by simp [nextT, c1, c2], ?_⟩
        rw [(still_same (show stillT t bs by unfold stillT; omega)).1, hl]; simp
    | nil =>
      have e3 : stepP t bs = (t, bs, [], 4) := by unfold stepP; rw [hl]
      rw [e1, e3]
      have e4 : stepW ⟨[sufT t], bs, 0, 0, out⟩ = ⟨[⟨t.vars, .nil⟩], bs, 0, 0, out⟩ := by
        have hr2 : (sufT t).rest.list = [yldT] := by unfold sufT; rw [Sts.list_of, hl]; rfl
        have e7 : stepP (sufT t) bs = (⟨t.vars, .nil⟩, bs, [], 2) := by
          have hvar : (sufT t).vars = t.vars := rfl
          unfold stepP; rw [hr2]; simp [yldT, hvar, Sts.of]
        unfold stepW
        simp [e7, nextT]
      have ht : t = ⟨t.vars, .nil⟩ := by
        obtain ⟨tv, tr⟩ := t
        simp only at hl ⊢
        have := Sts.of_list tr
        rw [hl] at this
        rw [← this]; rfl
      have e5 : stepW ⟨[⟨t.vars, .nil⟩], bs, 0, 0, out⟩ = ⟨[⟨t.vars, .nil⟩], bs, 0, 1, out⟩ := by
        unfold stepW
        simp [stepP, nextT]
      rw [e4, runW_succ (by simp), e5]
      have e6 : (nextT 1 0 0 4).2 = 1 := rfl
      simp only [e6, List.append_nil]
      rw [runW_rest (by simp), runW_rest (by simp), ← ht]
theorem one_out' {t : Tk} {bs : List Bx} {out : List Int} (n m : Nat) (hm : m = n + 1) (i : Int) (hi : i = 0 ∨ (i = 1 ∧ t.rest.list ≠ [])) (hv : vaWd ⟨[t], bs, 0, i, out⟩ = true) (hr : ¬ (runW n ⟨[t], bs, 0, i, out⟩).idle < (runW n ⟨[t], bs, 0, i, out⟩).tasks.length) : outW (runW m ⟨[sufT t], bs, 0, i, out⟩) = outW (runW n ⟨[t], bs, 0, i, out⟩) := by
  subst hm; exact one_out n i hi hv hr
end Go.Proofs.Ytmecbehegmgbhaa.AM
namespace Go.Proofs.Ytmecbehegmgbhaa.AM
set_option linter.unusedSimpArgs false
set_option linter.unusedVariables false
set_option maxRecDepth 100000
set_option maxHeartbeats 1000000
open Go
attribute [-simp] AM.elems
/-- One more record behind those of a slice that grows; the records may share what is older. -/
theorem LF.snocN {α : Type} {sz : Nat} {E : (Nat → Prop) → AH → List AV → α → Prop} (mono : ∀ {ok ok' : Nat → Prop} {H H' : AH} {c a}, E ok H c a → H.n ≤ H'.n → (∀ b, ok b → b < H.n → H'.bk b = H.bk b) → (∀ b, ok b → b < H.n → ok' b) → E ok' H' c a)
    {base B : Nat} {G G1 : AH} {g : AV} {l : List α} {x : α} {cs c : List AV} (hg : GrS base G g l.length sz cs B) (he : LF sz (E (fun b => b ≠ B) G) l cs)
    (hb : base ≤ G.n) (x1 : Ext G G1) (hc : c.length = sz) (hx : E (fun b => b < base ∨ G.n ≤ b) G1 c x) (hi : l.length < 1000000) :
    ∃ g' G' B', aapp G1 sz g 1 c = some (g', G') ∧ GrS base G' g' (l ++ [x]).length sz (cs ++ c) B' ∧ LF sz (E (fun b => b ≠ B') G') (l ++ [x]) (cs ++ c) ∧ (∀ b, b < base → G'.bk b = G.bk b) ∧ G1.n ≤ G'.n ∧ g'.flat = true := by
  obtain ⟨g', G', B', a1, a2, a3, a4⟩ := (hg.ext x1).app (k := 1) (new := c) (by have := x1.1; omega) (by omega) (by omega)
  have hm : ∀ b, b ∈ grB g B → b = B ∧ base ≤ B ∧ B < G.n := fun b hb => hg.mem hb
  have hB : (B' = B ∧ base ≤ B ∧ B < G.n) ∨ G1.n = B' := by
    rcases a3 with q | q
    · exact .inl ⟨q.1, (hm _ q.2).2⟩
    · exact .inr q.symm
  have n1 := x1.1
  have n2 := a4.1
  refine ⟨g', G', B', a1, by simpa using a2, ?_, fun b hb' => by rw [a4.2 b (by omega) (fun hq => by have := hm b hq; omega), x1.2 b (by omega)], n2, a2.flat⟩
  refine LF.app (he.imp fun c a h => mono h (by omega) (fun b hb' h1 => ?_) (fun b hb' h1 => by omega)) (LF.one (mono hx n2 (fun b hb' h1 => a4.2 b h1 (fun hm' => by have := hm b hm'; omega)) (fun b hb' h1 => by omega)) hc)
  rw [a4.2 b (by omega) (fun hm' => hb' (hm b hm').1), x1.2 b h1]
def renN (op n : Int) : Int := if op = 13 then 3 - n else n
def renF : Exs → Exs
  | .nil => .nil
  | .cons op n a r => .cons op (renN op n) (renF a) (renF r)
theorem renF_len : ∀ {a : Exs}, (renF a).list.length = a.list.length
  | .nil => rfl
  | .cons op n a r => by simp [renF, renF_len (a := r)]
def renE (e : Ex) : Ex := ⟨e.op, renN e.op e.n, renF e.args⟩
section
variable {H : AH} {K : AV → AH → Prop} {w : Fk K}
theorem K_wboth {ok : Nat → Prop} {op : Int} {x y : Ex} {vx vy : AV} (hx : EV ok H vx x.args) (hy : EV ok H vy y.args)
    (k : ∀ v H', EV (fun b => ok b ∨ H.n ≤ b) H' v (Exs.of [x, y]) → Ext H H' → K (.agg [.I op, .I 0, v]) H') : CallF Cd f_wboth [.I op, .agg [.I x.op, .I x.n, vx], .agg [.I y.op, .I y.n, vy]] H K w := by
  rw [CallF_eq e_wboth rfl]
  simp [AH.store, loadN_bk put_same, loadN_push]
  have x1 : Ext H (((((H.push [.I x.op, .I x.n, vx]).push [.I y.op, .I y.n, vy]).push [.I 0, .I 0, .nils]).push [.I x.op, .I x.n, vx, .I y.op, .I y.n, vy]).put (H.n + 1 + 1) (some ⟨[.I op, .I 0, .sl (H.n + 1 + 1 + 1) 0 2 (.ex 2)], true⟩)) :=
    ((((Ext.push _ _).trans (Ext.push _ _)).trans (Ext.push _ _)).trans (Ext.push _ _)).put (by omega)
  refine k _ _ ⟨[.I x.op, .I x.n, vx, .I y.op, .I y.n, vy], ⟨by simp, rfl, .inr ⟨H.n + 1 + 1 + 1, 0, _, rfl, ⟨.inr (by omega), by simp [capOk]⟩, by simp, ?_⟩⟩, ?_⟩ x1
  · rw [loadN_bk (show AH.bk _ (H.n + 1 + 1 + 1) = some ⟨[.I x.op, .I x.n, vx, .I y.op, .I y.n, vy], true⟩ from by rw [put_bk, if_neg (by omega)]; exact push_new)]; rfl
  · obtain ⟨cx, h1, h2⟩ := (hx.ext x1).mono (ok' := fun b => ok b ∨ H.n ≤ b) (Nat.le_refl _) (fun _ _ _ => rfl) (fun _ h _ => .inl h)
    obtain ⟨cy, h3, h4⟩ := (hy.ext x1).mono (ok' := fun b => ok b ∨ H.n ≤ b) (Nat.le_refl _) (fun _ _ _ => rfl) (fun _ h _ => .inl h)
    exact ⟨vx, cx, _, rfl, h1, h2, vy, cy, [], rfl, h3, h4, rfl⟩
end
theorem K_wotherExpr (a : Exs) : ∀ {ok : Nat → Prop} {H : AH} {K : AV → AH → Prop} {w : Fk K} {op n d : Int} {v : AV}, EV ok H v a → okE1 d op n a.list.length (okF (d - 1) a) = true →
    (∀ v' H', EV (fun b => ok b ∨ H.n ≤ b) H' v' (renF a) → v'.flat = true → Ext H H' → K (.agg [.I op, .I (renN op n), v']) H') → CallF Cd f_wotherExpr [.agg [.I op, .I n, v]] H K w := by
  induction a using Exs.ind with
  | h a ih =>
  intro ok H K w op n d v h hok k
  have hfl := h.flat
  have hl := h.alen
  have x1 : Ext H ((H.push [.I op, .I n, v]).push [.I 0, .I 0, .nils]) := (Ext.push _ _).trans (Ext.push _ _)
  have q1 : ((H.push [.I op, .I n, v]).push [.I 0, .I 0, .nils]).bk H.n = some ⟨[.I op, .I n, v], true⟩ := push_old (by simp) push_new
  have st : ∀ l : List AV, l.length = 3 → ((H.push [.I op, .I n, v]).push [.I 0, .I 0, .nils]).store (H.n + 1) 0 l = some ((H.push [.I op, .I n, v]).push l) := fun l hl => by
    have := store_bk (H := (H.push [.I op, .I n, v]).push [.I 0, .I 0, .nils]) (b := H.n + 1) (o := 0) (vs := l) (push_new (H := H.push [.I op, .I n, v])) (by simp; omega)
    rw [this]
    congr 1
    refine AH.same rfl fun b => ?_
    by_cases hb : b = H.n + 1
    · simp [hb, splice, hl]
    · simp [hb]
  rw [CallF_eq e_wotherExpr rfl]
  unfold okE1 at hok
  by_cases h13 : op = 13
  · subst h13
    simp at hok
    have e0 : a = .nil := by
      have := Exs.of_list a
      rw [hok.2.2.1] at this
      exact this.symm
    subst e0
    have st1 := st [.I 13, .I (3 - n), .nils] rfl
    simp (disch := omega) [load_bk q1, st1]
    have q9 : ((H.push [.I 13, .I n, v]).push [.I 13, .I (3 - n), .nils]).bk (H.n + 1) = some ⟨[.I 13, .I (3 - n), .nils], true⟩ := push_new (H := H.push [.I 13, .I n, v])
    simp [loadN_bk q9]
    have := k .nils ((H.push [.I 13, .I n, v]).push [.I 13, .I (3 - n), .nils]) (EV.nil (.inl rfl)) rfl ((Ext.push _ _).trans (Ext.push _ _))
    simpa [renN] using this
  have e2 : renN op n = n := by unfold renN; rw [if_neg h13]
  rw [e2] at k
  by_cases h0 : a.list.length = 0
  · have e0 : a = .nil := by
      have := Exs.of_list a
      rw [List.eq_nil_of_length_eq_zero h0] at this
      exact this.symm
    subst e0
    have q9 : ((H.push [.I op, .I n, v]).push [.I op, .I n, v]).bk (H.n + 1) = some ⟨[.I op, .I n, v], true⟩ := push_new (H := H.push [.I op, .I n, v])
    have st1 := st [.I op, .I n, v] rfl
    simp [load_bk q1, h13, hl, loadN_bk q1, st1, loadN_bk q9]
    exact k v _ ((h.ext ((Ext.push _ _).trans (Ext.push _ _))).mono (Nat.le_refl _) (fun _ _ _ => rfl) (fun _ h _ => .inl h)) hfl ((Ext.push _ _).trans (Ext.push _ _))
  · by_cases h00 : op = 0
    · subst h00; simp at hok; exact absurd (by simpa using hok.2.2.1) h0
    rw [if_neg h00, if_neg h13] at hok
    simp only [Bool.and_eq_true, decide_eq_true_eq] at hok
    obtain ⟨⟨_, _, hn0, h2, _⟩, hsub⟩ := hok
    obtain ⟨e1, e3, hal⟩ : ∃ e1 e3, a.list = [e1, e3] := by
      match hh : a.list with
      | [x, y] => exact ⟨x, y, rfl⟩
      | [] => rw [hh] at h2; simp at h2
      | [_] => rw [hh] at h2; simp at h2
      | _ :: _ :: _ :: _ => rw [hh] at h2; simp at h2
    have hx := (h.mono (ok' := fun b => ok b ∧ b < H.n) (Nat.le_refl _) (fun _ _ _ => rfl) (fun b hb hb2 => ⟨hb, hb2⟩)).ext x1
    obtain ⟨b, o, cap, va, ev, ob, hbn, l1, ea⟩ := hx.at (i := 0) (e := e1) (by rw [hal]; rfl)
    obtain ⟨b', o', cap', vb, ev', ob', hbn', l2, eb⟩ := hx.at (i := 1) (e := e3) (by rw [hal]; rfl)
    rw [hal] at ev ev'
    rw [ev] at ev'
    simp only [AV.sl.injEq, true_and] at ev'
    obtain ⟨rfl, rfl, rfl⟩ := ev'
    have ev2 : v = .sl b o 2 cap := ev
    clear ev
    subst ev2
    have ok1 : okE (d - 1) e1 = true ∧ okE (d - 1) e3 = true := by
      rw [okF_mem, hal] at hsub
      simpa using hsub
    simp only [Nat.zero_mul, Nat.add_zero, Nat.one_mul] at l1 l2
    simp [load_bk q1, h13, l1]
    refine ih e1 (by rw [hal]; simp) ea ok1.1 fun v1 H2 ev1 f1 x2 => ?_
    have q2 := (x2.2 H.n (by simp; omega)).trans q1
    have l2' := loadN_extE l2 x2 hbn'
    simp [x2, load_bk q2, l2']
    refine ih e3 (by rw [hal]; simp) (eb.ext x2) ok1.2 fun v2 H3 ev2 f2 x3 => ?_
    simp [x3]
    have n2 := x2.1
    have n3 := x3.1
    simp only [push_n] at n2
    refine K_wboth (ok := fun b => (ok b ∧ b < H.n) ∨ H.n + 2 ≤ b) (x := renE e1) (y := renE e3) ((ev1.ext x3).mono (Nat.le_refl _) (fun _ _ _ => rfl) (fun b hb _ => by rcases hb with q | q; exact .inl q; simp only [push_n] at q; exact .inr (by omega))) (ev2.mono (Nat.le_refl _) (fun _ _ _ => rfl) (fun b hb _ => by rcases hb with q | q; exact .inl q; exact .inr (by omega))) fun v3 H4 ev3 x4 => ?_
    have n4 := x4.1
    have y4 := (x2.trans x3).trans x4
    have qd : H4.bk (H.n + 1) = some ⟨[.I 0, .I 0, .nils], true⟩ := (y4.2 _ (by simp)).trans (push_new (H := H.push [.I op, .I n,   .sl b o 2 cap]))
    have st4 : H4.store (H.n + 1) 0 [.I op, .I 0, v3] = some (H4.put (H.n + 1) (some ⟨[.I op, .I 0, v3], true⟩)) := store_bk qd (by simp)
    have f3 := ev3.flat
    simp [x4, st4, loadN_bk put_same, flat_cells f3, flat_tup f3]
    have er : renF a = Exs.of [renE e1, renE e3] := by
      have h9 := Exs.of_list a
      rw [hal] at h9
      rw [← h9]; rfl
    rw [hn0] at k
    refine k v3 _ ?_ f3 ((x1.trans y4).put (by omega))
    rw [er]
    refine ev3.mono (by simp) (fun b hb _ => by rw [put_bk, if_neg (by omega)]) (fun b hb _ => ?_)
    rcases hb with (q | q) | q
    · exact .inl q.1
    · exact .inr (by omega)
    · exact .inr (by omega)
end Go.Proofs.Ytmecbehegmgbhaa.AM
namespace Go.Proofs.Ytmecbehegmgbhaa.AM
set_option linter.unusedSimpArgs false
set_option linter.unusedVariables false
set_option maxRecDepth 100000
set_option maxHeartbeats 1000000
open Go
attribute [-simp] AM.elems
def renV (k v : Int) : Int := if k = 1 ∨ k = 5 then 3 - v else v
def renS : Sts → Sts
  | .nil => .nil
  | .cons k v b e y z r => .cons k (renV k v) b (renE e) (renS y) (renS z) (renS r)
def renT1 (s : St1) : St1 := ⟨s.k, renV s.k s.v, s.b, renE s.e, renS s.body, renS s.els⟩
theorem renS_list : ∀ {f : Sts}, (renS f).list = f.list.map renT1
  | .nil => rfl
  | .cons k v b e y z r => by simp only [renS, Sts.list, List.map_cons, renS_list (f := r)]; rfl
theorem renS_of {l : List St1} : renS (Sts.of l) = Sts.of (l.map renT1) := by
  have := Sts.of_list (renS (Sts.of l))
  rw [renS_list, Sts.list_of] at this
  exact this.symm
def exT1 (k v : Int) (e : Ex) : Bool := okE 5 e && decide (k = 1 ∨ k = 5 → 0 ≤ v ∧ v < 4)
def exS : Sts → Bool
  | .nil => true
  | .cons k v b e y z r => exT1 k v e && exS y && exS z && exS r
def exT (s : St1) : Bool := exT1 s.k s.v s.e && exS s.body && exS s.els
theorem exS_mem : ∀ {f : Sts}, exS f = f.list.all exT
  | .nil => rfl
  | .cons k v b e y z r => by simp only [exS, Sts.list, List.all_cons, exS_mem (f := r)]; rfl
def RenC (f : Sts) : Prop := ∀ {ok : Nat → Prop} {H : AH} {K : AV → AH → Prop} {w : Fk K} {v : AV}, SV ok H v f → exS f = true → ctS f ≤ 1000 →
  (∀ v' H', SV (fun b => ok b ∨ H.n ≤ b) H' v' (renS f) → v'.flat = true → Ext H H' → K v' H') → CallF Cd f_wotherVars [v] H K w
theorem store_tri {H : AH} {b : Nat} {c0 c1 c2 c3 c4 c5 c6 c7 x y z : AV} (h : H.bk b = some ⟨[c0, c1, c2, c3, c4, c5, c6, c7], true⟩) : H.store b 3 [x, y, z] = some (H.put b (some ⟨[c0, c1, c2, x, y, z, c6, c7], true⟩)) := by
  rw [store_bk h (by simp)]; rfl
theorem K_wotherVars_l {f : Sts} (ih : ∀ s ∈ f.list, RenC s.body ∧ RenC s.els) (hex : exS f = true) (hct : ctS f ≤ 1000) {base : Nat} {ok0 : Nat → Prop} (h0 : ∀ b, ok0 b → b < base) {v : AV} {Q : Out → Env → AH → Prop} (m i : Nat) (hm : i + m = f.list.length) {G : AH} {g : AV} {cs : List AV} {B : Nat} (hb : base ≤ G.n) (hv : SV ok0 G v f)
    (hg : GrS base G g i 8 cs B) (he : LF 8 (S1 (fun b => b ≠ B ∧ (ok0 b ∨ base ≤ b)) G) ((f.list.take i).map renT1) cs)
    (hQ : ∀ e G' g' cs' B', GrS base G' g' f.list.length 8 cs' B' → LF 8 (S1 (fun b => b ≠ B' ∧ (ok0 b ∨ base ≤ b)) G') (f.list.map renT1) cs' → (∀ b, b < base → G'.bk b = G.bk b) → G.n ≤ G'.n → get e 3 = some g' → Q (.brk 0) e G') :
    W Cd (.loop c_wotherVars_l0) [(0, v), (3, g), (4, .I i)] G Q := by
  have hlc := len_ctS (f := f)
  induction m generalizing i G g cs B with
  | zero =>
    rw [W_loop_as c_wotherVars_l0.eq_1]
    have : i = f.list.length := by omega
    subst this
    simp [hv.alen]
    rw [List.take_length] at he
    exact hQ _ G g cs B hg he (fun _ _ => rfl) (Nat.le_refl _) rfl
  | succ m ihm =>
    rw [W_loop_as c_wotherVars_l0.eq_1]
    have hlt : i < f.list.length := by omega
    have hlt' : (i : Int) < f.list.length := by omega
    obtain ⟨s, hs⟩ : ∃ s, f.list[i]? = some s := ⟨_, List.getElem?_eq_getElem hlt⟩
    have hsm := List.mem_of_getElem? hs
    obtain ⟨i1, i2⟩ := ih s hsm
    have hc2 := ctS_mem hsm
    have hex2 := hex
    rw [exS_mem] at hex2
    have hxs := List.all_eq_true.1 hex2 s hsm
    unfold exT exT1 at hxs
    simp only [Bool.and_eq_true, decide_eq_true_eq] at hxs
    obtain ⟨⟨⟨hoe, hvr⟩, hxb⟩, hxe⟩ := hxs
    obtain ⟨b, o, cap, c, e1, ob, hbn, l1, va, vy, vz, rfl, ea, ey, ez⟩ := hv.at hs
    have hv0 := hv
    subst e1
    obtain ⟨k, vv, bb, ⟨op, n, args⟩, body, els⟩ := s
    simp only at hoe hvr hxb hxe ea ey ez i1 i2 l1 hc2
    have st : (G.push [.I 0, .I 0, .I 0, .I 0, .I 0, .nils, .nils, .nils]).store G.n 0 [.I k, .I vv, .I bb, .I op, .I n, va, vy, vz] = some (G.push [.I k, .I vv, .I bb, .I op, .I n, va, vy, vz]) := store_push8' rfl
    have q1 : (G.push [.I k, .I vv, .I bb, .I op, .I n, va, vy, vz]).bk G.n = some ⟨[.I k, .I vv, .I bb, .I op, .I n, va, vy, vz], true⟩ := push_new
    have x1 := Ext.push G [.I k, .I vv, .I bb, .I op, .I n, va, vy, vz]
    -- the rest, once the variable is named
    have rest : ∀ (G1 : AH) (v1 : Int), v1 = renV k vv → Ext G G1 → G1.n = G.n + 1 → G1.bk G.n = some ⟨[.I k, .I v1, .I bb, .I op, .I n, va, vy, vz], true⟩ →
        W Cd (.seq (.seq (.ops [o1 29 (.fldA 3 (.t 5)), o1 30 (.loadN 3 (.t 29)), o1 31 (.call f_wotherExpr [(.t 30)]), o1 32 (.fldA 3 (.t 5)), o0 (.store 3 (.t 32) (.t 31))]) (.keep [0, 3, 4, 5]))
          (.seq (.seq (.ops [o1 33 (.fldA 6 (.t 5)), o1 34 (.load (.t 33)), o1 35 (.call f_wotherVars [(.t 34)]), o1 36 (.fldA 6 (.t 5)), o0 (.store 1 (.t 36) (.t 35))]) (.keep [0, 3, 4, 5]))
          (.seq (.seq (.ops [o1 37 (.fldA 7 (.t 5)), o1 38 (.load (.t 37)), o1 39 (.call f_wotherVars [(.t 38)]), o1 40 (.fldA 7 (.t 5)), o0 (.store 1 (.t 40) (.t 39))]) (.keep [0, 3, 4, 5]))
          (.seq (.ops [o1 41 (.mv (.t 3)), o1 42 (.loadN 8 (.t 5)), o1 43 (.bsl [(.I 0), (.I 0), (.I 0), (.I 0), (.I 0), .nils, .nils, .nils] 1 [(0, 8, (.t 42))]), o1 44 (.app 8 (.t 41) (.t 43)), o1 3 (.mv (.t 44))]) (.keep [0, 3, 4])))))
          [(0, .sl b o f.list.length cap), (3, g), (4, .I i), (5, .ptr G.n 0)] G1 (blockK 1 (seqK Cd (.keep [0, 3, 4]) (seqK Cd (.seq (.ops [o1 11 (.mv (.t 4)), o1 12 (.bin .add (.t 11) (.c (.I 1))), o1 4 (.mv (.t 12))]) (.keep [0, 3, 4])) (seqK Cd (.keep [0, 3, 4]) (loopK Cd c_wotherVars_l0 Q))))) := by
      intro G1 v1 hv1 y1 n1 p1
      have w1 : G1.loadN G.n 3 3 = some [.I op, .I n, va] := by rw [loadN_bk p1]; rfl
      simp [w1]
      refine K_wotherExpr args (d := 5) (ea.ext y1) hoe fun va' H2 ea2 fa x2 => ?_
      have n2 := x2.1
      have p2 := (x2.2 G.n (by omega)).trans p1
      have st2 := store_tri (x := .I op) (y := .I (renN op n)) (z := va') p2
      have z2 : Ext G (H2.put G.n (some ⟨[.I k, .I v1, .I bb, .I op, .I (renN op n), va', vy, vz], true⟩)) := (y1.trans x2).put (Nat.le_refl _)
      have p3 : (H2.put G.n (some ⟨[.I k, .I v1, .I bb, .I op, .I (renN op n), va', vy, vz], true⟩)).bk G.n = _ := put_same
      simp [st2, load_bk p3]
      refine i1 (ey.ext z2) hxb (by omega) fun vy' H3 ey3 fy x3 => ?_
      have n3 := x3.1
      simp only [put_n] at n3
      have p4 := (x3.2 G.n (by simp; omega)).trans p3
      have st3 := store_cell (v := vy') p4 (o := 6) (by simp)
      simp only [List.set_cons_succ, List.set_cons_zero] at st3
      have z3 : Ext G (H3.put G.n (some ⟨[.I k, .I v1, .I bb, .I op, .I (renN op n), va', vy', vz], true⟩)) := (z2.trans x3).put (Nat.le_refl _)
      have p5 : (H3.put G.n (some ⟨[.I k, .I v1, .I bb, .I op, .I (renN op n), va', vy', vz], true⟩)).bk G.n = _ := put_same
      simp [flat_cells fy, flat_tup fy, st3, load_bk p5]
      refine i2 (ez.ext z3) hxe (by omega) fun vz' H4 ez4 fz x4 => ?_
      have n4 := x4.1
      simp only [put_n] at n4
      have p6 := (x4.2 G.n (by simp; omega)).trans p5
      have st4 := store_cell (v := vz') p6 (o := 7) (by simp)
      simp only [List.set_cons_succ, List.set_cons_zero] at st4
      have z4 : Ext G (H4.put G.n (some ⟨[.I k, .I v1, .I bb, .I op, .I (renN op n), va', vy', vz'], true⟩)) := (z3.trans x4).put (Nat.le_refl _)
      have p7 : (H4.put G.n (some ⟨[.I k, .I v1, .I bb, .I op, .I (renN op n), va', vy', vz'], true⟩)).bk G.n = _ := put_same
      obtain ⟨G5, hG5⟩ : ∃ G5, G5 = H4.put G.n (some ⟨[.I k, .I v1, .I bb, .I op, .I (renN op n), va', vy', vz'], true⟩) := ⟨_, rfl⟩
      rw [← hG5] at z4 p7 st4
      have n5 : G5.n = H4.n := by rw [hG5]; rfl
      have hk4 : ∀ b, b ≠ G.n → G5.bk b = H4.bk b := fun b hb => by rw [hG5, put_bk, if_neg hb]
      have hk3 : ∀ b, b ≠ G.n → b < H3.n → G5.bk b = H3.bk b := fun b hb hb2 => by rw [hk4 b hb, x4.2 b (by simpa using hb2), put_bk, if_neg hb]
      have hk2 : ∀ b, b ≠ G.n → b < H2.n → G5.bk b = H2.bk b := fun b hb hb2 => by rw [hk3 b hb (by omega), x3.2 b (by simpa using hb2), put_bk, if_neg hb]
      have xp := Ext.push G5 [.I k, .I v1, .I bb, .I op, .I (renN op n), va', vy', vz']
      have s1' : S1 (fun b => (b < base ∨ G.n ≤ b) ∧ (ok0 b ∨ base ≤ b)) (G5.push [.I k, .I v1, .I bb, .I op, .I (renN op n), va', vy', vz']) [.I k, .I v1, .I bb, .I op, .I (renN op n), va', vy', vz'] (renT1 ⟨k, vv, bb, ⟨op, n, args⟩, body, els⟩) := by
        refine S1.ext ?_ xp
        have okN : ∀ {b N : Nat}, (ok0 b ∨ N ≤ b) → G.n + 1 ≤ N → (b < base ∨ G.n ≤ b) ∧ (ok0 b ∨ base ≤ b) := fun {b N} hb hN => by
          rcases hb with q | q
          · exact ⟨.inl (h0 b q), .inl q⟩
          · exact ⟨.inr (by omega), .inr (by omega)⟩
        have nG : ∀ {b N : Nat}, (ok0 b ∨ N ≤ b) → G.n + 1 ≤ N → b ≠ G.n := fun {b N} hb hN => by
          rcases hb with q | q
          · have := h0 b q; omega
          · omega
        refine ⟨va', vy', vz', by simp [renT1, renE, hv1], ea2.mono (by omega) (fun b hb hb2 => hk2 b (nG hb (by omega)) hb2) (fun b hb _ => okN hb (by omega)), ey3.mono (by omega) (fun b hb hb2 => hk3 b (nG hb (by simp; omega)) hb2) (fun b hb _ => okN hb (by simp; omega)), ez4.mono (by omega) (fun b hb hb2 => hk4 b (nG hb (by simp; omega))) (fun b hb _ => okN hb (by simp; omega))⟩
      have hli : ((f.list.take i).map renT1).length = i := by rw [List.length_map, List.length_take]; omega
      have htk : (f.list.take (i + 1)).map renT1 = (f.list.take i).map renT1 ++ [renT1 ⟨k, vv, bb, ⟨op, n, args⟩, body, els⟩] := by rw [List.take_add_one, hs]; simp
      obtain ⟨g', G', B', a1, a2, a3, a4, a5, a6⟩ := LF.snocN (E := fun okk H c x => S1 (fun b => okk b ∧ (ok0 b ∨ base ≤ b)) H c x) (l := (f.list.take i).map renT1) (c := [.I k, .I v1, .I bb, .I op, .I (renN op n), va', vy', vz']) (fun h h1 h2 h3 => h.mono h1 (fun b hb => h2 b hb.1) (fun b hb h => ⟨h3 b hb.1 h, hb.2⟩)) (by rw [hli]; exact hg) he hb (z4.trans xp) rfl s1' (by omega)
      rw [← htk] at a2 a3
      have hli2 : ((f.list.take (i + 1)).map renT1).length = i + 1 := by rw [List.length_map, List.length_take]; omega
      rw [hli2] at a2
      have e8 : AM.elems (G5.push [.I k, .I v1, .I bb, .I op, .I (renN op n), va', vy', vz']) 8 (.sl G5.n 0 1 (.ex 1)) = some [.I k, .I v1, .I bb, .I op, .I (renN op n), va', vy', vz'] := by
        show AH.loadN _ _ _ _ = _
        rw [loadN_bk push_new]; rfl
      have w7 : G5.loadN G.n 0 8 = some [.I k, .I v1, .I bb, .I op, .I (renN op n), va', vy', vz'] := by rw [loadN_bk p7]; rfl
      have ng := z4.1
      simp only [push_n] at a5
      simp (disch := omega) [flat_cells fz, flat_tup fz, st4, w7, e8, a1]
      have := ihm (i + 1) (by omega) (G := G') (g := g') (by omega) (hv0.mono (by omega) (fun b hb _ => a4 b (h0 b hb)) (fun _ h _ => h)) a2 a3 (fun e G2 g2 c2 B2 z1 z2 z3 z4' z5 => hQ e G2 g2 c2 B2 z1 z2 (fun b hb => (z3 b hb).trans (a4 b hb)) (by omega) z5)
      simpa using this
    simp (disch := omega) [hv.alen, hlt', l1, st]
    have stc : (G.push [.I k, .I vv, .I bb, .I op, .I n, va, vy, vz]).store G.n 1 [.I (3 - vv)] = some (G.push [.I k, .I (3 - vv), .I bb, .I op, .I n, va, vy, vz]) := by
      rw [store_cell q1 (by simp), push_put]; rfl
    by_cases k15 : k = 1 ∨ k = 5
    · have hr := hvr k15
      have := rest (G.push [.I k, .I (3 - vv), .I bb, .I op, .I n, va, vy, vz]) (3 - vv) (by unfold renV; rw [if_pos k15]) (Ext.push _ _) rfl push_new
      by_cases k1 : k = 1
      · subst k1
        simp (disch := omega) [load_bk q1, stc]
        simpa using this
      · have k5 : k = 5 := by omega
        subst k5
        simp (disch := omega) [load_bk q1, stc]
        simpa using this
    · have k1 : ¬ k = 1 := by omega
      have k5 : ¬ k = 5 := by omega
      have := rest (G.push [.I k, .I vv, .I bb, .I op, .I n, va, vy, vz]) vv (by unfold renV; rw [if_neg k15]) x1 rfl q1
      simp (disch := omega) [load_bk q1, k1, k5]
      simpa using this
theorem K_wotherVars (f : Sts) : RenC f := by
  induction f using Sts.ind with
  | h f ih =>
  intro ok H K w v h hex hct k
  rw [CallF_eq e_wotherVars rfl]
  simp
  have := K_wotherVars_l ih hex hct (base := H.n) (ok0 := fun b => ok b ∧ b < H.n) (fun b h => h.2) (v := v) (Q := ?_) f.list.length 0 (by omega) (G := H.push []) (g := .sl H.n 0 0 (.ex 0)) (cs := []) (B := H.n) (by simp) (h.mono (by simp) (fun b _ hb => push_old hb rfl) (fun b ho hb => ⟨ho, hb⟩)) ⟨by simp, rfl, .inr ⟨Nat.le_refl _, by simp, .inl ⟨rfl, push_new⟩⟩⟩ rfl ?_
  · simpa using this
  · intro e G g cs B z1 z2 z3 z4 z5
    simp only [push_n] at z4
    simp [z5]
    have lenf : (renS f).list.length = f.list.length := by rw [renS_list, List.length_map]
    have := len_ctS (f := f)
    have kk : ∀ b, b < H.n → G.bk b = H.bk b := fun b hb => (z3 b hb).trans (push_old hb rfl)
    refine k g G ⟨cs, by rw [lenf]; exact z1.ivB (fun h _ => .inr h), SF_LF.2 ?_⟩ z1.flat ⟨by omega, kk⟩
    rw [renS_list]
    exact z2.imp fun c a h => h.mono (Nat.le_refl _) (fun _ _ _ => rfl) (fun b hb _ => by rcases hb.2 with q | q; exact .inl q.1; exact .inr q)
end Go.Proofs.Ytmecbehegmgbhaa.AM
namespace Go.Proofs.Ytmecbehegmgbhaa.AM
set_option linter.unusedSimpArgs false
set_option linter.unusedVariables false
set_option maxRecDepth 100000
set_option maxHeartbeats 2000000
open Go
attribute [-simp] AM.elems
theorem ex_of_stV {boxes k v b : Int} {e : Ex} {ny nz : Nat} (h : stV boxes k v b (okE 5 e) (plE e) ny nz = true) : exT1 k v e = true := by
  have pl : plE e = true → okE 5 e = true := fun h => by
    unfold plE at h
    simp only [decide_eq_true_eq] at h
    unfold okE okE1
    rw [if_pos h.1]
    simp only [decide_eq_true_eq]; omega
  unfold exT1
  simp only [Bool.and_eq_true, decide_eq_true_eq]
  unfold stV at h
  split at h
  · simp only [Bool.and_eq_true, decide_eq_true_eq] at h; exact ⟨h.2, fun _ => by omega⟩
  · split at h
    · simp only [Bool.and_eq_true, decide_eq_true_eq] at h; exact ⟨h.2, fun _ => by omega⟩
    · split at h
      · simp only [Bool.and_eq_true, decide_eq_true_eq] at h; exact ⟨h.2, fun _ => by omega⟩
      · split at h
        · simp only [Bool.and_eq_true, decide_eq_true_eq] at h; exact ⟨h.2, fun _ => by omega⟩
        · split at h
          · simp only [Bool.and_eq_true, decide_eq_true_eq] at h; exact ⟨pl h.2, fun _ => by omega⟩
          · split at h
            · simp only [Bool.and_eq_true, decide_eq_true_eq] at h; exact ⟨pl h.2, fun _ => by omega⟩
            · split at h
              · simp only [Bool.and_eq_true, decide_eq_true_eq] at h; exact ⟨h.2, fun _ => by omega⟩
              · cases h
theorem nz_nil {f : Sts} (h : f.list.length = 0) : f = .nil := by
  have := Sts.of_list f
  rw [List.eq_nil_of_length_eq_zero h] at this
  exact this.symm
/-- Blocks that are not of an if or a loop are empty. -/
theorem stV_blk {boxes k v b : Int} {x y : Bool} {ny nz : Nat} (h : stV boxes k v b x y ny nz = true) (hk : k ≠ 2 ∧ k ≠ 3) : ny = 0 ∧ nz = 0 := by
  unfold stV at h
  split at h
  · simp only [Bool.and_eq_true, decide_eq_true_eq] at h; omega
  · split at h
    · omega
    · split at h
      · omega
      · split at h
        · simp only [Bool.and_eq_true, decide_eq_true_eq] at h; omega
        · split at h
          · simp only [Bool.and_eq_true, decide_eq_true_eq] at h; omega
          · split at h
            · simp only [Bool.and_eq_true, decide_eq_true_eq] at h; omega
            · split at h
              · simp only [Bool.and_eq_true, decide_eq_true_eq] at h; omega
              · cases h
theorem ex_of_okS {boxes : Int} : ∀ {f : Sts} {n : Int}, okS boxes n f = true → exS f = true
  | .nil, _, _ => rfl
  | .cons k v b e y z r, n, h => by
    simp only [okS, Bool.and_eq_true] at h
    obtain ⟨h1, h2⟩ := h
    unfold okS1 at h1
    simp only [Bool.and_eq_true, Bool.or_eq_true, decide_eq_true_eq] at h1
    obtain ⟨h3, h4⟩ := h1
    simp only [exS, Bool.and_eq_true]
    refine ⟨⟨⟨ex_of_stV h3, ?_⟩, ?_⟩, ex_of_okS h2⟩
    · rcases h4 with q | q
      · rw [nz_nil (stV_blk h3 q).1]; rfl
      · exact ex_of_okS q.1.2
    · rcases h4 with q | q
      · rw [nz_nil (stV_blk h3 q).2]; rfl
      · exact ex_of_okS q.2
theorem renF_ok : ∀ {a : Exs} {d : Int}, okF d a = true → okF d (renF a) = true
  | .nil, _, _ => rfl
  | .cons op n a r, d, h => by
    simp only [okF, renF, Bool.and_eq_true] at h ⊢
    refine ⟨?_, renF_ok h.2⟩
    have h1 := h.1
    rw [renF_len]
    unfold okE1 at h1 ⊢
    unfold renN
    split at h1
    · rename_i h0; rw [if_pos h0, if_neg (by omega)]; exact h1
    · rename_i h0
      rw [if_neg h0]
      split at h1
      · rename_i h13
        rw [if_pos h13, if_pos h13]
        simp only [decide_eq_true_eq] at h1 ⊢
        omega
      · rename_i h13
        rw [if_neg h13, if_neg h13]
        simp only [Bool.and_eq_true] at h1 ⊢
        exact ⟨h1.1, renF_ok h1.2⟩
theorem renE_ok {e : Ex} {d : Int} (h : okE d e = true) : okE d (renE e) = true := by
  have := renF_ok (a := .cons e.op e.n e.args .nil) (d := d) (by simp only [okF, Bool.and_true]; exact h)
  simp only [renF, okF, Bool.and_true] at this
  exact this
theorem renE_pl {e : Ex} (h : plE e = true) : plE (renE e) = true := by
  unfold plE at h ⊢
  simp only [decide_eq_true_eq] at h ⊢
  unfold renE renN
  simp only [renF_len]
  rw [if_neg (by omega)]; exact h
theorem renV_v {k v : Int} (h1 : ¬ k = 1) (h5 : ¬ k = 5) : renV k v = v := by unfold renV; rw [if_neg (by omega)]
theorem renV_o {k v : Int} (h : k = 1 ∨ k = 5) : renV k v = 3 - v := by unfold renV; rw [if_pos h]
theorem stV_ren {boxes k v b : Int} {e : Ex} {ny nz : Nat} (h : stV boxes k v b (okE 5 e) (plE e) ny nz = true) : stV boxes k (renV k v) b (okE 5 (renE e)) (plE (renE e)) ny nz = true := by
  unfold stV at h ⊢
  by_cases k1 : k = 1
  · rw [renV_o (.inl k1)]
    simp only [if_pos k1, Bool.and_eq_true, decide_eq_true_eq] at h ⊢
    exact ⟨by omega, renE_ok h.2⟩
  · by_cases k5 : k = 5
    · rw [renV_o (.inr k5)]
      have k2 : ¬ k = 2 := by omega
      have k3 : ¬ k = 3 := by omega
      have k4 : ¬ k = 4 := by omega
      simp only [if_neg k1, if_neg k2, if_neg k3, if_neg k4, if_pos k5, Bool.and_eq_true, decide_eq_true_eq] at h ⊢
      exact ⟨by omega, renE_pl h.2⟩
    · rw [renV_v k1 k5]
      simp only [if_neg k1, if_neg k5] at h ⊢
      by_cases k2 : k = 2
      · simp only [if_pos k2, Bool.and_eq_true] at h ⊢
        exact ⟨h.1, renE_ok h.2⟩
      · simp only [if_neg k2] at h ⊢
        by_cases k3 : k = 3
        · simp only [if_pos k3, Bool.and_eq_true] at h ⊢
          exact ⟨h.1, renE_ok h.2⟩
        · simp only [if_neg k3] at h ⊢
          by_cases k4 : k = 4
          · simp only [if_pos k4, Bool.and_eq_true] at h ⊢
            exact ⟨h.1, renE_ok h.2⟩
          · simp only [if_neg k4] at h ⊢
            by_cases k6 : k = 6
            · simp only [if_pos k6, Bool.and_eq_true] at h ⊢
              exact ⟨h.1, renE_pl h.2⟩
            · simp only [if_neg k6] at h ⊢
              by_cases k7 : k = 7
              · simp only [if_pos k7, Bool.and_eq_true] at h ⊢
                exact ⟨h.1, renE_ok h.2⟩
              · simp only [if_neg k7] at h; cases h
theorem ren_len {f : Sts} : (renS f).list.length = f.list.length := by rw [renS_list, List.length_map]
theorem ren_ok {boxes : Int} : ∀ {f : Sts} {n : Int}, okS boxes n f = true → okS boxes n (renS f) = true
  | .nil, _, _ => rfl
  | .cons k v b e y z r, n, h => by
    simp only [okS, renS, Bool.and_eq_true] at h ⊢
    obtain ⟨h1, h2⟩ := h
    refine ⟨?_, ren_ok h2⟩
    unfold okS1 at h1 ⊢
    simp only [Bool.and_eq_true, Bool.or_eq_true, decide_eq_true_eq] at h1 ⊢
    rw [ren_len, ren_len]
    refine ⟨stV_ren h1.1, ?_⟩
    rcases h1.2 with q | q
    · exact .inl q
    · exact .inr ⟨⟨q.1.1, ren_ok q.1.2⟩, ren_ok q.2⟩
theorem ren_ct : ∀ {f : Sts}, ctS (renS f) = ctS f
  | .nil => rfl
  | .cons k v b e y z r => by simp only [renS, ctS, ren_ct (f := y), ren_ct (f := z), ren_ct (f := r)]
theorem ren_bx {many : Int} : ∀ {f : Sts}, bxS many (renS f) = bxS many f
  | .nil => rfl
  | .cons k v b e y z r => by simp only [renS, bxS, ren_bx (f := y), ren_bx (f := z), ren_bx (f := r)]
def renP (p : Pg) : Pg := ⟨p.rooms, p.tasks.map renS⟩
theorem renP_va {p : Pg} (h : vaPg p = true) : vaPg (renP p) = true := by
  unfold vaPg at h ⊢
  unfold renP
  simp only [Bool.and_eq_true, decide_eq_true_eq, List.length_map] at h ⊢
  refine ⟨h.1, ?_⟩
  rw [List.all_map]
  refine List.all_eq_true.2 fun f hf => ?_
  have := List.all_eq_true.1 h.2 f hf
  unfold vaF vaS at this
  simp only [Bool.and_eq_true, decide_eq_true_eq] at this
  simp only [Function.comp]
  unfold vaF vaS
  simp only [Bool.and_eq_true, decide_eq_true_eq]
  rw [ren_ct, ren_bx]
  exact ⟨⟨ren_ok this.1.1, this.1.2⟩, this.2⟩
def renTk (t : Tk) : Tk := ⟨t.vars.reverse, renS t.rest⟩
def renW (w : Wd) : Wd := ⟨w.tasks.map renTk, w.boxes, w.turn, w.idle, w.out⟩
theorem renP_new {p : Pg} : newW (renP p) = renW (newW p) := by
  simp [newW, renP, renW, renTk]
theorem out_ren {w : Wd} : outW (renW w) = outW w := by
  simp [outW, renW, renTk, ren_len, Function.comp_def]
  intro t ht
  have : (renS t.rest).list = [] ↔ t.rest.list = [] := by rw [renS_list]; simp
  exact decide_eq_decide.2 this
theorem rev4 {vars : List Int} (h : vars.length = 4) {n : Int} (hn : 0 ≤ n ∧ n < 4) : vars.reverse.getD (3 - n).toNat 0 = vars.getD n.toNat 0 := by
  match vars, h with
  | [a, b, c, d], _ =>
    have : n = 0 ∨ n = 1 ∨ n = 2 ∨ n = 3 := by omega
    rcases this with rfl | rfl | rfl | rfl <;> rfl
theorem rev4_set {vars : List Int} (h : vars.length = 4) {n x : Int} (hn : 0 ≤ n ∧ n < 4) : vars.reverse.set (3 - n).toNat x = (vars.set n.toNat x).reverse := by
  match vars, h with
  | [a, b, c, d], _ =>
    have : n = 0 ∨ n = 1 ∨ n = 2 ∨ n = 3 := by omega
    rcases this with rfl | rfl | rfl | rfl <;> rfl
theorem ev_ren {vars : List Int} (h4 : vars.length = 4) : ∀ {a : Exs} {d : Int}, okF d a = true → evF vars.reverse (renF a) = evF vars a
  | .nil, _, _ => rfl
  | .cons op n a r, d, h => by
    simp only [okF, Bool.and_eq_true] at h
    simp only [renF, evF]
    rw [ev_ren h4 h.2]
    congr 1
    have h1 := h.1
    unfold okE1 at h1
    unfold evE1 renN
    split at h1
    · rename_i h0; rw [if_pos h0, if_pos h0, if_neg (by omega)]
    · rename_i h0
      rw [if_neg h0, if_neg h0]
      split at h1
      · rename_i h13
        simp only [decide_eq_true_eq] at h1
        rw [if_pos h13, if_pos h13, if_pos h13]
        exact rev4 h4 (by omega)
      · rename_i h13
        simp only [Bool.and_eq_true] at h1
        rw [if_neg h13, if_neg h13, ev_ren h4 h1.2]
theorem evE_ren {vars : List Int} (h4 : vars.length = 4) {e : Ex} {d : Int} (h : okE d e = true) : evE vars.reverse (renE e) = evE vars e := by
  have := ev_ren h4 (a := .cons e.op e.n e.args .nil) (d := d) (by simp only [okF, Bool.and_true]; exact h)
  simp only [renF, evF, List.cons.injEq, and_true] at this
  exact this
theorem ren_blk {s : St1} {r : List St1} {x : Int} : blkR (renT1 s) (r.map renT1) x = renS (blkR s r x) := by
  unfold blkR
  have e1 : ∀ l : List St1, renS (Sts.of l) = Sts.of (l.map renT1) := fun l => renS_of
  have ek : (renT1 s).k = s.k := rfl
  rw [ek]
  by_cases k2 : s.k = 2
  · rw [if_pos k2, if_pos k2, e1]
    by_cases hx : x ≠ 0
    · rw [if_pos hx, if_pos hx]; simp [renS_list, renT1]
    · rw [if_neg hx, if_neg hx]; simp [renS_list, renT1]
  · rw [if_neg k2, if_neg k2]
    by_cases hx : x ≠ 0
    · rw [if_pos hx, if_pos hx, e1]; simp [renS_list, renT1]
    · rw [if_neg hx, if_neg hx, e1]
theorem stepP_ren {boxes : Int} {t : Tk} {bs : List Bx} (hva : vaT boxes t = true) : stepP (renTk t) bs = (renTk (stepP t bs).1, (stepP t bs).2) := by
  obtain ⟨h4, f2, f3, f4⟩ := vaT_facts hva
  unfold stepP
  have hl : (renTk t).rest.list = t.rest.list.map renT1 := renS_list
  rw [hl]
  cases hr : t.rest.list with
  | nil => rfl
  | cons s r =>
    have hok := (vaS_one ((vaT_iff.1 hva).2.2 s (by rw [hr]; exact List.mem_cons_self))).1
    obtain ⟨hk17, hoe, hvv, hbb, _⟩ := okT_facts hok
    simp only [List.map_cons]
    have ek : (renT1 s).k = s.k := rfl
    have eb : (renT1 s).b = s.b := rfl
    have ee : (renT1 s).e = renE s.e := rfl
    have ev : (renT1 s).v = renV s.k s.v := rfl
    have evv : (renTk t).vars = t.vars.reverse := rfl
    have er : ∀ v : List Int, (⟨v.reverse, Sts.of (r.map renT1)⟩ : Tk) = renTk ⟨v, Sts.of r⟩ := fun v => by unfold renTk; rw [renS_of]
    rw [ek]
    by_cases k45 : s.k = 4 ∨ s.k = 5
    · rw [if_pos k45, if_pos k45]
      unfold talkP
      rw [eb]
      cases hbx : bs[s.b.toNat]? with
      | none => rfl
      | some bx =>
        simp only [ek]
        by_cases k4 : s.k = 4
        · simp only [if_pos k4, ee, evv]
          rw [evE_ren h4 (hoe (by omega) (by omega))]
          split
          · rw [er]
          · rfl
        · simp only [if_neg k4]
          cases bx.items with
          | nil => rfl
          | cons y q =>
            have k5 : s.k = 5 := by omega
            simp only [ev, evv]
            rw [show renV s.k s.v = 3 - s.v by unfold renV; rw [if_pos (.inr k5)], rev4_set h4 (hvv (.inr k5)), er]
    · rw [if_neg k45, if_neg k45]
      by_cases k23 : s.k = 2 ∨ s.k = 3
      · rw [if_pos k23, if_pos k23, ee, evv, evE_ren h4 (hoe (by omega) (by omega)), ren_blk]; rfl
      · rw [if_neg k23, if_neg k23]
        by_cases k1 : s.k = 1
        · rw [if_pos k1, if_pos k1, ee, evv, ev, evE_ren h4 (hoe (by omega) (by omega)), show renV s.k s.v = 3 - s.v by unfold renV; rw [if_pos (.inl k1)], rev4_set h4 (hvv (.inl k1)), er]
        · rw [if_neg k1, if_neg k1]
          by_cases k6 : s.k = 6
          · rw [if_pos k6, if_pos k6, evv, er]
          · rw [if_neg k6, if_neg k6, ee, evv, evE_ren h4 (hoe (by omega) (by omega)), er]
theorem step_ren {w : Wd} (hv : vaWd w = true) : stepW (renW w) = renW (stepW w) := by
  obtain ⟨h1, h2, h3, h4⟩ := vaWd_iff.1 hv
  obtain ⟨t, ht⟩ : ∃ t, w.tasks[w.turn.toNat]? = some t := ⟨_, List.getElem?_eq_getElem (by omega)⟩
  have e1 : (renW w).tasks[(renW w).turn.toNat]? = some (renTk t) := by
    show (w.tasks.map renTk)[w.turn.toNat]? = _
    rw [List.getElem?_map, ht]; rfl
  unfold stepW
  rw [e1, ht]
  simp only [renW, stepP_ren (h4 t (List.mem_of_getElem? ht)), List.length_map, List.map_set]
theorem run_ren (n : Nat) : ∀ {w : Wd} (hv : vaWd w = true), runW n (renW w) = renW (runW n w) := by
  induction n with
  | zero => intro w hv; rfl
  | succ n ih =>
    intro w hv
    by_cases h : w.idle < w.tasks.length
    · rw [runW_succ h, runW_succ (by simpa [renW] using h), step_ren hv, ih (stepW_keeps hv h).1]
    · rw [runW_rest h, runW_rest (by simpa [renW] using h)]
theorem Names_l {l : List Sts} (hf : ∀ f ∈ l, exS f = true ∧ ctS f ≤ 1000) (hll : l.length ≤ 10) {P3 P8 : Nat} {vr vt : AV} (h38 : P3 < P8) {Q : Out → Env → AH → Prop} (m i : Nat) (hm : i + m = l.length) {G : AH} {g : AV} {cs : List AV} {B : Nat} (hb : P8 + 1 ≤ G.n) (hv : LV (fun b => b < P8) G vt l)
    (g3 : G.bk P3 = some ⟨[vr, vt], true⟩) (g8 : G.bk P8 = some ⟨[vr, g], true⟩) (hg : GrS (P8 + 1) G g i 1 cs B) (he : LF 1 (L1 (fun b => b ≠ B ∧ b ≠ P8) G) ((l.take i).map renS) cs)
    (hQ : ∀ e G' g' cs' B', GrS (P8 + 1) G' g' l.length 1 cs' B' → LF 1 (L1 (fun b => b ≠ B' ∧ b ≠ P8) G') (l.map renS) cs' → G'.bk P8 = some ⟨[vr, g'], true⟩ → (∀ b, b < P8 + 1 → b ≠ P8 → G'.bk b = G.bk b) → G.n ≤ G'.n → get e 3 = some (.ptr P3 0) → get e 8 = some (.ptr P8 0) → Q (.brk 0) e G') :
    W Cd (.loop c_wFnWorldNames_l0) [(3, .ptr P3 0), (8, .ptr P8 0), (9, .I i)] G Q := by
  induction m generalizing i G g cs B with
  | zero =>
    rw [W_loop_as c_wFnWorldNames_l0.eq_1]
    have : i = l.length := by omega
    subst this
    simp [load_bk g3, hv.alen]
    rw [List.take_length] at he
    exact hQ _ G g cs B hg he g8 (fun _ _ _ => rfl) (Nat.le_refl _) rfl rfl
  | succ m ihm =>
    rw [W_loop_as c_wFnWorldNames_l0.eq_1]
    have hlt : i < l.length := by omega
    have hlt' : (i : Int) < l.length := by omega
    obtain ⟨f, hfi⟩ : ∃ f, l[i]? = some f := ⟨_, List.getElem?_eq_getElem hlt⟩
    obtain ⟨hx, hct⟩ := hf f (List.mem_of_getElem? hfi)
    obtain ⟨ca, hs1, hs2⟩ := id hv
    obtain ⟨b, o, cap, e1, ob, hbn, hs⟩ := hs1.at hlt
    obtain ⟨c, hc, u, rfl, sv⟩ := hs2.get hfi
    have lu : G.load b (o + i) = some u := by
      have hh := hs i 1 (by omega)
      rw [Nat.mul_one] at hc
      rw [hc] at hh
      simpa using loadN_get hh (i := 0) (by omega)
    have hv0 := hv
    subst e1
    simp (disch := omega) [load_bk g3, load_bk g8, hlt', lu]
    refine K_wotherVars f sv hx hct fun v' H2 sv2 fv x2 => ?_
    have n2 := x2.1
    have xp := x2.trans (Ext.push H2 [v'])
    have hli : ((l.take i).map renS).length = i := by rw [List.length_map, List.length_take]; omega
    have htk : (l.take (i + 1)).map renS = (l.take i).map renS ++ [renS f] := by rw [List.take_add_one, hfi]; simp
    obtain ⟨g', G', B', a1, a2, a3, a4, a5, a6⟩ := LF.snocN (E := fun okk H c x => L1 (fun b => okk b ∧ b ≠ P8) H c x) (base := P8 + 1) (l := (l.take i).map renS) (c := [v']) (x := renS f) (fun h h1 h2 h3 => h.mono h1 (fun b hb => h2 b hb.1) (fun b hb h => ⟨h3 b hb.1 h, hb.2⟩)) (by rw [hli]; exact hg) he (by omega) xp rfl ⟨v', rfl, (sv2.ext (Ext.push H2 [v'])).mono (Nat.le_refl _) (fun _ _ _ => rfl) (fun b hb _ => by rcases hb with q | q; exact ⟨.inl (by omega), by omega⟩; exact ⟨.inr q, by omega⟩)⟩ (by omega)
    rw [← htk] at a2 a3
    have hli2 : ((l.take (i + 1)).map renS).length = i + 1 := by rw [List.length_map, List.length_take]; omega
    rw [hli2] at a2
    have e8 : AM.elems (H2.push [v']) 1 (.sl H2.n 0 1 (.ex 1)) = some [v'] := by
      show AH.loadN _ _ _ _ = _
      rw [loadN_bk push_new]; rfl
    have g8' := (a4 P8 (by omega)).trans g8
    have st := store_cell (v := g') g8' (o := 1) (by simp)
    simp only [List.set_cons_succ, List.set_cons_zero] at st
    simp only [push_n] at a5
    simp (disch := omega) [x2, flat_cells fv, flat_tup fv, e8, a1, flat_cells a6, flat_tup a6, st]
    have hk : ∀ b, b ≠ P8 → (G'.put P8 (some ⟨[vr, g'], true⟩)).bk b = G'.bk b := fun b hb => by rw [put_bk, if_neg hb]
    have := ihm (i + 1) (by omega) (G := G'.put P8 (some ⟨[vr, g'], true⟩)) (g := g') (by simp; omega) (hv0.mono (by simp; omega) (fun b hb _ => by rw [hk b (by omega), a4 b (by omega)]) (fun _ h _ => h)) (by rw [hk _ (by omega), a4 _ (by omega)]; exact g3) put_same
      (a2.keep1 (by simp) (fun h _ => hk _ (by omega))) (a3.imp fun c a h => h.mono (by simp) (fun b hb _ => hk b hb.2) (fun _ h _ => h))
      (fun e G2 g2 c2 B2 z1 z2 z3 z4 z5 z6 z7 => hQ e G2 g2 c2 B2 z1 z2 z3 (fun b hb h8 => by rw [z4 b hb h8, hk b h8, a4 b hb]) (by simp at z5; omega) z6 z7)
    simpa using this
theorem law_FnWorldNames {H : AH} {v : AV} {zs : List Int} (h : SlI H .u8 v zs) (hz : ∀ n ∈ zs, 0 ≤ n ∧ n < 256) : CallK Cd f_wFnWorldNames [v] H fun v _ => v = .b true := by
  rw [CallK_F, CallF_eq e_wFnWorldNames rfl]
  have hlen : alen v = some zs.length := by
    rcases h with ⟨rfl, rfl⟩ | ⟨rfl, rfl⟩ | ⟨b, rest, hb, rfl, hb2⟩ <;> rfl
  simp [hlen]
  refine cnd_mk (fun _ => by simp) (fun hl => ?_)
  simp
  refine K_sDrawWorldNew h hz (by omega) fun c p H1 pc hct htl hrl x01 => ?_
  obtain ⟨vr, vt, rfl, _, _⟩ := id pc
  have x1 := Ext.push H1 [vr, vt]
  simp [store_push2e, loadN_push]
  refine K_iWorldNew (pc.ext x1) (fun f hf => by have := hct f hf; omega) fun c2 H2 wc2 x2 => ?_
  obtain ⟨W, hW⟩ : ∃ W, W = (if vaPg p = true then newW p else zeroW) := ⟨_, rfl⟩
  rw [← hW] at wc2
  obtain ⟨vt2, vb2, vo2, rfl, _, _, _⟩ := id wc2
  have n2 : H1.n < H2.n := by have := x2.1; simp at this; omega
  have q3 : H2.bk H1.n = some ⟨[vr, vt], true⟩ := (x2.2 _ (by simp)).trans push_new
  have x3 := Ext.push H2 [vt2, vb2, .I W.turn, .I W.idle, vo2]
  have q3' : (H2.push [vt2, vb2, .I W.turn, .I W.idle, vo2]).bk H1.n = some ⟨[vr, vt], true⟩ := (x3.2 _ n2).trans q3
  have y3 := (x1.trans x2).trans x3
  simp [store_push5e, loadN_bk q3']
  refine K_sWorldNew (pc.ext y3) (fun f hf => by have := hct f hf; omega) fun c4 H4 wc4 x4 => ?_
  rw [← hW] at wc4
  obtain ⟨vt4, vb4, vo4, rfl, _, _, _⟩ := id wc4
  have x5 := Ext.push H4 [vt4, vb4, .I W.turn, .I W.idle, vo4]
  have n4 : H2.n < H4.n := by have := x4.1; simp at this; omega
  have q5 : (H4.push [vt4, vb4, .I W.turn, .I W.idle, vo4]).bk H2.n = some ⟨[vt2, vb2, .I W.turn, .I W.idle, vo2], true⟩ := (x5.2 _ n4).trans ((x4.2 _ (by simp)).trans push_new)
  simp [store_push5e, loadN_bk q5, loadN_push]
  have y5 := (x3.trans x4).trans x5
  refine T_wsameWorld (wc2.ext y5) (wc4.ext x5) fun H7 x7 => ?_
  have z2 := y5.trans x7
  have z1 := (x1.trans x2).trans z2
  have z0 := x01.trans z1
  have hn7 : H1.n < H7.n ∧ H2.n < H7.n ∧ H1.n < H2.n := by have := x7.1; simp at this; omega
  have p3 : H7.bk H1.n = some ⟨[vr, vt], true⟩ := (z2.2 _ n2).trans q3
  have p5 : H7.bk H2.n = some ⟨[vt2, vb2, .I W.turn, .I W.idle, vo2], true⟩ := (x7.2 _ (by simp; omega)).trans q5
  have p7 : H7.bk H4.n = some ⟨[vt4, vb4, .I W.turn, .I W.idle, vo4], true⟩ := (x7.2 _ (by simp)).trans push_new
  have pc7 := pc.ext z1
  have wc7 := wc2.ext z2
  have wc47 := wc4.ext (x5.trans x7)
  clear z1 z2 y5 y3 x2 x4 x7 x5 x3 x1 x01 pc wc2 wc4 q3 q3' q5 n2 n4
  cases hv : vaPg p with
  | false =>
    simp [loadN_bk p5, loadN_bk p7]
    exact T_wsameWorld wc7 wc47 fun H8 x8 => by simp
  | true =>
  rw [hv, if_pos rfl] at hW
  subst hW
  obtain ⟨hva, bo, bx⟩ := newW_bo hv
  simp
  have hv' := hv
  unfold vaPg at hv'
  simp only [Bool.and_eq_true, decide_eq_true_eq, List.all_eq_true] at hv'
  have hl3 : p.tasks.length ≤ 3 := by omega
  have hva2 : ∀ f ∈ p.tasks, okS 3 3 f = true ∧ ctS f ≤ 16 := fun f hf => by
    have := hv'.2 f hf
    unfold vaF vaS at this
    simp only [Bool.and_eq_true, decide_eq_true_eq] at this
    exact this.1
  obtain ⟨_, _, e, ir, lt⟩ := id pc7
  simp only [List.cons.injEq, and_true] at e
  obtain ⟨rfl, rfl⟩ := e
  have fvr : vr.flat = true := SlC.flat ir
  have x8 := Ext.push H7 [vr, .nils]
  simp [load_bk p3, flat_cells fvr, flat_tup fvr, store_push2e]
  have := Names_l (l := p.tasks) (fun f hf => ⟨ex_of_okS (hva2 f hf).1, by have := (hva2 f hf).2; omega⟩) (by omega) (P3 := H1.n) (P8 := H7.n) (vr := vr) (vt := vt) (by omega) (Q := ?_) p.tasks.length 0 (by omega) (G := H7.push [vr, .nils]) (g := .nils) (cs := []) (B := 0) (by simp) ((lt.mono (ok' := fun b => b < H7.n) (Nat.le_refl _) (fun _ _ _ => rfl) (fun b _ hb => hb)).ext x8) ((x8.2 _ (by omega)).trans p3) push_new GrS.nils rfl ?_
  · simpa using this
  · intro e G g cs B z1 z2 z3 z4 z5 z6 z7
    simp only [push_n] at z5
    have kG : ∀ b, b < H7.n → G.bk b = H7.bk b := fun b hb => (z4 b (by omega) (by omega)).trans (x8.2 b hb)
    have xG : Ext H7 G := ⟨by omega, kG⟩
    have hvx := renP_va hv
    have hlm : (p.tasks.map renS).length = p.tasks.length := by simp
    have pcx : PgC (fun _ => True) G [vr, g] (renP p) := ⟨_, _, rfl, ((show IV _ H7 vr p.rooms from ir).ext xG).mono (Nat.le_refl _) (fun _ _ _ => rfl) (fun _ _ _ => trivial), cs, by
      show SlC _ G g (p.tasks.map renS).length 1 cs
      rw [hlm]; exact z1.ivB (fun _ _ => trivial), z2.imp fun c a h => h.mono (Nat.le_refl _) (fun _ _ _ => rfl) (fun _ _ _ => trivial)⟩
    simp [z6, z7, loadN_bk z3]
    refine K_wrestOf pcx hvx (by omega) fun c1 Ha oa xa => ?_
    rw [show (60 : Int).toNat = 60 from rfl] at oa
    have pa := (xa.2 H1.n (by omega)).trans ((kG _ (by omega)).trans p3)
    simp [xa, loadN_bk pa]
    refine K_wrestOf (pc7.ext (xG.trans xa)) hv (by omega) fun c2 Hb ob xb => ?_
    rw [show (60 : Int).toNat = 60 from rfl] at ob
    have hout : outW (runW 60 (newW (renP p))) = outW (runW 60 (newW p)) := by
      rw [renP_new, run_ren 60 hva, out_ren]
    rw [hout] at oa
    simp [xb]
    refine T_wsameOutcome (oa.ext xb) ob fun Hc xc => ?_
    have q8 := ((xa.trans (xb.trans xc)).2 H7.n (by omega)).trans z3
    simp [xc, loadN_bk q8]
    refine K_iProgramValid (pcx.ext (xa.trans (xb.trans xc))) (fun f hf => ?_) fun Hd xd => ?_
    · simp only [renP, List.mem_map] at hf
      obtain ⟨f0, h0, rfl⟩ := hf
      rw [ren_ct]
      have := (hva2 f0 h0).2; omega
    · rw [hvx]; simp [xd]
end Go.Proofs.Ytmecbehegmgbhaa.AM
namespace Go.Proofs.Ytmecbehegmgbhaa.AM
set_option linter.unusedSimpArgs false
set_option linter.unusedVariables false
set_option maxRecDepth 100000
set_option maxHeartbeats 1000000
open Go
attribute [-simp] AM.elems
def fold1 (op n : Int) : List Ex → Ex
  | [x, y] => if x.op = 0 ∧ y.op = 0 ∧ 0 ≤ applyM op x.n y.n ∧ applyM op x.n y.n ≤ 99999 then ⟨0, applyM op x.n y.n, .nil⟩ else ⟨op, 0, Exs.of [x, y]⟩
  | _ => ⟨op, n, .nil⟩
def foF : Exs → Exs
  | .nil => .nil
  | .cons op n a r => .cons (fold1 op n (foF a).list).op (fold1 op n (foF a).list).n (fold1 op n (foF a).list).args (foF r)
def foE (e : Ex) : Ex := fold1 e.op e.n (foF e.args).list
theorem foF_list : ∀ {a : Exs}, (foF a).list = a.list.map foE
  | .nil => rfl
  | .cons op n a r => by simp only [foF, Exs.list, List.map_cons, foF_list (a := r)]; rfl
theorem two_args {a : Exs} (h : a.list.length = 2) : ∃ x y, a.list = [x, y] := by
  match hh : a.list with
  | [x, y] => exact ⟨x, y, rfl⟩
  | [] => rw [hh] at h; simp at h
  | [_] => rw [hh] at h; simp at h
  | _ :: _ :: _ :: _ => rw [hh] at h; simp at h
/-- A simplified expression is valid. -/
theorem fold1_ok (a : Exs) : ∀ {d op n : Int}, okE1 d op n a.list.length (okF (d - 1) a) = true → okE d (fold1 op n (foF a).list) = true := by
  induction a using Exs.ind with
  | h a ih =>
  intro d op n h
  rw [foF_list]
  have h' := h
  unfold okE1 at h
  by_cases h0 : op = 0
  · simp only [if_pos h0, decide_eq_true_eq] at h
    have : a.list = [] := List.eq_nil_of_length_eq_zero (by omega)
    rw [this]
    unfold okE okE1 fold1
    simp only [List.map_nil, if_pos h0, decide_eq_true_eq]
    exact ⟨h.1, h.2.1, rfl, h.2.2.2⟩
  · by_cases h13 : op = 13
    · simp only [if_neg h0, if_pos h13, decide_eq_true_eq] at h
      have : a.list = [] := List.eq_nil_of_length_eq_zero (by omega)
      rw [this]
      unfold okE okE1 fold1
      simp only [List.map_nil, if_neg h0, if_pos h13, decide_eq_true_eq]
      exact ⟨h.1, h.2.1, rfl, h.2.2.2⟩
    · simp only [if_neg h0, if_neg h13, Bool.and_eq_true, decide_eq_true_eq] at h
      obtain ⟨x, y, hal⟩ := two_args h.1.2.2.2.1
      have hsub := h.2
      rw [okF_mem, hal] at hsub
      simp only [List.all_cons, List.all_nil, Bool.and_true, Bool.and_eq_true] at hsub
      have hx := ih x (by rw [hal]; simp) (d := d - 1) hsub.1
      have hy := ih y (by rw [hal]; simp) (d := d - 1) hsub.2
      rw [hal]
      simp only [List.map_cons, List.map_nil, fold1]
      split
      · rename_i hc
        unfold okE okE1
        simp only [if_true, decide_eq_true_eq]
        exact ⟨hc.2.2.1, hc.2.2.2, rfl, by omega⟩
      · unfold okE okE1
        simp only [if_neg h0, if_neg h13, Bool.and_eq_true, decide_eq_true_eq]
        refine ⟨⟨h.1.1, h.1.2.1, trivial, by simp, h.1.2.2.2.2⟩, ?_⟩
        rw [okF_mem, Exs.list_of]
        simp only [List.all_cons, List.all_nil, Bool.and_true, Bool.and_eq_true]
        exact ⟨hx, hy⟩
theorem foE_ok {e : Ex} {d : Int} (h : okE d e = true) : okE d (foE e) = true := fold1_ok e.args h
/-- It has the same value. -/
theorem fold1_ev (vars : List Int) (a : Exs) : ∀ {d op n : Int}, okE1 d op n a.list.length (okF (d - 1) a) = true → evE vars (fold1 op n (foF a).list) = evE1 vars op n (evF vars a) := by
  induction a using Exs.ind with
  | h a ih =>
  intro d op n h
  rw [foF_list]
  unfold okE1 at h
  by_cases h0 : op = 0
  · simp only [if_pos h0, decide_eq_true_eq] at h
    have : a.list = [] := List.eq_nil_of_length_eq_zero (by omega)
    rw [this]
    unfold evE evE1 fold1
    simp only [List.map_nil, if_pos h0]
  · by_cases h13 : op = 13
    · simp only [if_neg h0, if_pos h13, decide_eq_true_eq] at h
      have : a.list = [] := List.eq_nil_of_length_eq_zero (by omega)
      rw [this]
      unfold evE evE1 fold1
      simp only [List.map_nil, if_neg h0, if_pos h13]
    · simp only [if_neg h0, if_neg h13, Bool.and_eq_true, decide_eq_true_eq] at h
      obtain ⟨x, y, hal⟩ := two_args h.1.2.2.2.1
      have hsub := h.2
      rw [okF_mem, hal] at hsub
      simp only [List.all_cons, List.all_nil, Bool.and_true, Bool.and_eq_true] at hsub
      have hx : evE vars (foE x) = evE vars x := ih x (by rw [hal]; simp) (d := d - 1) hsub.1
      have hy : evE vars (foE y) = evE vars y := ih y (by rw [hal]; simp) (d := d - 1) hsub.2
      rw [evF_map, hal]
      simp only [List.map_cons, List.map_nil, fold1]
      have e2 : evE1 vars op n [evE vars x, evE vars y] = applyM op (evE vars x) (evE vars y) := by
        unfold evE1; rw [if_neg h0, if_neg h13]; rfl
      rw [e2]
      have n0 : ∀ e : Ex, e.op = 0 → evE vars e = e.n := fun e he => by unfold evE evE1; rw [if_pos he]
      split
      · rename_i hc
        rw [n0 _ rfl, ← hx, ← hy, n0 _ hc.1, n0 _ hc.2.1]
      · have : evE vars ⟨op, 0, Exs.of [foE x, foE y]⟩ = applyM op (evE vars (foE x)) (evE vars (foE y)) := by
          unfold evE evE1
          simp only
          rw [if_neg h0, if_neg h13, evF_map, Exs.list_of]; rfl
        rw [this, hx, hy]
theorem foE_ev {vars : List Int} {e : Ex} {d : Int} (h : okE d e = true) : evE vars (foE e) = evE vars e := fold1_ev vars e.args h
theorem fold1_num {e : Ex} {d : Int} (h : okE d e = true) (h0 : e.op = 0) : 0 ≤ e.n ∧ e.n ≤ 99999 := by
  unfold okE okE1 at h
  simp only [if_pos h0, decide_eq_true_eq] at h
  omega
theorem K_iexprFold (a : Exs) : ∀ {ok : Nat → Prop} {H : AH} {K : AV → AH → Prop} {w : Fk K} {op n d : Int} {v : AV}, EV ok H v a → okE1 d op n a.list.length (okF (d - 1) a) = true →
    (∀ v' H', EV (fun b => H.n ≤ b) H' v' (fold1 op n (foF a).list).args → v'.flat = true → Ext H H' → K (.agg [.I (fold1 op n (foF a).list).op, .I (fold1 op n (foF a).list).n, v']) H') → CallF Cd f_iexprFold [.agg [.I op, .I n, v]] H K w := by
  induction a using Exs.ind with
  | h a ih =>
  intro ok H K w op n d v h hok k
  have hfl := h.flat
  have hl := h.alen
  have x1 : Ext H ((H.push [.I op, .I n, v]).push [.I 0, .I 0, .nils]) := (Ext.push _ _).trans (Ext.push _ _)
  have q1 : ((H.push [.I op, .I n, v]).push [.I 0, .I 0, .nils]).bk H.n = some ⟨[.I op, .I n, v], true⟩ := push_old (by simp) push_new
  have st : ∀ l : List AV, l.length = 3 → ((H.push [.I op, .I n, v]).push [.I 0, .I 0, .nils]).store (H.n + 1) 0 l = some ((H.push [.I op, .I n, v]).push l) := fun l hl => by
    have := store_bk (H := (H.push [.I op, .I n, v]).push [.I 0, .I 0, .nils]) (b := H.n + 1) (o := 0) (vs := l) (push_new (H := H.push [.I op, .I n, v])) (by simp; omega)
    rw [this]
    congr 1
    refine AH.same rfl fun b => ?_
    by_cases hb : b = H.n + 1
    · simp [hb, splice, hl]
    · simp [hb]
  rw [CallF_eq e_iexprFold rfl]
  by_cases h0 : a.list.length = 0
  · have e0 : a.list = [] := List.eq_nil_of_length_eq_zero h0
    rw [foF_list, e0] at k
    have st1 := st [.I op, .I n, .nils] rfl
    have q9 : ((H.push [.I op, .I n, v]).push [.I op, .I n, .nils]).bk (H.n + 1) = some ⟨[.I op, .I n, .nils], true⟩ := push_new (H := H.push [.I op, .I n, v])
    simp [load_bk q1, hl, h0, e0, st1, loadN_bk q9]
    exact k .nils _ (EV.nil (.inl rfl)) rfl ((Ext.push _ _).trans (Ext.push _ _))
  unfold okE1 at hok
  have h00 : ¬ op = 0 := fun h => by rw [if_pos h] at hok; simp only [decide_eq_true_eq] at hok; omega
  have h13 : ¬ op = 13 := fun h => by rw [if_neg h00, if_pos h] at hok; simp only [decide_eq_true_eq] at hok; omega
  rw [if_neg h00, if_neg h13] at hok
  simp only [Bool.and_eq_true, decide_eq_true_eq] at hok
  obtain ⟨⟨_, _, hn0, h2, _⟩, hsub⟩ := hok
  obtain ⟨e1, e3, hal⟩ := two_args h2
  have hx := h.ext x1
  obtain ⟨b, o, cap, va, ev, ob, hbn, l1, ea⟩ := hx.at (i := 0) (e := e1) (by rw [hal]; rfl)
  obtain ⟨b', o', cap', vb, ev', ob', hbn', l2, eb⟩ := hx.at (i := 1) (e := e3) (by rw [hal]; rfl)
  rw [hal] at ev ev'
  rw [ev] at ev'
  simp only [AV.sl.injEq, true_and] at ev'
  obtain ⟨rfl, rfl, rfl⟩ := ev'
  have ev2 : v = .sl b o 2 cap := ev
  clear ev
  subst ev2
  have ok1 : okE (d - 1) e1 = true ∧ okE (d - 1) e3 = true := by
    rw [okF_mem, hal] at hsub
    simpa using hsub
  simp only [Nat.zero_mul, Nat.add_zero, Nat.one_mul] at l1 l2
  rw [foF_list, hal] at k
  simp only [List.map_cons, List.map_nil] at k
  simp [load_bk q1, l1]
  refine ih e1 (by rw [hal]; simp) ea ok1.1 fun v1 H2 ev1 f1 x2 => ?_
  have q2 := (x2.2 H.n (by simp; omega)).trans q1
  have l2' := loadN_extE l2 x2 hbn'
  simp [x2, load_bk q2, l2']
  refine ih e3 (by rw [hal]; simp) (eb.ext x2) ok1.2 fun v2 H3 ev2 f2 x3 => ?_
  have n2 := x2.1
  have n3 := x3.1
  simp only [push_n] at n2
  obtain ⟨A, hA⟩ : ∃ A, A = foE e1 := ⟨_, rfl⟩
  obtain ⟨B, hB⟩ : ∃ B, B = foE e3 := ⟨_, rfl⟩
  rw [show fold1 e1.op e1.n (foF e1.args).list = A from hA.symm] at ev1 ⊢
  rw [show fold1 e3.op e3.n (foF e3.args).list = B from hB.symm] at ev2 ⊢
  rw [← hA, ← hB] at k
  have okA : okE (d - 1) A = true := by rw [hA]; exact foE_ok ok1.1
  have okB : okE (d - 1) B = true := by rw [hB]; exact foE_ok ok1.2
  have stA : ((H3.push [.I 0, .I 0, .nils]).push [.I 0, .I 0, .nils]).store H3.n 0 [.I A.op, .I A.n, v1] = some ((H3.push [.I A.op, .I A.n, v1]).push [.I 0, .I 0, .nils]) := by
    rw [store_bk (push_old (by simp) push_new) (by simp)]
    congr 1
    refine AH.same rfl fun b => ?_
    by_cases hb : b = H3.n
    · simp [hb, splice]
    · simp [hb]
  have stB : ((H3.push [.I A.op, .I A.n, v1]).push [.I 0, .I 0, .nils]).store (H3.n + 1) 0 [.I B.op, .I B.n, v2] = some ((H3.push [.I A.op, .I A.n, v1]).push [.I B.op, .I B.n, v2]) := by
    have h9 := store_bk (H := (H3.push [.I A.op, .I A.n, v1]).push [.I 0, .I 0, .nils]) (b := H3.n + 1) (o := 0) (vs := [.I B.op, .I B.n, v2]) (push_new (H := H3.push [.I A.op, .I A.n, v1])) (by simp)
    rw [h9]
    congr 1
    refine AH.same rfl fun b => ?_
    by_cases hb : b = H3.n + 1
    · simp [hb, splice]
    · simp [hb]
  have x4 : Ext H3 ((H3.push [.I A.op, .I A.n, v1]).push [.I B.op, .I B.n, v2]) := (Ext.push _ _).trans (Ext.push _ _)
  obtain ⟨G, hG⟩ : ∃ G, G = (H3.push [.I A.op, .I A.n, v1]).push [.I B.op, .I B.n, v2] := ⟨_, rfl⟩
  have nG : G.n = H3.n + 2 := by rw [hG]; rfl
  have pA : G.bk H3.n = some ⟨[.I A.op, .I A.n, v1], true⟩ := by rw [hG]; exact push_old (by simp) push_new
  have pB : G.bk (H3.n + 1) = some ⟨[.I B.op, .I B.n, v2], true⟩ := by rw [hG]; exact push_new (H := H3.push [.I A.op, .I A.n, v1])
  rw [← hG] at x4 stB
  have y4 := (x2.trans x3).trans x4
  have q4 := (y4.2 H.n (by simp; omega)).trans q1
  have qd : G.bk (H.n + 1) = some ⟨[.I 0, .I 0, .nils], true⟩ := (y4.2 _ (by simp)).trans (push_new (H := H.push [.I op, .I n, .sl b o 2 cap]))
  simp [x3, stA, stB, load_bk pA, load_bk pB]
  -- no number comes out
  have both : (¬ (A.op = 0 ∧ B.op = 0 ∧ 0 ≤ applyM op A.n B.n ∧ applyM op A.n B.n ≤ 99999)) → ∃ G5, (G.push [.I A.op, .I A.n, v1, .I B.op, .I B.n, v2]).store (H.n + 1) 0 [.I op, .I 0, .sl G.n 0 2 (.ex 2)] = some G5 ∧ G5.loadN (H.n + 1) 0 3 = some [.I op, .I 0, .sl G.n 0 2 (.ex 2)] ∧ K (.agg [.I op, .I 0, .sl G.n 0 2 (.ex 2)]) G5 := by
    intro hc
    have e2 : fold1 op n [A, B] = ⟨op, 0, Exs.of [A, B]⟩ := by simp only [fold1]; rw [if_neg hc]
    rw [e2] at k
    have xp := Ext.push G [.I A.op, .I A.n, v1, .I B.op, .I B.n, v2]
    have st4 : (G.push [.I A.op, .I A.n, v1, .I B.op, .I B.n, v2]).store (H.n + 1) 0 [.I op, .I 0, .sl G.n 0 2 (.ex 2)] = some ((G.push [.I A.op, .I A.n, v1, .I B.op, .I B.n, v2]).put (H.n + 1) (some ⟨[.I op, .I 0, .sl G.n 0 2 (.ex 2)], true⟩)) := store_bk ((xp.2 _ (by omega)).trans qd) (by simp)
    refine ⟨_, st4, by rw [loadN_bk put_same]; rfl, ?_⟩
    have hk : ∀ b, b ≠ H.n + 1 → ((G.push [.I A.op, .I A.n, v1, .I B.op, .I B.n, v2]).put (H.n + 1) (some ⟨[.I op, .I 0, .sl G.n 0 2 (.ex 2)], true⟩)).bk b = (G.push [.I A.op, .I A.n, v1, .I B.op, .I B.n, v2]).bk b := fun b hb => by rw [put_bk, if_neg hb]
    have yy := (x3.trans x4).trans xp
    refine k _ _ ⟨[.I A.op, .I A.n, v1, .I B.op, .I B.n, v2], ⟨by simp, rfl, .inr ⟨G.n, 0, _, rfl, ⟨by omega, by simp [capOk]⟩, by simp, ?_⟩⟩, ?_⟩ rfl ((x1.trans (y4.trans xp)).put (by omega))
    · rw [loadN_bk ((hk _ (by omega)).trans push_new)]; rfl
    · obtain ⟨cx, h1, h2⟩ := ev1.mono (ok' := fun b => H.n ≤ b) (H' := (G.push [.I A.op, .I A.n, v1, .I B.op, .I B.n, v2]).put (H.n + 1) (some ⟨[.I op, .I 0, .sl G.n 0 2 (.ex 2)], true⟩)) (by simp; omega) (fun b hb hb2 => by simp only [push_n] at hb; rw [hk b (by omega)]; exact yy.2 b hb2) (fun b hb _ => by simp only [push_n] at hb; omega)
      obtain ⟨cy, h3, h4⟩ := ev2.mono (ok' := fun b => H.n ≤ b) (H' := (G.push [.I A.op, .I A.n, v1, .I B.op, .I B.n, v2]).put (H.n + 1) (some ⟨[.I op, .I 0, .sl G.n 0 2 (.ex 2)], true⟩)) (by simp; omega) (fun b hb hb2 => by rw [hk b (by omega)]; exact (x4.trans xp).2 b hb2) (fun b hb _ => by omega)
      exact ⟨v1, cx, _, rfl, h1, h2, v2, cy, [], rfl, h3, h4, rfl⟩
  by_cases hAB : A.op = 0 ∧ B.op = 0
  · obtain ⟨hA0, hB0⟩ := hAB
    have rA := fold1_num okA hA0
    have rB := fold1_num okB hB0
    simp [hA0, hB0, load_bk q4, load_bk pA, load_bk pB, K_iapply (op := op) (a := A.n) (b := B.n) (by omega) (by omega)]
    by_cases hr : 0 ≤ applyM op A.n B.n ∧ applyM op A.n B.n ≤ 99999
    · have e2 : fold1 op n [A, B] = ⟨0, applyM op A.n B.n, .nil⟩ := by simp only [fold1]; rw [if_pos ⟨hA0, hB0, hr⟩]
      rw [e2] at k
      have st4 : G.store (H.n + 1) 0 [.I 0, .I (applyM op A.n B.n), .nils] = some (G.put (H.n + 1) (some ⟨[.I 0, .I (applyM op A.n B.n), .nils], true⟩)) := store_bk qd (by simp)
      simp [hr.1, hr.2, st4, loadN_bk put_same]
      exact k .nils _ (EV.nil (.inl rfl)) rfl ((x1.trans y4).put (by omega))
    · obtain ⟨G5, w1, w2, w3⟩ := both (fun h => hr h.2.2)
      have wA : G.loadN H3.n 0 3 = some [.I A.op, .I A.n, v1] := by rw [loadN_bk pA]; rfl
      have wB : G.loadN (H3.n + 1) 0 3 = some [.I B.op, .I B.n, v2] := by rw [loadN_bk pB]; rfl
      by_cases h1 : 0 ≤ applyM op A.n B.n
      · have h2 : ¬ applyM op A.n B.n ≤ 99999 := fun h => hr ⟨h1, h⟩
        simp [h1, h2, load_bk q4, wA, wB, w1, w2]
        exact w3
      · simp [h1, load_bk q4, wA, wB, w1, w2]
        exact w3
  · obtain ⟨G5, w1, w2, w3⟩ := both (fun h => hAB ⟨h.1, h.2.1⟩)
    have wA : G.loadN H3.n 0 3 = some [.I A.op, .I A.n, v1] := by rw [loadN_bk pA]; rfl
    have wB : G.loadN (H3.n + 1) 0 3 = some [.I B.op, .I B.n, v2] := by rw [loadN_bk pB]; rfl
    by_cases hA0 : A.op = 0
    · have hB0 : ¬ B.op = 0 := fun h => hAB ⟨hA0, h⟩
      rw [hA0] at pA wA w1
      simp [hA0, hB0, load_bk q4, load_bk pA, load_bk pB, wA, wB, w1, w2]
      exact w3
    · simp [hA0, load_bk q4, load_bk pA, load_bk pB, wA, wB, w1, w2]
      exact w3
end Go.Proofs.Ytmecbehegmgbhaa.AM
namespace Go.Proofs.Ytmecbehegmgbhaa.AM
set_option linter.unusedSimpArgs false
set_option linter.unusedVariables false
set_option maxRecDepth 100000
set_option maxHeartbeats 1000000
open Go
attribute [-simp] AM.elems
def foT (k v b : Int) (e : Ex) (y z : Sts) : List St1 :=
  if k = 2 ∧ e.op = 0 ∧ e.n ≠ 0 then y.list else if k = 2 ∧ e.op = 0 then z.list else if k = 3 ∧ e.op = 0 ∧ e.n = 0 then [] else [⟨k, v, b, e, y, z⟩]
def foS : Sts → Sts
  | .nil => .nil
  | .cons k v b e y z r => Sts.of (foT k v b (foE e) (foS y) (foS z) ++ (foS r).list)
def foT1 (s : St1) : List St1 := foT s.k s.v s.b (foE s.e) (foS s.body) (foS s.els)
theorem foS_list : ∀ {f : Sts}, (foS f).list = f.list.flatMap foT1
  | .nil => rfl
  | .cons k v b e y z r => by simp only [foS, Sts.list_of, Sts.list, List.flatMap_cons, foS_list (f := r)]; rfl
theorem foS_of {l : List St1} : foS (Sts.of l) = Sts.of (l.flatMap foT1) := by
  have := Sts.of_list (foS (Sts.of l))
  rw [foS_list, Sts.list_of] at this
  exact this.symm
theorem foT_ct {k v b : Int} {e : Ex} {y z : Sts} : ((foT k v b e y z).map ctT).sum ≤ 1 + ctS y + ctS z := by
  unfold foT
  split
  · rw [← ctS_sum]; omega
  · split
    · rw [← ctS_sum]; omega
    · split
      · simp
      · simp [ctT]
theorem foS_ct : ∀ {f : Sts}, ctS (foS f) ≤ ctS f
  | .nil => Nat.le_refl _
  | .cons k v b e y z r => by
    simp only [foS, ctS]
    rw [ctS_of, List.map_append, List.sum_append, ← ctS_sum]
    have h1 := foT_ct (k := k) (v := v) (b := b) (e := foE e) (y := foS y) (z := foS z)
    have h2 := foS_ct (f := y)
    have h3 := foS_ct (f := z)
    have h4 := foS_ct (f := r)
    omega
def FoldC (f : Sts) : Prop := ∀ {ok : Nat → Prop} {H : AH} {K : AV → AH → Prop} {w : Fk K} {v : AV}, SV ok H v f → exS f = true → ctS f ≤ 1000 →
  (∀ v' H', SV (fun b => H.n ≤ b) H' v' (foS f) → v'.flat = true → Ext H H' → K v' H') → CallF Cd f_istmtsFold [v] H K w
theorem GrS.appX {base : Nat} {G G1 : AH} {g v1 : AV} {f f1 : Sts} {cs : List AV} {B : Nat} (hg : GrS base G g f.list.length 8 cs B) (hf : SF (fun b => base ≤ b ∧ b ≠ B) G f cs) (hS : Ext G G1) (hb0 : 0 < base) (hb : base ≤ G.n) (h1 : SV (fun b => G.n ≤ b) G1 v1 f1) (hl : f.list.length + f1.list.length ≤ 1000000) :
    ∃ c1 g' G' B', AM.elems G1 8 v1 = some c1 ∧ aapp G1 8 g f1.list.length c1 = some (g', G') ∧ GrS base G' g' (Sts.of (f.list ++ f1.list)).list.length 8 (cs ++ c1) B' ∧ SF (fun b => base ≤ b ∧ b ≠ B') G' (Sts.of (f.list ++ f1.list)) (cs ++ c1) ∧
      (∀ b, b < base → G'.bk b = G.bk b) ∧ G1.n ≤ G'.n ∧ g'.flat = true := by
  obtain ⟨c1, g', G', B', a1, a2, a3, a4, a5, a6, a7, _, _⟩ := hg.appS (r := 0) hf hS.st hb0 hb h1 hl
  exact ⟨c1, g', G', B', a1, a2, a3, a4, fun b hb2 => (a5 b hb2).trans (hS.2 b (by omega)), a6, a7⟩
theorem K_istmtsFold_l {f : Sts} (ih : ∀ s ∈ f.list, FoldC s.body ∧ FoldC s.els) (hex : exS f = true) (hct : ctS f ≤ 1000) {base : Nat} (hb0 : 0 < base) {v : AV} {Q : Out → Env → AH → Prop} (m i : Nat) (hm : i + m = f.list.length) {G : AH} {g : AV} {fa : Sts} {cs : List AV} {B : Nat} (hb : base ≤ G.n) (hv : SV (fun b => b < base) G v f)
    (hfa : fa.list = (f.list.take i).flatMap foT1) (hg : GrS base G g fa.list.length 8 cs B) (he : SF (fun b => base ≤ b ∧ b ≠ B) G fa cs)
    (hQ : ∀ e G' g' cs' B', GrS base G' g' (foS f).list.length 8 cs' B' → SF (fun b => base ≤ b ∧ b ≠ B') G' (foS f) cs' → (∀ b, b < base → G'.bk b = G.bk b) → G.n ≤ G'.n → get e 3 = some g' → Q (.brk 0) e G') :
    W Cd (.loop c_istmtsFold_l0) [(3, g), (7, v), (8, .I f.list.length), (9, .I i)] G Q := by
  have hlc := len_ctS (f := f)
  induction m generalizing i G g fa cs B with
  | zero =>
    rw [W_loop_as c_istmtsFold_l0.eq_1]
    have : i = f.list.length := by omega
    subst this
    simp
    have e : fa = foS f := by
      have h1 := Sts.of_list fa
      have h2 := Sts.of_list (foS f)
      rw [hfa, List.take_length, ← foS_list] at h1
      rw [← h1, h2]
    subst e
    exact hQ _ G g cs B hg he (fun _ _ => rfl) (Nat.le_refl _) rfl
  | succ m ihm =>
    rw [W_loop_as c_istmtsFold_l0.eq_1]
    have hlt : i < f.list.length := by omega
    have hlt' : (i : Int) < f.list.length := by omega
    obtain ⟨s, hs⟩ : ∃ s, f.list[i]? = some s := ⟨_, List.getElem?_eq_getElem hlt⟩
    have hsm := List.mem_of_getElem? hs
    obtain ⟨i1, i2⟩ := ih s hsm
    have hc2 := ctS_mem hsm
    have hex2 := hex
    rw [exS_mem] at hex2
    have hxs := List.all_eq_true.1 hex2 s hsm
    unfold exT exT1 at hxs
    simp only [Bool.and_eq_true, decide_eq_true_eq] at hxs
    obtain ⟨⟨⟨hoe, hvr⟩, hxb⟩, hxe⟩ := hxs
    obtain ⟨b, o, cap, c, e1, ob, hbn, l1, va, vy, vz, rfl, ea, ey, ez⟩ := hv.at hs
    have hv0 := hv
    subst e1
    have htk : (f.list.take (i + 1)).flatMap foT1 = fa.list ++ foT1 s := by rw [List.take_add_one, hs, hfa]; simp
    have hln : fa.list.length + ctT s ≤ 1000 := by
      have h1 : ((f.list.take (i + 1)).map ctT).sum ≤ ctS f := by
        have := sumTake_le (l := f.list) (g := ctT) (i := i + 1)
        rwa [← ctS_sum] at this
      rw [sumTake (g := ctT) hs] at h1
      have h2 : fa.list.length ≤ ((f.list.take i).map ctT).sum := by
        rw [hfa]
        generalize f.list.take i = l
        induction l with
        | nil => simp
        | cons a l ihl =>
          rw [List.flatMap_cons, List.length_append, List.map_cons, List.sum_cons]
          have h3 : (foT1 a).length ≤ ctT a := by
            have h4 : ((foT1 a).map ctT).sum ≤ ctT a := by
              have := foT_ct (k := a.k) (v := a.v) (b := a.b) (e := foE a.e) (y := foS a.body) (z := foS a.els)
              have h5 := foS_ct (f := a.body)
              have h6 := foS_ct (f := a.els)
              have h7 : ctT a = 1 + ctS a.body + ctS a.els := rfl
              unfold foT1; omega
            have h8 : ∀ l : List St1, l.length ≤ (l.map ctT).sum := fun l => by
              have := len_ctS (f := Sts.of l)
              rw [Sts.list_of, ctS_of] at this
              exact this
            have := h8 (foT1 a)
            omega
          omega
      omega
    have hct3 : ctT s = 1 + ctS s.body + ctS s.els := rfl
    obtain ⟨k, vv, bb, ⟨op, n, args⟩, body, els⟩ := s
    simp only at hoe hvr hxb hxe ea ey ez i1 i2 l1 hc2 hct3
    have st : (G.push [.I 0, .I 0, .I 0, .I 0, .I 0, .nils, .nils, .nils]).store G.n 0 [.I k, .I vv, .I bb, .I op, .I n, va, vy, vz] = some (G.push [.I k, .I vv, .I bb, .I op, .I n, va, vy, vz]) := store_push8' rfl
    have x1 := Ext.push G [.I k, .I vv, .I bb, .I op, .I n, va, vy, vz]
    have q1 : (G.push [.I k, .I vv, .I bb, .I op, .I n, va, vy, vz]).bk G.n = some ⟨[.I k, .I vv, .I bb, .I op, .I n, va, vy, vz], true⟩ := push_new
    simp (disch := omega) [hlt', l1, st, load_bk q1]
    refine i1 (ey.ext x1) hxb (by omega) fun vy' H2 ey2 fy x2 => ?_
    have q2 := (x2.2 G.n (by simp)).trans q1
    simp [x2, load_bk q2]
    refine i2 (ez.ext (x1.trans x2)) hxe (by omega) fun vz' H3 ez3 fz x3 => ?_
    have q3 := (x3.2 G.n (by have := x2.1; simp at this; omega)).trans q2
    have w3 : H3.loadN G.n 3 3 = some [.I op, .I n, va] := by rw [loadN_bk q3]; rfl
    simp [x3, w3]
    refine K_iexprFold args (d := 5) (ea.ext ((x1.trans x2).trans x3)) hoe fun va' H4 ea4 fva x4 => ?_
    have n2 := x2.1
    have n3 := x3.1
    have n4 := x4.1
    simp only [push_n] at n2
    obtain ⟨E, hE⟩ : ∃ E, E = foE ⟨op, n, args⟩ := ⟨_, rfl⟩
    rw [show fold1 op n (foF args).list = E from hE.symm] at ea4 ⊢
    have okE' : okE 5 E = true := by rw [hE]; exact foE_ok hoe
    have q4 := (x4.2 G.n (by omega)).trans q3
    have sa := store_cell (v := vy') q4 (o := 6) (by simp)
    simp only [List.set_cons_succ, List.set_cons_zero] at sa
    have sb := store_cell (H := H4.put G.n (some ⟨[.I k, .I vv, .I bb, .I op, .I n, va, vy', vz], true⟩)) (v := vz') put_same (o := 7) (by simp)
    simp only [List.set_cons_succ, List.set_cons_zero] at sb
    have sc := store_tri (H := (H4.put G.n (some ⟨[.I k, .I vv, .I bb, .I op, .I n, va, vy', vz], true⟩)).put G.n (some ⟨[.I k, .I vv, .I bb, .I op, .I n, va, vy', vz'], true⟩)) (x := .I E.op) (y := .I E.n) (z := va') put_same
    obtain ⟨G5, hG5⟩ : ∃ G5, G5 = ((H4.put G.n (some ⟨[.I k, .I vv, .I bb, .I op, .I n, va, vy', vz], true⟩)).put G.n (some ⟨[.I k, .I vv, .I bb, .I op, .I n, va, vy', vz'], true⟩)).put G.n (some ⟨[.I k, .I vv, .I bb, .I E.op, .I E.n, va', vy', vz'], true⟩) := ⟨_, rfl⟩
    rw [← hG5] at sc
    have n5 : G5.n = H4.n := by rw [hG5]; rfl
    have p5 : G5.bk G.n = some ⟨[.I k, .I vv, .I bb, .I E.op, .I E.n, va', vy', vz'], true⟩ := by rw [hG5]; exact put_same
    have k4 : ∀ b, b ≠ G.n → G5.bk b = H4.bk b := fun b hb => by rw [hG5, put_bk, if_neg hb, put_bk, if_neg hb, put_bk, if_neg hb]
    have xG : Ext G G5 := ⟨by omega, fun b hb => by rw [k4 b (by omega)]; exact (((x1.trans x2).trans x3).trans x4).2 b hb⟩
    have ey5 : SV (fun b => G.n ≤ b ∧ b ≠ G.n) G5 vy' (foS body) := (ey2.ext (x3.trans x4)).mono (by omega) (fun b hb _ => k4 b (by simp only [push_n] at hb; omega)) (fun b hb _ => by simp only [push_n] at hb; omega)
    have ez5 : SV (fun b => G.n ≤ b ∧ b ≠ G.n) G5 vz' (foS els) := (ez3.ext x4).mono (by omega) (fun b hb _ => k4 b (by omega)) (fun b hb _ => by omega)
    have ea5 : EV (fun b => G.n ≤ b ∧ b ≠ G.n) G5 va' E.args := ea4.mono (by omega) (fun b hb _ => k4 b (by omega)) (fun b hb _ => by omega)
    have ly := len_ctS (f := foS body)
    have lz := len_ctS (f := foS els)
    have cy := foS_ct (f := body)
    have cz := foS_ct (f := els)
    -- to go on, with some more
    have go : ∀ (G6 : AH) (g6 : AV) (more : List St1) (c6 : List AV) (B6 : Nat), more = foT1 ⟨k, vv, bb, ⟨op, n, args⟩, body, els⟩ → GrS base G6 g6 (Sts.of (fa.list ++ more)).list.length 8 c6 B6 → SF (fun b => base ≤ b ∧ b ≠ B6) G6 (Sts.of (fa.list ++ more)) c6 → (∀ b, b < base → G6.bk b = G.bk b) → G.n ≤ G6.n →
        W Cd (.loop c_istmtsFold_l0) [(3, g6), (7, .sl b o f.list.length cap), (8, .I f.list.length), (9, .I ((i + 1 : Nat) : Int))] G6 Q := by
      intro G6 g6 more c6 B6 hmore z1 z2 z3 z4
      refine ihm (i + 1) (by omega) (G := G6) (g := g6) (fa := Sts.of (fa.list ++ more)) (by omega) (hv0.mono z4 (fun b hb _ => z3 b hb) (fun _ h _ => h)) ?_ z1 z2 (fun e G2 g2 c2 B2 y1 y2 y3 y4 y5 => hQ e G2 g2 c2 B2 y1 y2 (fun b hb => (y3 b hb).trans (z3 b hb)) (by omega) y5)
      rw [Sts.list_of, hmore, htk]
    have lA := ey5.alen
    have lB := ez5.alen
    have fE : foE (⟨op, n, args⟩ : Ex) = E := hE.symm
    have cD : ¬ (k = 2 ∧ E.op = 0) → ¬ (k = 3 ∧ E.op = 0 ∧ E.n = 0) → ∃ G6 g6, G5.loadN G.n 0 8 = some [.I k, .I vv, .I bb, .I E.op, .I E.n, va', vy', vz'] ∧ AM.elems (G5.push [.I k, .I vv, .I bb, .I E.op, .I E.n, va', vy', vz']) 8 (.sl G5.n 0 1 (.ex 1)) = some [.I k, .I vv, .I bb, .I E.op, .I E.n, va', vy', vz'] ∧
        aapp (G5.push [.I k, .I vv, .I bb, .I E.op, .I E.n, va', vy', vz']) 8 g 1 [.I k, .I vv, .I bb, .I E.op, .I E.n, va', vy', vz'] = some (g6, G6) ∧ g6.flat = true ∧ W Cd (.loop c_istmtsFold_l0) [(3, g6), (7, .sl b o f.list.length cap), (8, .I f.list.length), (9, .I ((i + 1 : Nat) : Int))] G6 Q := by
      intro h1 h2
      have xp := Ext.push G5 [.I k, .I vv, .I bb, .I E.op, .I E.n, va', vy', vz']
      have s1 : S1 (fun b => G.n ≤ b) (G5.push [.I k, .I vv, .I bb, .I E.op, .I E.n, va', vy', vz']) [.I k, .I vv, .I bb, .I E.op, .I E.n, va', vy', vz'] ⟨k, vv, bb, E, foS body, foS els⟩ := ⟨va', vy', vz', rfl, (ea5.ext xp).mono (Nat.le_refl _) (fun _ _ _ => rfl) (fun _ h _ => h.1), (ey5.ext xp).mono (Nat.le_refl _) (fun _ _ _ => rfl) (fun _ h _ => h.1), (ez5.ext xp).mono (Nat.le_refl _) (fun _ _ _ => rfl) (fun _ h _ => h.1)⟩
      have sv1 : SV (fun b => G.n ≤ b) (G5.push [.I k, .I vv, .I bb, .I E.op, .I E.n, va', vy', vz']) (.sl G5.n 0 1 (.ex 1)) (Sts.of [⟨k, vv, bb, E, foS body, foS els⟩]) :=
        ⟨_, (GrS.new (base := G.n) (G := G5) (n := 1) (sz := 8) (cs := [.I k, .I vv, .I bb, .I E.op, .I E.n, va', vy', vz']) (by omega) (by omega) rfl).slc, s1.one⟩
      obtain ⟨c1, g6, G6, B6, a1, a2, a3, a4, a5, a6, a7⟩ := hg.appX he (xG.trans xp) hb0 hb sv1 (by simp; omega)
      have e8 : AM.elems (G5.push [.I k, .I vv, .I bb, .I E.op, .I E.n, va', vy', vz']) 8 (.sl G5.n 0 1 (.ex 1)) = some [.I k, .I vv, .I bb, .I E.op, .I E.n, va', vy', vz'] := by
        show AH.loadN _ _ _ _ = _
        rw [loadN_bk push_new]; rfl
      rw [e8] at a1
      obtain rfl := Option.some.inj a1
      have e9 : (Sts.of [(⟨k, vv, bb, E, foS body, foS els⟩ : St1)]).list = [⟨k, vv, bb, E, foS body, foS els⟩] := Sts.list_of _
      rw [e9] at a3 a4
      refine ⟨G6, g6, by rw [loadN_bk p5]; rfl, e8, a2, a7, go G6 g6 _ _ B6 ?_ a3 a4 a5 (by simp at a6; omega)⟩
      unfold foT1 foT
      simp only [fE]
      rw [if_neg (fun h => h1 ⟨h.1, h.2.1⟩), if_neg h1, if_neg h2]
    simp [x4, flat_cells fy, flat_tup fy, flat_cells fz, flat_tup fz, sa, sb, sc, load_bk p5]
    by_cases hE0 : E.op = 0
    · by_cases k2 : k = 2
      · by_cases hEn : E.n = 0
        · obtain ⟨c1, g6, G6, B6, a1, a2, a3, a4, a5, a6, a7⟩ := hg.appX he xG hb0 hb (ez5.mono (Nat.le_refl _) (fun _ _ _ => rfl) (fun _ h _ => h.1)) (by omega)
          have rcc := go G6 g6 (foS els).list _ B6 (by unfold foT1 foT; simp only [fE]; rw [if_neg (fun h => h.2.2 hEn), if_pos ⟨k2, hE0⟩]) a3 a4 a5 (by omega)
          simp (disch := omega) [load_bk p5, k2, hE0, hEn, lB, a1, a2]
          simpa using rcc
        · obtain ⟨c1, g6, G6, B6, a1, a2, a3, a4, a5, a6, a7⟩ := hg.appX he xG hb0 hb (ey5.mono (Nat.le_refl _) (fun _ _ _ => rfl) (fun _ h _ => h.1)) (by omega)
          have rcc := go G6 g6 (foS body).list _ B6 (by unfold foT1 foT; simp only [fE]; rw [if_pos ⟨k2, hE0, hEn⟩]) a3 a4 a5 (by omega)
          simp (disch := omega) [load_bk p5, k2, hE0, hEn, lA, a1, a2]
          simpa using rcc
      · by_cases k3 : k = 3
        · by_cases hEn : E.n = 0
          · have rcc := go G5 g [] cs B (by unfold foT1 foT; simp only [fE]; rw [if_neg (fun h => k2 h.1), if_neg (fun h => k2 h.1), if_pos ⟨k3, hE0, hEn⟩]) (by rw [List.append_nil, Sts.of_list]; exact hg.ext xG) (by rw [List.append_nil, Sts.of_list]; exact he.ext xG) (fun b hb2 => xG.2 b (by omega)) xG.1
            simp (disch := omega) [load_bk p5, k2, k3, hE0, hEn]
            simpa using rcc
          · obtain ⟨G6, g6, d1, d2, d3, d4, d5⟩ := cD (fun h => k2 h.1) (fun h => hEn h.2.2)
            rw [k3, hE0] at d2 d3
            simp (disch := omega) [load_bk p5, k2, k3, hE0, hEn, d1, d2, d3]
            simpa using d5
        · obtain ⟨G6, g6, d1, d2, d3, d4, d5⟩ := cD (fun h => k2 h.1) (fun h => k3 h.1)
          rw [hE0] at d2 d3
          simp (disch := omega) [load_bk p5, k2, k3, hE0, d1, d2, d3]
          simpa using d5
    · obtain ⟨G6, g6, d1, d2, d3, d4, d5⟩ := cD (fun h => hE0 h.2) (fun h => hE0 h.2.1)
      by_cases k2 : k = 2
      · rw [k2] at d2 d3
        simp (disch := omega) [load_bk p5, k2, hE0, d1, d2, d3]
        simpa using d5
      · by_cases k3 : k = 3
        · rw [k3] at d2 d3
          simp (disch := omega) [load_bk p5, k2, k3, hE0, d1, d2, d3]
          simpa using d5
        · simp (disch := omega) [load_bk p5, k2, k3, hE0, d1, d2, d3]
          simpa using d5
theorem K_istmtsFold (f : Sts) : FoldC f := by
  induction f using Sts.ind with
  | h f ih =>
  intro ok H K w v h hex hct k
  rw [CallF_eq e_istmtsFold rfl]
  simp [h.alen]
  by_cases h0 : H.n = 0
  · -- an empty heap: no statements
    have e : f = .nil := by
      refine nz_nil ?_
      by_cases hl : f.list.length = 0
      · exact hl
      · obtain ⟨s, hs⟩ : ∃ s, f.list[0]? = some s := ⟨_, List.getElem?_eq_getElem (by omega)⟩
        obtain ⟨b, o, cap, c, _, _, hb, _⟩ := h.at hs
        omega
    subst e
    rw [W_loop_as c_istmtsFold_l0.eq_1]
    simp
    exact k .nils H (SV.nil (.inl rfl)) rfl (Ext.refl _)
  have := K_istmtsFold_l ih hex hct (base := H.n) (by omega) (v := v) (Q := ?_) f.list.length 0 (by omega) (G := H) (g := .nils) (fa := .nil) (cs := []) (B := H.n) (Nat.le_refl _) (h.mono (Nat.le_refl _) (fun _ _ _ => rfl) (fun b _ hb => hb)) rfl GrS.nils rfl ?_
  · simpa using this
  · intro e G g cs B z1 z2 z3 z4 z5
    simp [z5]
    exact k g G (z1.sv z2) z1.flat ⟨z4, z3⟩
/-- A simplified program. -/
def foP (p : Pg) : Pg := ⟨p.rooms, p.tasks.map foS⟩
theorem K_iProgramFold_l {l : List Sts} (hf : ∀ f ∈ l, exS f = true ∧ ctS f ≤ 1000) (hll : l.length ≤ 10) {base P2 P4 : Nat} (h4 : P4 < base) {v1 vt : AV} {Q : Out → Env → AH → Prop} (m i : Nat) (hm : i + m = l.length) {G : AH} {g : AV} {cs : List AV} {B : Nat} (hb : base ≤ G.n) (hv : LV (fun b => b < P4) G vt l)
    (g4 : G.bk P4 = some ⟨[v1, g], true⟩) (hg : GrS base G g i 1 cs B) (he : LF 1 (L1 (fun b => base ≤ b ∧ b ≠ B) G) ((l.take i).map foS) cs)
    (hQ : ∀ e G' g' cs' B', GrS base G' g' l.length 1 cs' B' → LF 1 (L1 (fun b => base ≤ b ∧ b ≠ B') G') (l.map foS) cs' → G'.bk P4 = some ⟨[v1, g'], true⟩ → (∀ b, b < base → b ≠ P4 → G'.bk b = G.bk b) → G.n ≤ G'.n → get e 2 = some (.ptr P2 0) → get e 4 = some (.ptr P4 0) → Q (.brk 0) e G') :
    W Cd (.loop c_iProgramFold_l0) [(2, .ptr P2 0), (4, .ptr P4 0), (16, vt), (17, .I l.length), (18, .I i)] G Q := by
  induction m generalizing i G g cs B with
  | zero =>
    rw [W_loop_as c_iProgramFold_l0.eq_1]
    have : i = l.length := by omega
    subst this
    simp
    rw [List.take_length] at he
    exact hQ _ G g cs B hg he g4 (fun _ _ _ => rfl) (Nat.le_refl _) rfl rfl
  | succ m ihm =>
    rw [W_loop_as c_iProgramFold_l0.eq_1]
    have hlt : i < l.length := by omega
    have hlt' : (i : Int) < l.length := by omega
    obtain ⟨f, hfi⟩ : ∃ f, l[i]? = some f := ⟨_, List.getElem?_eq_getElem hlt⟩
    obtain ⟨hx, hct⟩ := hf f (List.mem_of_getElem? hfi)
    obtain ⟨b, o, cap, u, e1, hbn, l1, sv⟩ := hv.at hfi
    have hv0 := hv
    subst e1
    simp (disch := omega) [hlt', l1, load_bk g4]
    refine K_istmtsFold f sv hx hct fun v' H2 sv2 fv x2 => ?_
    have n2 := x2.1
    have xp := x2.trans (Ext.push H2 [v'])
    obtain ⟨g', G', B', a1, a2, a3, a4, a5, a6⟩ := LF.snoc (E := L1) (l := l.map foS) (x := foS f) (i := i) (fun h => h.mono) (by rw [List.getElem?_map, hfi]; rfl) hg (by rw [← List.map_take]; exact he) hb xp (c := [v']) rfl ⟨v', rfl, sv2.ext (Ext.push H2 [v'])⟩ (by omega)
    have g4' := (a4 P4 h4).trans g4
    have st := store_cell (v := g') g4' (o := 1) (by simp)
    simp only [List.set_cons_succ, List.set_cons_zero] at st
    simp only [push_n] at a5
    simp (disch := omega) [x2, flat_cells fv, flat_tup fv, AM.elems, loadN_push, a1, flat_cells a6, flat_tup a6, st]
    have hk : ∀ b, b ≠ P4 → (G'.put P4 (some ⟨[v1, g'], true⟩)).bk b = G'.bk b := fun b hb => by rw [put_bk, if_neg hb]
    rw [← List.map_take] at a3
    have := ihm (i + 1) (by omega) (G := G'.put P4 (some ⟨[v1, g'], true⟩)) (g := g') (by simp; omega) (hv0.mono (by simp; omega) (fun b hb _ => by rw [hk b (by omega), a4 b (by omega)]) (fun _ h _ => h)) put_same
      (a2.keep1 (by simp) (fun h _ => hk _ (by omega))) (a3.imp fun c a h => h.mono (by simp) (fun b hb _ => hk b (by omega)) (fun _ h _ => h))
      (fun e G2 g2 c2 B2 z1 z2 z3 z4 z5 z6 z7 => hQ e G2 g2 c2 B2 z1 z2 z3 (fun b hb h8 => by rw [z4 b hb h8, hk b h8, a4 b hb]) (by simp at z5; omega) z6 z7)
    simpa using this
theorem K_iProgramFold {ok : Nat → Prop} {H : AH} {K : AV → AH → Prop} {wf : Fk K} {c : List AV} {p : Pg} (h : PgC ok H c p) (hv : vaPg p = true)
    (k : ∀ c' H', PgC (fun b => H.n ≤ b) H' c' (foP p) → Ext H H' → K (.tup [.agg c', .b true]) H') : CallF Cd f_iProgramFold [.agg c] H K wf := by
  have h' := h
  obtain ⟨vr, vt, rfl, h1, h2⟩ := h'
  rw [CallF_eq e_iProgramFold rfl]
  have hv' := hv
  unfold vaPg vaRm at hv'
  simp only [Bool.and_eq_true, decide_eq_true_eq, List.all_eq_true] at hv'
  have hfx : ∀ f ∈ p.tasks, exS f = true ∧ ctS f ≤ 1000 := fun f hf => by
    have := hv'.2 f hf
    unfold vaF vaS at this
    simp only [Bool.and_eq_true, decide_eq_true_eq] at this
    exact ⟨ex_of_okS this.1.1, by omega⟩
  have x0 := (Ext.push H [vr, vt]).trans (Ext.push _ [.nils, .nils])
  have q0 : ((H.push [vr, vt]).push [.nils, .nils]).bk H.n = some ⟨[vr, vt], true⟩ := push_old (by simp) push_new
  simp [loadN_bk q0]
  refine K_iProgramValid (h.ext x0) (fun f hf => by have := (hfx f hf).2; omega) fun H1 x1 => ?_
  have n1 := x1.1
  simp only [push_n] at n1
  have y1 := x0.trans x1
  have q1 := (x1.2 H.n (by simp <;> omega)).trans q0
  have qR1 : H1.bk (H.n + 1) = some ⟨[.nils, .nils], true⟩ := (x1.2 _ (by simp)).trans push_new
  rw [hv]
  simp [load_bk q1]
  refine K_cloneG (h1.ext y1).src (by omega) fun v1 H2 B g x2 => ?_
  have n2 := x2.1
  have f1 := g.flat
  have x3 := Ext.push H2 [v1, .nils]
  have q3 := (x3.2 H.n (by omega)).trans ((x2.2 _ (by omega)).trans q1)
  have y3 := (y1.trans x2).trans x3
  simp [flat_cells f1, flat_tup f1, store_push2e, load_bk q3, h2.alen]
  have := K_iProgramFold_l (l := p.tasks) hfx (by omega) (base := H2.n + 1) (P2 := H.n + 1) (P4 := H2.n) (by omega) (v1 := v1) (vt := vt) (Q := ?_) p.tasks.length 0 (by omega) (G := H2.push [v1, .nils]) (g := .nils) (cs := []) (B := 0) (by simp)
    ((h2.mono (ok' := fun b => b < H.n) (Nat.le_refl _) (fun _ _ _ => rfl) (fun b _ hb => hb)).mono (by simp; omega) (fun b hb _ => y3.2 b hb) (fun b hb _ => by omega)) push_new GrS.nils rfl ?_
  · simpa using this
  · intro e G g2 cs B2 z1 z2 z3 z4 z5 z6 z7
    simp only [push_n] at z5
    have qR2 := (z4 (H.n + 1) (by omega) (by omega)).trans ((x3.2 _ (by omega)).trans ((x2.2 _ (by omega)).trans qR1))
    have st : G.store (H.n + 1) 0 [v1, g2] = some (G.put (H.n + 1) (some ⟨[v1, g2], true⟩)) := store_bk qR2 (by simp)
    simp [z6, z7, loadN_bk z3, st, loadN_bk put_same]
    have hk : ∀ b, b ≠ H.n + 1 → (G.put (H.n + 1) (some ⟨[v1, g2], true⟩)).bk b = G.bk b := fun b hb => by rw [put_bk, if_neg hb]
    have hlm : (p.tasks.map foS).length = p.tasks.length := by simp
    refine k _ _ ⟨v1, g2, rfl, (show IV _ H2 v1 p.rooms from g.iv).mono (by simp; omega) (fun b hb hb2 => by rw [hk b (by omega), z4 b (by omega) (by omega), x3.2 b hb2]) (fun b hb _ => by omega), cs, by
      show SlC _ _ g2 (p.tasks.map foS).length 1 cs
      rw [hlm]; exact z1.slc.mono (by simp) (fun b hb _ => hk b (by omega)) (fun b hb _ => by omega), z2.imp fun c a h => h.mono (by simp) (fun b hb _ => hk b (by omega)) (fun b hb _ => by omega)⟩ ⟨by simp; omega, fun b hb => by rw [hk b (by omega), z4 b (by omega) (by omega), x3.2 b (by omega), x2.2 b (by omega)]; exact y1.2 b hb⟩
end Go.Proofs.Ytmecbehegmgbhaa.AM
namespace Go.Proofs.Ytmecbehegmgbhaa.AM
set_option linter.unusedSimpArgs false
set_option linter.unusedVariables false
set_option maxRecDepth 100000
set_option maxHeartbeats 1000000
open Go
attribute [-simp] AM.elems
/-! ### It is valid -/
theorem foS_nil {f : Sts} (h : f.list.length = 0) : (foS f).list.length = 0 := by rw [nz_nil h]; rfl
theorem foE_pl {e : Ex} (h : plE e = true) : plE (foE e) = true := by
  unfold plE at h
  simp only [decide_eq_true_eq] at h
  have : e.args.list = [] := List.eq_nil_of_length_eq_zero h.2.2
  unfold foE
  rw [foF_list, this]
  unfold plE fold1
  simp only [List.map_nil, decide_eq_true_eq]
  exact ⟨h.1, h.2.1, rfl⟩
theorem stV_fo {boxes k v b : Int} {e : Ex} {y z : Sts} (h : stV boxes k v b (okE 5 e) (plE e) y.list.length z.list.length = true) : stV boxes k v b (okE 5 (foE e)) (plE (foE e)) (foS y).list.length (foS z).list.length = true := by
  unfold stV at h ⊢
  by_cases k1 : k = 1
  · simp only [if_pos k1, Bool.and_eq_true, decide_eq_true_eq] at h ⊢
    exact ⟨⟨h.1.1, h.1.2.1, h.1.2.2.1, foS_nil h.1.2.2.2.1, foS_nil h.1.2.2.2.2⟩, foE_ok h.2⟩
  · simp only [if_neg k1] at h ⊢
    by_cases k2 : k = 2
    · simp only [if_pos k2, Bool.and_eq_true, decide_eq_true_eq] at h ⊢
      exact ⟨h.1, foE_ok h.2⟩
    · simp only [if_neg k2] at h ⊢
      by_cases k3 : k = 3
      · simp only [if_pos k3, Bool.and_eq_true, decide_eq_true_eq] at h ⊢
        exact ⟨⟨h.1.1, h.1.2.1, foS_nil h.1.2.2⟩, foE_ok h.2⟩
      · simp only [if_neg k3] at h ⊢
        by_cases k4 : k = 4
        · simp only [if_pos k4, Bool.and_eq_true, decide_eq_true_eq] at h ⊢
          exact ⟨⟨h.1.1, h.1.2.1, h.1.2.2.1, foS_nil h.1.2.2.2.1, foS_nil h.1.2.2.2.2⟩, foE_ok h.2⟩
        · simp only [if_neg k4] at h ⊢
          by_cases k5 : k = 5
          · simp only [if_pos k5, Bool.and_eq_true, decide_eq_true_eq] at h ⊢
            exact ⟨⟨h.1.1, h.1.2.1, h.1.2.2.1, h.1.2.2.2.1, foS_nil h.1.2.2.2.2.1, foS_nil h.1.2.2.2.2.2⟩, foE_pl h.2⟩
          · simp only [if_neg k5] at h ⊢
            by_cases k6 : k = 6
            · simp only [if_pos k6, Bool.and_eq_true, decide_eq_true_eq] at h ⊢
              exact ⟨⟨h.1.1, h.1.2.1, foS_nil h.1.2.2.1, foS_nil h.1.2.2.2⟩, foE_pl h.2⟩
            · simp only [if_neg k6] at h ⊢
              by_cases k7 : k = 7
              · simp only [if_pos k7, Bool.and_eq_true, decide_eq_true_eq] at h ⊢
                exact ⟨⟨h.1.1, h.1.2.1, foS_nil h.1.2.2.1, foS_nil h.1.2.2.2⟩, foE_ok h.2⟩
              · simp only [if_neg k7] at h; cases h
theorem foS_ok {boxes : Int} : ∀ {f : Sts} {n : Int}, okS boxes n f = true → okS boxes n (foS f) = true
  | .nil, _, _ => rfl
  | .cons k v b e y z r, n, h => by
    simp only [okS, Bool.and_eq_true] at h
    obtain ⟨h1, h2⟩ := h
    have hr := foS_ok h2
    have h1' := h1
    unfold okS1 at h1
    simp only [Bool.and_eq_true, Bool.or_eq_true, decide_eq_true_eq] at h1
    obtain ⟨h3, h4⟩ := h1
    simp only [foS]
    rw [okS_mem, Sts.list_of, List.all_append, Bool.and_eq_true, ← okS_mem]
    refine ⟨?_, hr⟩
    have hb : k = 2 ∨ k = 3 → 1 ≤ n ∧ okS boxes (n - 1) (foS y) = true ∧ okS boxes (n - 1) (foS z) = true := fun hk => by
      rcases h4 with q | q
      · omega
      · exact ⟨q.1.1, foS_ok q.1.2, foS_ok q.2⟩
    unfold foT
    split
    · rename_i hc
      rw [← okS_mem]
      exact okS_mono (by omega) (hb (.inl hc.1)).2.1
    · split
      · rename_i _ hc
        rw [← okS_mem]
        exact okS_mono (by omega) (hb (.inl hc.1)).2.2
      · split
        · rfl
        · simp only [List.all_cons, List.all_nil, Bool.and_true]
          unfold okT okS1
          simp only [Bool.and_eq_true, Bool.or_eq_true, decide_eq_true_eq]
          refine ⟨stV_fo h3, ?_⟩
          rcases h4 with q | q
          · exact .inl q
          · exact .inr ⟨⟨q.1.1, foS_ok q.1.2⟩, foS_ok q.2⟩
theorem foS_bx {many : Int} : ∀ {f : Sts}, bxS many f = true → bxS many (foS f) = true
  | .nil, _ => rfl
  | .cons k v b e y z r, h => by
    simp only [bxS, Bool.and_eq_true, decide_eq_true_eq] at h
    simp only [foS]
    rw [bxS_mem, Sts.list_of, List.all_append, Bool.and_eq_true, ← bxS_mem]
    refine ⟨?_, foS_bx h.2⟩
    have hy := foS_bx h.1.2.1
    have hz := foS_bx h.1.2.2
    unfold foT
    split
    · rw [← bxS_mem]; exact hy
    · split
      · rw [← bxS_mem]; exact hz
      · split
        · rfl
        · simp only [List.all_cons, List.all_nil, Bool.and_true]
          unfold bxT
          simp only [Bool.and_eq_true, decide_eq_true_eq]
          exact ⟨h.1.1, hy, hz⟩
theorem foP_va {p : Pg} (h : vaPg p = true) : vaPg (foP p) = true := by
  unfold vaPg at h ⊢
  unfold foP
  simp only [Bool.and_eq_true, decide_eq_true_eq, List.length_map] at h ⊢
  refine ⟨h.1, ?_⟩
  rw [List.all_map]
  refine List.all_eq_true.2 fun f hf => ?_
  have := List.all_eq_true.1 h.2 f hf
  unfold vaF vaS at this
  simp only [Bool.and_eq_true, decide_eq_true_eq] at this
  simp only [Function.comp]
  unfold vaF vaS
  simp only [Bool.and_eq_true, decide_eq_true_eq]
  have hc := foS_ct (f := f)
  exact ⟨⟨foS_ok this.1.1, by omega⟩, foS_bx this.2⟩
/-! ### Its steps -/
def foTk (t : Tk) : Tk := ⟨t.vars, foS t.rest⟩
/-- A statement that a simplified program does not have. -/
def silS (s : St1) : Prop := (s.k = 2 ∧ (foE s.e).op = 0) ∨ (s.k = 3 ∧ (foE s.e).op = 0 ∧ (foE s.e).n = 0)
theorem foT1_real {s : St1} (h : ¬ silS s) : foT1 s = [⟨s.k, s.v, s.b, foE s.e, foS s.body, foS s.els⟩] := by
  unfold silS at h
  unfold foT1 foT
  rw [if_neg (fun q => h (.inl ⟨q.1, q.2.1⟩)), if_neg (fun q => h (.inl q)), if_neg (fun q => h (.inr q))]
theorem foTk_of {v : List Int} {l : List St1} : foTk ⟨v, Sts.of l⟩ = ⟨v, Sts.of (l.flatMap foT1)⟩ := by unfold foTk; rw [foS_of]
theorem step_silent {boxes : Int} {t : Tk} {bs : List Bx} {s : St1} {r : List St1} (hva : vaT boxes t = true) (hr : t.rest.list = s :: r) (hs : silS s) :
    foTk (stepP t bs).1 = foTk t ∧ (stepP t bs).2.1 = bs ∧ (stepP t bs).2.2.1 = [] ∧ (stepP t bs).2.2.2 = 1 ∧ evS t bs = none := by
  have hok := (vaS_one ((vaT_iff.1 hva).2.2 s (by rw [hr]; exact List.mem_cons_self))).1
  obtain ⟨hk17, hoe, _, _, _⟩ := okT_facts hok
  have k23 : s.k = 2 ∨ s.k = 3 := by
    rcases hs with q | q
    · exact .inl q.1
    · exact .inr q.1
  have hoe := hoe (by omega) (by omega)
  have hev := foE_ev (vars := t.vars) hoe
  have h0 : (foE s.e).op = 0 := by rcases hs with q | q; exact q.2; exact q.2.1
  have hval : evE t.vars s.e = (foE s.e).n := by rw [← hev]; unfold evE evE1; rw [if_pos h0]
  have e1 : stepP t bs = (⟨t.vars, blkR s r (evE t.vars s.e)⟩, bs, [], 1) := by
    unfold stepP; rw [hr]; simp only; rw [if_neg (by omega), if_pos k23]
  have e2 : evS t bs = none := by
    unfold evS; rw [hr]; simp only; rw [if_neg (by omega), if_neg (by omega), if_neg (by omega)]
  have ht : foTk t = ⟨t.vars, Sts.of (foT1 s ++ r.flatMap foT1)⟩ := by
    have h1 : t = ⟨t.vars, Sts.of (s :: r)⟩ := by rw [← hr, Sts.of_list]
    rw [h1, foTk_of, List.flatMap_cons]
  rw [e1, e2, ht, hval]
  refine ⟨?_, rfl, rfl, rfl, rfl⟩
  simp only
  unfold blkR
  by_cases k2 : s.k = 2
  · rw [if_pos k2, foTk_of, List.flatMap_append, ← foS_list]
    congr 2
    unfold foT1 foT
    by_cases hn : (foE s.e).n ≠ 0
    · rw [if_pos hn, if_pos ⟨k2, h0, hn⟩]
    · rw [if_neg hn, if_neg (fun q => hn q.2.2), if_pos ⟨k2, h0⟩]
  · have hn : (foE s.e).n = 0 := by
      rcases hs with q | q
      · exact absurd q.1 k2
      · exact q.2.2
    have k3 : s.k = 3 := by omega
    rw [if_neg k2, if_neg (fun q => q hn), foTk_of]
    congr 2
    unfold foT1 foT
    rw [if_neg (fun q => k2 q.1), if_neg (fun q => k2 q.1), if_pos ⟨k3, h0, hn⟩]; rfl
theorem step_real {boxes : Int} {t : Tk} {bs : List Bx} (hva : vaT boxes t = true) (hs : ∀ s r, t.rest.list = s :: r → ¬ silS s) :
    stepP (foTk t) bs = (foTk (stepP t bs).1, (stepP t bs).2) ∧ evS (foTk t) bs = evS t bs := by
  cases hr : t.rest.list with
  | nil =>
    have h1 : (foTk t).rest.list = [] := by unfold foTk; rw [foS_list, hr]; rfl
    unfold stepP evS
    rw [h1, hr]
    exact ⟨rfl, rfl⟩
  | cons s r =>
    have hns := hs s r hr
    have hok := (vaS_one ((vaT_iff.1 hva).2.2 s (by rw [hr]; exact List.mem_cons_self))).1
    obtain ⟨hk17, hoe, _, _, _⟩ := okT_facts hok
    have h1 : (foTk t).rest.list = ⟨s.k, s.v, s.b, foE s.e, foS s.body, foS s.els⟩ :: r.flatMap foT1 := by
      unfold foTk; rw [foS_list, hr, List.flatMap_cons, foT1_real hns]; rfl
    have hvar : (foTk t).vars = t.vars := rfl
    have er : ∀ v, (⟨v, Sts.of (r.flatMap foT1)⟩ : Tk) = foTk ⟨v, Sts.of r⟩ := fun v => foTk_of.symm
    constructor
    · unfold stepP
      rw [h1, hr]
      simp only [hvar]
      by_cases k45 : s.k = 4 ∨ s.k = 5
      · rw [if_pos k45, if_pos k45]
        unfold talkP
        simp only [hvar]
        cases hbx : bs[s.b.toNat]? with
        | none => rfl
        | some bx =>
          simp only
          by_cases k4 : s.k = 4
          · simp only [if_pos k4]
            rw [foE_ev (hoe (by omega) (by omega))]
            split
            · rw [er]
            · rfl
          · simp only [if_neg k4]
            cases bx.items with
            | nil => rfl
            | cons y q => simp only [er]
      · rw [if_neg k45, if_neg k45]
        by_cases k23 : s.k = 2 ∨ s.k = 3
        · rw [if_pos k23, if_pos k23, foE_ev (hoe (by omega) (by omega))]
          congr 1
          have : blkR ⟨s.k, s.v, s.b, foE s.e, foS s.body, foS s.els⟩ (r.flatMap foT1) (evE t.vars s.e) = foS (blkR s r (evE t.vars s.e)) := by
            unfold blkR
            simp only
            by_cases k2 : s.k = 2
            · rw [if_pos k2, if_pos k2, foS_of, List.flatMap_append]
              congr 2
              split <;> rw [foS_list]
            · rw [if_neg k2, if_neg k2]
              by_cases hx : evE t.vars s.e ≠ 0
              · rw [if_pos hx, if_pos hx, foS_of, List.flatMap_append, List.flatMap_cons, foT1_real hns, foS_list]; rfl
              · rw [if_neg hx, if_neg hx, foS_of]
          rw [this]; rfl
        · rw [if_neg k23, if_neg k23]
          by_cases k1 : s.k = 1
          · rw [if_pos k1, if_pos k1, foE_ev (hoe (by omega) (by omega)), er]
          · rw [if_neg k1, if_neg k1]
            by_cases k6 : s.k = 6
            · rw [if_pos k6, if_pos k6, er]
            · rw [if_neg k6, if_neg k6, foE_ev (hoe (by omega) (by omega)), er]
    · unfold evS
      rw [h1, hr]
      simp only [hvar]
      by_cases k4 : s.k = 4
      · rw [if_pos k4, if_pos k4, foE_ev (hoe (by omega) (by omega))]
      · rw [if_neg k4, if_neg k4]
        by_cases k5 : s.k = 5
        · rw [if_pos k5, if_pos k5]
        · rw [if_neg k5, if_neg k5]
          by_cases k7 : s.k = 7
          · rw [if_pos k7, if_pos k7, foE_ev (hoe (by omega) (by omega))]
          · rw [if_neg k7, if_neg k7]
theorem still_ev {t : Tk} {bs : List Bx} (h : stillT t bs) : evS t bs = none := by
  unfold stillT stepP at h
  unfold evS
  cases hr : t.rest.list with
  | nil => rfl
  | cons s r =>
    rw [hr] at h
    simp only at h ⊢
    by_cases k45 : s.k = 4 ∨ s.k = 5
    · rw [if_pos k45] at h
      simp only [talkP] at h
      by_cases k4 : s.k = 4
      · rw [if_pos k4]
        cases hb : bs[s.b.toNat]? with
        | none => rfl
        | some bx =>
          rw [hb] at h
          simp only [k4, if_true] at h ⊢
          split
          · rename_i hq; rw [if_pos hq] at h; simp at h
          · rfl
      · have k5 : s.k = 5 := by omega
        rw [if_neg k4, if_pos k5]
        cases hb : bs[s.b.toNat]? with
        | none => rfl
        | some bx =>
          rw [hb] at h
          simp only [k4, if_false] at h ⊢
          cases hi : bx.items with
          | nil => rfl
          | cons y q => rw [hi] at h; simp at h
    · rw [if_neg k45] at h
      rw [if_neg (by omega), if_neg (by omega)]
      by_cases k7 : s.k = 7
      · simp [k7] at h
      · rw [if_neg k7]
/-! ### Two worlds side by side -/
structure RelW (w w' : Wd) : Prop where
  tasks : w'.tasks = w.tasks.map foTk
  boxes : w'.boxes = w.boxes
  out : w'.out = w.out
  va : vaWd w = true
  va' : vaWd w' = true
  idl : idleI w'
  sync : ¬ w'.idle < w'.tasks.length ∨ (w.turn = w'.turn ∧ w.idle ≤ w'.idle)
theorem RelW.step {w w' : Wd} (h : RelW w w') (hi : w.idle < w.tasks.length) : ∃ m, m ≤ 1 ∧ RelW (stepW w) (runW m w') ∧ evW w = trW m w' := by
  obtain ⟨h1, h2, h3, h4⟩ := vaWd_iff.1 h.va
  obtain ⟨t, ht⟩ : ∃ t, w.tasks[w.turn.toNat]? = some t := ⟨_, List.getElem?_eq_getElem (by omega)⟩
  have hm := List.mem_of_getElem? ht
  have hva := h4 t hm
  have hl : w'.tasks.length = w.tasks.length := by rw [h.tasks, List.length_map]
  have ht' : w'.tasks[w.turn.toNat]? = some (foTk t) := by rw [h.tasks, List.getElem?_map, ht]; rfl
  have hk := stepW_keeps h.va hi
  have e : stepW w = ⟨w.tasks.set w.turn.toNat (stepP t w.boxes).1, (stepP t w.boxes).2.1, (nextT w.tasks.length w.turn w.idle (stepP t w.boxes).2.2.2).1, (nextT w.tasks.length w.turn w.idle (stepP t w.boxes).2.2.2).2, w.out ++ (stepP t w.boxes).2.2.1⟩ := by
    unfold stepW; rw [ht]
  have ee : evW w = evL w.turn (evS t w.boxes) := by unfold evW; rw [ht]
  by_cases hsil : ∃ s r, t.rest.list = s :: r ∧ silS s
  · obtain ⟨s, r, hr, hs⟩ := hsil
    obtain ⟨a1, a2, a3, a4, a5⟩ := step_silent (bs := w.boxes) hva hr hs
    refine ⟨0, by omega, ⟨?_, ?_, ?_, hk.1, h.va', h.idl, ?_⟩, by rw [ee, a5]; rfl⟩
    · rw [e]
      simp only [runW]
      rw [h.tasks, List.map_set, a1, set_same (by rw [List.getElem?_map, ht]; rfl)]
    · rw [e]; simp only [runW]; rw [a2, h.boxes]
    · rw [e]; simp only [runW]; rw [a3, List.append_nil, h.out]
    · rcases h.sync with q | q
      · exact .inl q
      · refine .inr ?_
        rw [e, a4]
        simp only [runW, nextT, if_true]
        have := (vaWd_iff.1 h.va').1
        exact ⟨q.1, by omega⟩
  · obtain ⟨b1, b2⟩ := step_real (bs := w.boxes) hva (fun s r hr hs => hsil ⟨s, r, hr, hs⟩)
    by_cases hr' : w'.idle < w'.tasks.length
    · have hsync : w.turn = w'.turn ∧ w.idle ≤ w'.idle := by
        rcases h.sync with q | q
        · exact absurd hr' q
        · exact q
      have e' : stepW w' = ⟨w'.tasks.set w'.turn.toNat (foTk (stepP t w.boxes).1), (stepP t w.boxes).2.1, (nextT w'.tasks.length w'.turn w'.idle (stepP t w.boxes).2.2.2).1, (nextT w'.tasks.length w'.turn w'.idle (stepP t w.boxes).2.2.2).2, w'.out ++ (stepP t w.boxes).2.2.1⟩ := by
        unfold stepW; rw [← hsync.1, ht']; simp only [h.boxes, b1]
      have er : runW 1 w' = stepW w' := by rw [runW_succ hr']; rfl
      refine ⟨1, Nat.le_refl _, ?_, ?_⟩
      · rw [er]
        refine ⟨?_, ?_, ?_, hk.1, (stepW_keeps h.va' hr').1, h.idl.step h.va' hr', .inr ?_⟩
        · rw [e, e']; simp only; rw [h.tasks, ← hsync.1, List.map_set]
        · rw [e, e']
        · rw [e, e']; simp only; rw [h.out]
        · rw [e, e']
          simp only [hl, ← hsync.1]
          unfold nextT
          split
          · exact ⟨rfl, Int.le_refl _⟩
          · split
            · exact ⟨rfl, Int.le_refl _⟩
            · exact ⟨rfl, by simp only; omega⟩
      · rw [trW_succ hr', show trW 0 (stepW w') = [] from rfl, List.append_nil, ee]
        unfold evW
        rw [← hsync.1, ht', h.boxes]
        simp only [b2]
    · have hst := h.idl.rest h.va' hr' (foTk t) (List.mem_of_getElem? ht')
      rw [h.boxes] at hst
      have hst2 : stillT t w.boxes := by
        unfold stillT at hst ⊢
        rw [b1] at hst
        exact hst
      obtain ⟨s1, s2, s3⟩ := still_same hst2
      refine ⟨0, by omega, ⟨?_, ?_, ?_, hk.1, h.va', h.idl, .inl hr'⟩, by rw [ee, still_ev hst2]; rfl⟩
      · rw [e]; simp only [runW]; rw [s1, set_same ht]; exact h.tasks
      · rw [e]; simp only [runW]; rw [s2]; exact h.boxes
      · rw [e]; simp only [runW]; rw [s3, List.append_nil]; exact h.out
theorem RelW.run (n : Nat) : ∀ {w w' : Wd}, RelW w w' → ∃ m, m ≤ n ∧ RelW (runW n w) (runW m w') ∧ trW n w = trW m w' := by
  induction n with
  | zero => intro w w' h; exact ⟨0, Nat.le_refl _, h, rfl⟩
  | succ n ih =>
    intro w w' h
    by_cases hi : w.idle < w.tasks.length
    · obtain ⟨m1, a1, a2, a3⟩ := h.step hi
      obtain ⟨m2, b1, b2, b3⟩ := ih a2
      rw [runW_add] at b2
      refine ⟨m1 + m2, by omega, by rw [runW_succ hi]; exact b2, ?_⟩
      rw [trW_succ hi, a3, b3, trW_add]
    · exact ⟨0, by omega, by rw [runW_rest hi]; exact h, by rw [trW_rest hi]; rfl⟩
theorem foP_rel {p : Pg} (hv : vaPg p = true) : RelW (newW p) (newW (foP p)) where
  tasks := by simp [newW, foP, foTk]
  boxes := rfl
  out := rfl
  va := (newW_bo hv).1
  va' := (newW_bo (foP_va hv)).1
  idl := idleI_new
  sync := .inr ⟨rfl, Int.le_refl _⟩
/-- At rest, the two are seen to be the same. -/
theorem fold_same {p : Pg} (hv : vaPg p = true) {n : Nat} (hi : ¬ (runW n (newW p)).idle < (runW n (newW p)).tasks.length) :
    outW (runW n (newW (foP p))) = outW (runW n (newW p)) ∧ trW n (newW (foP p)) = trW n (newW p) := by
  obtain ⟨m, a1, a2, a3⟩ := (foP_rel hv).run n
  have hst := stillW hv hi
  have hl : (runW m (newW (foP p))).tasks.length = (runW n (newW p)).tasks.length := by rw [a2.tasks, List.length_map]
  have v1 := (vaWd_iff.1 a2.va).1
  have v2 := (vaWd_iff.1 a2.va').1
  have hi' : ¬ (runW m (newW (foP p))).idle < (runW m (newW (foP p))).tasks.length := by
    rcases a2.sync with q | q
    · exact q
    · omega
  have e1 : runW n (newW (foP p)) = runW m (newW (foP p)) := by
    have := runW_add m (n - m) (newW (foP p))
    rw [show m + (n - m) = n by omega, runW_rest hi'] at this
    exact this.symm
  have e2 : trW n (newW (foP p)) = trW m (newW (foP p)) := by
    have := trW_add m (n - m) (newW (foP p))
    rw [show m + (n - m) = n by omega, trW_rest hi', List.append_nil] at this
    exact this
  rw [e1, e2, a3]
  refine ⟨?_, rfl⟩
  generalize runW m (newW (foP p)) = w' at *
  generalize runW n (newW p) = w at *
  unfold outW
  rw [a2.out, a2.boxes, a2.tasks, List.map_map]
  have r1 : decide (w'.idle = ((w.tasks.map foTk).length : Int)) = true := by rw [List.length_map]; simp only [decide_eq_true_eq]; omega
  have r2 : decide (w.idle = (w.tasks.length : Int)) = true := by simp only [decide_eq_true_eq]; omega
  rw [r1, r2]
  congr 1
  refine List.map_congr_left fun t ht => ?_
  simp only [Function.comp]
  have h := hst t ht
  have hva := (vaWd_iff.1 a2.va).2.2.2 t ht
  cases hr : t.rest.list with
  | nil =>
    have h1 : (foTk t).rest.list = [] := by unfold foTk; rw [foS_list, hr]; rfl
    rw [h1]
  | cons s r =>
    have hns : ¬ silS s := fun hs => by
      have := (step_silent (bs := w.boxes) hva hr hs).2.2.2.1
      unfold stillT at h
      omega
    have h1 : (foTk t).rest.list = ⟨s.k, s.v, s.b, foE s.e, foS s.body, foS s.els⟩ :: r.flatMap foT1 := by
      unfold foTk; rw [foS_list, hr, List.flatMap_cons, foT1_real hns]; rfl
    rw [h1]
    simp
end Go.Proofs.Ytmecbehegmgbhaa.AM
namespace Go.Proofs.Ytmecbehegmgbhaa.AM
set_option linter.unusedSimpArgs false
set_option linter.unusedVariables false
set_option maxRecDepth 100000
set_option maxHeartbeats 2000000
open Go
attribute [-simp] AM.elems
theorem law_FnWorldFold {H : AH} {v : AV} {zs : List Int} (h : SlI H .u8 v zs) (hz : ∀ n ∈ zs, 0 ≤ n ∧ n < 256) : CallK Cd f_wFnWorldFold [v] H fun v _ => v = .b true := by
  rw [CallK_F, CallF_eq e_wFnWorldFold rfl]
  have hlen : alen v = some zs.length := by
    rcases h with ⟨rfl, rfl⟩ | ⟨rfl, rfl⟩ | ⟨b, rest, hb, rfl, hb2⟩ <;> rfl
  simp [hlen]
  refine cnd_mk (fun _ => by simp) (fun hl => ?_)
  simp
  refine K_sDrawWorldNew h hz (by omega) fun c p H1 pc hct htl hrl x01 => ?_
  obtain ⟨vr, vt, rfl, _, _⟩ := id pc
  have x1 := Ext.push H1 [vr, vt]
  simp [store_push2e, loadN_push]
  refine K_iWorldNew (pc.ext x1) (fun f hf => by have := hct f hf; omega) fun c2 H2 wc2 x2 => ?_
  obtain ⟨W, hW⟩ : ∃ W, W = (if vaPg p = true then newW p else zeroW) := ⟨_, rfl⟩
  rw [← hW] at wc2
  obtain ⟨vt2, vb2, vo2, rfl, _, _, _⟩ := id wc2
  have n2 : H1.n < H2.n := by have := x2.1; simp at this; omega
  have q3 : H2.bk H1.n = some ⟨[vr, vt], true⟩ := (x2.2 _ (by simp)).trans push_new
  have x3 := Ext.push H2 [vt2, vb2, .I W.turn, .I W.idle, vo2]
  have q3' : (H2.push [vt2, vb2, .I W.turn, .I W.idle, vo2]).bk H1.n = some ⟨[vr, vt], true⟩ := (x3.2 _ n2).trans q3
  have y3 := (x1.trans x2).trans x3
  simp [store_push5e, loadN_bk q3']
  refine K_sWorldNew (pc.ext y3) (fun f hf => by have := hct f hf; omega) fun c4 H4 wc4 x4 => ?_
  rw [← hW] at wc4
  obtain ⟨vt4, vb4, vo4, rfl, _, _, _⟩ := id wc4
  have x5 := Ext.push H4 [vt4, vb4, .I W.turn, .I W.idle, vo4]
  have n4 : H2.n < H4.n := by have := x4.1; simp at this; omega
  have q5 : (H4.push [vt4, vb4, .I W.turn, .I W.idle, vo4]).bk H2.n = some ⟨[vt2, vb2, .I W.turn, .I W.idle, vo2], true⟩ := (x5.2 _ n4).trans ((x4.2 _ (by simp)).trans push_new)
  simp [store_push5e, loadN_bk q5, loadN_push]
  have y5 := (x3.trans x4).trans x5
  refine T_wsameWorld (wc2.ext y5) (wc4.ext x5) fun H7 x7 => ?_
  have z2 := y5.trans x7
  have z1 := (x1.trans x2).trans z2
  have z0 := x01.trans z1
  have hn7 : H1.n < H7.n ∧ H2.n < H7.n ∧ H1.n < H2.n := by have := x7.1; simp at this; omega
  have p3 : H7.bk H1.n = some ⟨[vr, vt], true⟩ := (z2.2 _ n2).trans q3
  have p5 : H7.bk H2.n = some ⟨[vt2, vb2, .I W.turn, .I W.idle, vo2], true⟩ := (x7.2 _ (by simp; omega)).trans q5
  have p7 : H7.bk H4.n = some ⟨[vt4, vb4, .I W.turn, .I W.idle, vo4], true⟩ := (x7.2 _ (by simp)).trans push_new
  have pc7 := pc.ext z1
  have wc7 := wc2.ext z2
  have wc47 := wc4.ext (x5.trans x7)
  clear z1 z2 y5 y3 x2 x4 x7 x5 x3 x1 x01 pc wc2 wc4 q3 q3' q5 n2 n4
  cases hv : vaPg p with
  | false =>
    simp [loadN_bk p5, loadN_bk p7]
    exact T_wsameWorld wc7 wc47 fun H8 x8 => by simp
  | true =>
  rw [hv, if_pos rfl] at hW
  subst hW
  obtain ⟨hva, bo, bx⟩ := newW_bo hv
  simp
  simp [loadN_bk p3]
  refine K_wrestOf pc7 hv (by omega) fun c9 H8 oc x8 => ?_
  rw [show (80 : Int).toNat = 80 from rfl] at oc
  have hk := runW_keeps 80 hva
  have hfs := fold_same hv (n := 80)
  obtain ⟨O, hO⟩ : ∃ O, O = outW (runW 80 (newW p)) := ⟨_, rfl⟩
  rw [← hO] at oc hfs
  have hel : O.ended.length = p.tasks.length := by rw [hO]; simp [outW, hk.2.1]; simp [newW]
  obtain ⟨v1, v2, v3, rfl, i1, i2, i3⟩ := id oc
  have x9 := Ext.push H8 [v1, v2, v3, .b O.rest]
  have q9 : (H8.push [v1, v2, v3, .b O.rest]).bk H8.n = some ⟨[v1, v2, v3, .b O.rest], true⟩ := push_new
  have p9 := ((x8.trans x9).2 H1.n (by omega)).trans p3
  obtain ⟨_, _, e, ir, lt⟩ := id pc7
  simp only [List.cons.injEq, and_true] at e
  obtain ⟨rfl, rfl⟩ := e
  have hel' : (O.ended.length : Int) = p.tasks.length := by omega
  cases hR : O.rest with
  | false =>
    rw [hR] at q9 p9
    simp [store_push4, load_bk q9, i3.alen, load_bk p9, lt.alen, hel']
  | true =>
  have hid : ¬ (runW 80 (newW p)).idle < (runW 80 (newW p)).tasks.length := by
    have h5 := hR
    rw [hO] at h5
    simp only [outW, decide_eq_true_eq] at h5
    omega
  obtain ⟨ho, _⟩ := hfs hid
  rw [hR] at q9 p9 x9
  simp [store_push4, load_bk q9, loadN_bk p9]
  refine K_iProgramFold (pc7.ext (x8.trans x9)) hv fun cx Ha px xa => ?_
  obtain ⟨ur, ut, rfl, _, _⟩ := id px
  have xb := Ext.push Ha [ur, ut]
  have qb : (Ha.push [ur, ut]).bk Ha.n = some ⟨[ur, ut], true⟩ := push_new
  simp [store_push2e, loadN_bk qb]
  refine K_wrestOf (px.ext xb) (foP_va hv) (by omega) fun cy Hb oy xbb => ?_
  rw [show (80 : Int).toNat = 80 from rfl, ho] at oy
  have qc := ((xa.trans (xb.trans xbb)).2 H8.n (by simp)).trans q9
  simp [xbb, loadN_bk qc]
  have i123 : OC (fun _ => True) Hb [v1, v2, v3, .b true] O := by
    rw [hR] at oc
    exact ((((oc.ext x9).ext xa).ext xb).ext xbb).mono (Nat.le_refl _) (fun _ _ _ => rfl) (fun _ _ _ => trivial)
  refine T_wsameOutcome oy i123 fun Hc xc => ?_
  simp [xc]
end Go.Proofs.Ytmecbehegmgbhaa.AM
namespace Go.Proofs.Ytmecbehegmgbhaa.AM
set_option linter.unusedSimpArgs false
set_option linter.unusedVariables false
set_option maxRecDepth 100000
set_option maxHeartbeats 2000000
open Go
attribute [-simp] AM.elems
theorem law_FnTraceFold {H : AH} {v : AV} {zs : List Int} (h : SlI H .u8 v zs) (hz : ∀ n ∈ zs, 0 ≤ n ∧ n < 256) : CallK Cd f_wFnTraceFold [v] H fun v _ => v = .b true := by
  rw [CallK_F, CallF_eq e_wFnTraceFold rfl]
  have hlen : alen v = some zs.length := by
    rcases h with ⟨rfl, rfl⟩ | ⟨rfl, rfl⟩ | ⟨b, rest, hb, rfl, hb2⟩ <;> rfl
  simp [hlen]
  refine cnd_mk (fun _ => by simp) (fun hl => ?_)
  simp
  refine K_sDrawWorldNew h hz (by omega) fun c p H1 pc hct htl hrl x01 => ?_
  obtain ⟨vr, vt, rfl, _, _⟩ := id pc
  have x1 := Ext.push H1 [vr, vt]
  simp [store_push2e, loadN_push]
  refine K_iWorldNew (pc.ext x1) (fun f hf => by have := hct f hf; omega) fun c2 H2 wc2 x2 => ?_
  obtain ⟨W, hW⟩ : ∃ W, W = (if vaPg p = true then newW p else zeroW) := ⟨_, rfl⟩
  rw [← hW] at wc2
  obtain ⟨vt2, vb2, vo2, rfl, _, _, _⟩ := id wc2
  have n2 : H1.n < H2.n := by have := x2.1; simp at this; omega
  have q3 : H2.bk H1.n = some ⟨[vr, vt], true⟩ := (x2.2 _ (by simp)).trans push_new
  have x3 := Ext.push H2 [vt2, vb2, .I W.turn, .I W.idle, vo2]
  have q3' : (H2.push [vt2, vb2, .I W.turn, .I W.idle, vo2]).bk H1.n = some ⟨[vr, vt], true⟩ := (x3.2 _ n2).trans q3
  have y3 := (x1.trans x2).trans x3
  simp [store_push5e, loadN_bk q3']
  refine K_sWorldNew (pc.ext y3) (fun f hf => by have := hct f hf; omega) fun c4 H4 wc4 x4 => ?_
  rw [← hW] at wc4
  obtain ⟨vt4, vb4, vo4, rfl, _, _, _⟩ := id wc4
  have x5 := Ext.push H4 [vt4, vb4, .I W.turn, .I W.idle, vo4]
  have n4 : H2.n < H4.n := by have := x4.1; simp at this; omega
  have q5 : (H4.push [vt4, vb4, .I W.turn, .I W.idle, vo4]).bk H2.n = some ⟨[vt2, vb2, .I W.turn, .I W.idle, vo2], true⟩ := (x5.2 _ n4).trans ((x4.2 _ (by simp)).trans push_new)
  simp [store_push5e, loadN_bk q5, loadN_push]
  have y5 := (x3.trans x4).trans x5
  refine T_wsameWorld (wc2.ext y5) (wc4.ext x5) fun H7 x7 => ?_
  have z2 := y5.trans x7
  have z1 := (x1.trans x2).trans z2
  have z0 := x01.trans z1
  have hn7 : H1.n < H7.n ∧ H2.n < H7.n ∧ H1.n < H2.n := by have := x7.1; simp at this; omega
  have p3 : H7.bk H1.n = some ⟨[vr, vt], true⟩ := (z2.2 _ n2).trans q3
  have p5 : H7.bk H2.n = some ⟨[vt2, vb2, .I W.turn, .I W.idle, vo2], true⟩ := (x7.2 _ (by simp; omega)).trans q5
  have p7 : H7.bk H4.n = some ⟨[vt4, vb4, .I W.turn, .I W.idle, vo4], true⟩ := (x7.2 _ (by simp)).trans push_new
  have pc7 := pc.ext z1
  have wc7 := wc2.ext z2
  have wc47 := wc4.ext (x5.trans x7)
  clear z1 z2 y5 y3 x2 x4 x7 x5 x3 x1 x01 pc wc2 wc4 q3 q3' q5 n2 n4
  cases hv : vaPg p with
  | false =>
    simp [loadN_bk p5, loadN_bk p7]
    exact T_wsameWorld wc7 wc47 fun H8 x8 => by simp
  | true =>
  rw [hv, if_pos rfl] at hW
  subst hW
  obtain ⟨hva, bo, bx⟩ := newW_bo hv
  simp
  simp [loadN_bk p3]
  refine K_wrestOf pc7 hv (by omega) fun c9 H8 oc x8 => ?_
  rw [show (80 : Int).toNat = 80 from rfl] at oc
  have hk := runW_keeps 80 hva
  have hfs := fold_same hv (n := 80)
  obtain ⟨R, hR⟩ : ∃ R, R = (outW (runW 80 (newW p))).rest := ⟨_, rfl⟩
  obtain ⟨v1, v2, v3, rfl, i1, i2, i3⟩ := id oc
  rw [← hR]
  cases R with
  | false => simp
  | true =>
  have p8 := (x8.2 _ (by omega)).trans p3
  have hid : ¬ (runW 80 (newW p)).idle < (runW 80 (newW p)).tasks.length := by
    have h5 := hR.symm
    simp only [outW, decide_eq_true_eq] at h5
    omega
  obtain ⟨_, htr⟩ := hfs hid
  simp [loadN_bk p8]
  refine K_iProgramFold (pc7.ext x8) hv fun cx Ha px xa => ?_
  obtain ⟨ur, ut, rfl, _, _⟩ := id px
  have xb := Ext.push Ha [ur, ut]
  have qb : (Ha.push [ur, ut]).bk Ha.n = some ⟨[ur, ut], true⟩ := push_new
  simp [store_push2e, loadN_bk qb]
  have hvf := foP_va hv
  have hvf' := hvf
  unfold vaPg at hvf'
  simp only [Bool.and_eq_true, decide_eq_true_eq, List.all_eq_true] at hvf'
  obtain ⟨hvaf, bof, bxf⟩ := newW_bo hvf
  refine K_iWorldNew (px.ext xb) (fun f hf => by
    have := hvf'.2 f hf
    unfold vaF vaS at this
    simp only [Bool.and_eq_true, decide_eq_true_eq] at this
    omega) fun cz Hb wz xbb => ?_
  rw [hvf, if_pos rfl] at wz
  rw [hvf]
  obtain ⟨zt, zb, zo, rfl, _, _, _⟩ := id wz
  have xc := Ext.push Hb [zt, zb, .I (newW (foP p)).turn, .I (newW (foP p)).idle, zo]
  have qc : (Hb.push [zt, zb, .I (newW (foP p)).turn, .I (newW (foP p)).idle, zo]).bk Hb.n = some ⟨[zt, zb, .I (newW (foP p)).turn, .I (newW (foP p)).idle, zo], true⟩ := push_new
  have yc := (((x8.trans xa).trans xb).trans xbb).trans xc
  have p5c := (yc.2 _ (by omega)).trans p5
  have e80 : trF (80 : Int) (newW p) = (trW 80 (newW p), true) := by unfold trF; rw [if_pos ⟨hva, by omega, by omega⟩]; rfl
  have f80 : trF (80 : Int) (newW (foP p)) = (trW 80 (newW p), true) := by unfold trF; rw [if_pos ⟨hvaf, by omega, by omega⟩]; show (trW 80 (newW (foP p)), true) = _; rw [htr]
  have hbo := bo.2
  have hbof := bof.2
  simp [store_push5e, loadN_bk p5c]
  refine K_iWorldTrace (wc7.ext yc) bo.ct (by omega) (fun _ => ⟨bo.1, by omega⟩) (by omega) fun vd Hd evd xd => ?_
  rw [e80] at evd ⊢
  have qd := (xd.2 _ (by simp)).trans qc
  simp [loadN_bk qd]
  refine K_iWorldTrace ((wz.ext xc).ext xd) bof.ct (by omega) (fun _ => ⟨bof.1, by omega⟩) (by omega) fun ve He eve xe => ?_
  rw [f80] at eve ⊢
  simp
  exact T_wsameEvents (evd.ext xe) eve (by simp)
end Go.Proofs.Ytmecbehegmgbhaa.AM
