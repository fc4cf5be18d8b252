/-
  Draws of machines for steps; lists and machines compared. No condition.
-/
import Derived.Test.YtdgmihohmkdpjaaDoorAMzm
namespace Go.Proofs.YtdgmihohmkdpjaaDoor.AM
set_option linter.unusedSimpArgs false
set_option linter.unusedVariables false
set_option maxRecDepth 10000
open Go

section
variable {H : AH} {K : AV → AH → Prop} {w : Fk K}
theorem St.ext {H0 H H' : AH} {r : Nat} (h : St r H H') (e : Ext H0 H) (hr : H0.n ≤ r) : Ext H0 H' := ⟨Nat.le_trans e.1 h.1, fun b hb => (h.2 b (Nat.lt_of_lt_of_le hb e.1) (by omega)).trans (e.2 b hb)⟩
theorem K_sDrawMachineStep {v : AV} {zs : List Int} (h : SlI H .u8 v zs) (hz : ∀ n ∈ zs, 0 ≤ n ∧ n < 256) (hl : zs.length ≤ 1048576)
    (k : ∀ c x H', SrcM H' c x → Ext H H' → K (.agg c) H') : CallF Cd f_sDrawMachineStep [v] H K w := by
  rw [CallF_eq e_sDrawMachineStep rfl]
  simp
  refine K_l6Open (h.ext (Ext.push _ _)) hz hl fun H1 hR hS => ?_
  have hR' : Rdx H1 (H.n + 1) 0 := ⟨0, by omega, by omega, hR⟩
  have n1 := hR.1
  have n1' := hS.1
  simp only [push_n] at n1 n1' hS
  have x1 : Ext H H1 := hS.ext (Ext.push H [.nils, .I 0, .nils]) (by omega)
  simp
  refine K_sl94Machine hR' (by omega) fun c x H2 hM hG hR2 hS2 => ?_
  have n2 := hS2.1
  have gA1 : H1.bk H.n = some ⟨[.nils, .I 0, .nils], true⟩ := hS.at (Nat.lt_succ_self _) (by omega) push_new
  have gA2 := hS2.at (by omega) (by omega) gA1
  have hM' := hG.put (o := some ⟨c, true⟩) hM (show H.n < H1.n by omega)
  have x2 : Ext H H2 := hS2.ext x1 (by omega)
  obtain ⟨b, o, e, rfl, g1, g2⟩ := hG
  simp [store_bk gA2, loadN_bk put_same]
  exact k _ _ _ hM' (x2.put (Nat.le_refl _))
/-- The number of steps that is drawn beside a machine. -/
theorem K_sDrawMachineRun {v : AV} {zs : List Int} (h : SlI H .u8 v zs) (hz : ∀ n ∈ zs, 0 ≤ n ∧ n < 256) (hl : zs.length ≤ 1048576)
    (k : ∀ c x n H', SrcM H' c x → Ext H H' → n = -1 ∨ n = 1000001 ∨ (0 ≤ n ∧ n < 40) → K (.tup [.agg c, .I n]) H') : CallF Cd f_sDrawMachineRun [v] H K w := by
  rw [CallF_eq e_sDrawMachineRun rfl]
  simp
  refine K_l6Open (h.ext (Ext.push _ _)) hz hl fun H1 hR hS => ?_
  have hR' : Rdx H1 (H.n + 1) 0 := ⟨0, by omega, by omega, hR⟩
  have n1 := hR.1
  have n1' := hS.1
  simp only [push_n] at n1 n1' hS
  have x1 : Ext H H1 := hS.ext (Ext.push H [.nils, .I 0, .nils]) (by omega)
  simp
  refine K_sl94Machine hR' (by omega) fun c x H2 hM hG hR2 hS2 => ?_
  have n2 := hS2.1
  have gA1 : H1.bk H.n = some ⟨[.nils, .I 0, .nils], true⟩ := hS.at (Nat.lt_succ_self _) (by omega) push_new
  have gA2 := hS2.at (by omega) (by omega) gA1
  have x2 : Ext H H2 := hS2.ext x1 (by omega)
  obtain ⟨b0, o0, e0, hc, g1, g2⟩ := hG
  have s1 : seg c 0 3 = some c := by rw [hc]; rfl
  have l1 : c.length = 3 := by rw [hc]; rfl
  have ns : ∀ b o n, asSl (.sl b0 o0 x.regs.length (.ex x.regs.length)) = some (b, o, n) → H1.n ≤ b := fun b o n q => by simp at q; omega
  -- the machine, when blocks older than it (but for its own) and the reader have changed
  have far : ∀ G, H2.n ≤ G.n → (∀ b, H1.n ≤ b → b < H2.n → G.bk b = H2.bk b) → SrcM G c x := fun G hn hk => by
    obtain ⟨r', e', hc', k1, k2⟩ := hM
    rw [hc] at hc'
    simp only [List.cons.injEq, and_true, true_and] at hc'
    obtain ⟨rfl, rfl⟩ := hc'
    exact ⟨_, _, hc, k1.same hn fun b o n q hb => hk b (by simp at q; omega) hb, k2.same hn fun b o n q hb => hk b (g2 _ _ _ q) hb⟩
  simp [-AM.seg, AH.store, push_put, l1]
  refine P_pick hR2.push (by omega) (by omega) fun x0 H3 hx0 hR3 hS3 => ?_
  have n3 := hS3.1
  simp only [push_n] at n3
  have gB3 : H3.bk H2.n = some ⟨c, true⟩ := hS3.at (Nat.lt_succ_self _) (by omega) push_new
  have gA3 := hS3.at (by simp; omega) (by omega) (push_old (cs := c) (by omega) gA2)
  have x3 : Ext H H3 := hS3.ext x2.to_push (by omega)
  have k3 : ∀ b, H1.n ≤ b → b < H2.n → H3.bk b = H2.bk b := fun b h1 h2 => (hS3.2 b (Nat.lt_succ_of_lt h2) (by omega)).trans (push_old h2 rfl)
  simp
  refine cnd_mk (fun _ => ?_) (fun _ => ?_)
  · simp [-AM.seg, loadN_bk gB3, s1]
    refine P_pick hR3.push (by omega) (by omega) fun x1 H4 hx1 hR4 hS4 => ?_
    have n4 := hS4.1
    simp only [push_n] at n4
    have gB4 := hS4.at (by simp; omega) (by omega) (push_old (cs := [.I (-1), .I 1000001]) (by omega) gB3)
    have gC4 : H4.bk H3.n = some ⟨Ints [-1, 1000001], true⟩ := hS4.at (Nat.lt_succ_self _) (by omega) push_new
    have gA4 := hS4.at (by simp; omega) (by omega) (push_old (cs := [.I (-1), .I 1000001]) (by omega) gA3)
    have x4 : Ext H H4 := hS4.ext x3.to_push (by omega)
    have k4 : ∀ b, H1.n ≤ b → b < H2.n → H4.bk b = H2.bk b := fun b h1 h2 => (hS4.2 b (by simp; omega) (by omega)).trans (push_old (by omega) (k3 b h1 h2))
    obtain ⟨y, hy, ey⟩ := @Ints_get [-1, 1000001] x1 2 (by omega) rfl
    have y1 : H4.bk H2.n = (H3.push [.I (-1), .I 1000001]).bk H2.n := hS4.2 _ (by simp; omega) (by omega)
    have y2 : H4.bk H3.n = (H3.push [.I (-1), .I 1000001]).bk H3.n := hS4.2 _ (by simp) (by omega)
    have z1 : ¬ H2.n = H3.n := by omega
    have z2 : ¬ H3.n = H.n := by omega
    have hd : ∀ a b d : AV, splice [a, b, d] 0 c = c := fun a b d => by rw [hc]; rfl
    have st := store_bk (o := 0) (vs := c) gA4 (by simp [l1])
    rw [hd] at st
    have ld : H4.load H3.n x1.toNat = some (.I y) := by rw [load_bk gC4]; exact ey
    have tp : (AV.agg c).isTup = false := rfl
    simp (disch := omega) [-AM.seg, y1, y2, z1, z2, ld, l1, st, loadN_bk put_same, s1]
    refine k c x y _ (far _ (by simp; omega) fun b h1 h2 => ?_) (x4.put (Nat.le_refl _)) (by simp at hy; omega)
    simp only [put_bk]; rw [if_neg (by omega)]; exact k4 b h1 h2
  · simp [-AM.seg, loadN_bk gB3, s1]
    refine P_pick hR3 (by omega) (by omega) fun x1 H4 hx1 hR4 hS4 => ?_
    have n4 := hS4.1
    have gB4 := hS4.at (by omega) (by omega) gB3
    have gA4 := hS4.at (by omega) (by omega) gA3
    have x4 : Ext H H4 := hS4.ext x3 (by omega)
    have k4 : ∀ b, H1.n ≤ b → b < H2.n → H4.bk b = H2.bk b := fun b h1 h2 => (hS4.2 b (by omega) (by omega)).trans (k3 b h1 h2)
    have y1 : H4.bk H2.n = H3.bk H2.n := hS4.2 _ (by omega) (by omega)
    have hd : ∀ a b d : AV, splice [a, b, d] 0 c = c := fun a b d => by rw [hc]; rfl
    have st := store_bk (o := 0) (vs := c) gA4 (by simp [l1])
    rw [hd] at st
    simp (disch := omega) [-AM.seg, y1, l1, st, loadN_bk put_same, s1]
    refine k c x x1 _ (far _ (by simp; omega) fun b h1 h2 => ?_) (x4.put (Nat.le_refl _)) (by omega)
    simp only [put_bk]; rw [if_neg (by omega)]; exact k4 b h1 h2
theorem K_wsameInts_l {a b : AV} {la lb : List Int} (ha : SeesZ H a la) (hb : SeesZ H b lb) (he : la.length = lb.length) {Q : Out → Env → AH → Prop}
    (h1 : ∀ e H, Q (.brk 0) e H = K (.b true) H) (h2 : ∀ e H, Q .ret e H = bindO (get e 4) fun v => K v H) (m i : Nat) (hm : i + m = la.length) :
    W Cd (.loop c_wsameInts_l0) [(0, a), (1, b), (5, .I i)] H Q ↔ K (.b (decide (la.drop i = lb.drop i))) H := by
  have hbig := ha.2.1
  induction m generalizing i with
  | zero =>
    rw [W_loop_as c_wsameInts_l0.eq_1]
    have : ¬ (i : Int) < la.length := by omega
    simp [this, h1, ha.1]
    rw [List.drop_eq_nil_of_le (by omega), List.drop_eq_nil_of_le (by omega)]
    simp
  | succ m ih =>
    rw [W_loop_as c_wsameInts_l0.eq_1]
    have hi : i < la.length := by omega
    have hi' : i < lb.length := by omega
    obtain ⟨b1, o1, s1, _, l1⟩ := ha.at hi
    obtain ⟨b2, o2, s2, _, l2⟩ := hb.at hi'
    have hlt : (i : Int) < la.length := by omega
    have hr := ih (i + 1) (by omega)
    have d1 := List.drop_eq_getElem_cons hi
    have d2 := List.drop_eq_getElem_cons hi'
    simp (disch := omega) [hlt, ha.1, s1, s2, l1, l2]
    refine cnd_iff (fun h => ?_) (fun h => ?_)
    · simp [h, h2]
      exact Kb_false (by rw [d1, d2]; simp only [decide_eq_false_iff_not, List.cons.injEq]; exact fun q => h q.1)
    · simp (disch := omega) [h]
      have h := Decidable.of_not_not h
      rw [show decide (la.drop i = lb.drop i) = decide (la.drop (i + 1) = lb.drop (i + 1)) from by rw [d1, d2, h]; simp only [List.cons.injEq, true_and]]
      simpa using hr
theorem K_wsameInts {a b : AV} {la lb : List Int} (ha : SeesZ H a la) (hb : SeesZ H b lb) : CallF Cd f_wsameInts [a, b] H K w = K (.b (decide (la = lb))) H := by
  rw [CallF_eq e_wsameInts rfl]
  simp [ha.1, hb.1]
  refine cnd_iff (fun hn => ?_) (fun hn => ?_)
  · simp; exact Kb_false (by simp; intro e; exact hn (by rw [e]))
  · simp
    have he : la.length = lb.length := by omega
    have := K_wsameInts_l (K := K) ha hb he (Q := ?_) ?_ ?_ la.length 0 (by omega)
    · simpa using this
    · intros; simp
    · intros; simp
theorem K_wsameMachine {c c' : List AV} {m m' : Mach} (h : SeesM H c m) (h' : SeesM H c' m') : CallF Cd f_wsameMachine [.agg c, .agg c'] H K w = K (.b (decide (m = m'))) ((H.push c).push c') := by
  obtain ⟨r, e, rfl, hr, he, _, _⟩ := h
  obtain ⟨r', e', rfl, hr', he', _, _⟩ := h'
  have x1 : Ext H ((H.push [r, .I m.pc, e]).push [r', .I m'.pc, e']) := of_eq_true ext_pp
  have a1 := fun (K : AV → AH → Prop) (w : Fk K) => K_wsameInts (K := K) (w := w) (hr.ext x1) (hr'.ext x1)
  have a2 := fun (K : AV → AH → Prop) (w : Fk K) => K_wsameInts (K := K) (w := w) (he.ext x1) (he'.ext x1)
  rw [CallF_eq e_wsameMachine rfl]
  have em : decide (m = m') = (decide (m.pc = m'.pc) && decide (m.regs = m'.regs) && decide (m.mem = m'.mem)) := by
    cases m; cases m'; rw [Bool.eq_iff_iff]; simp only [decide_eq_true_eq, Bool.and_eq_true, Mach.mk.injEq]; exact ⟨fun ⟨a, b, c⟩ => ⟨⟨b, a⟩, c⟩, fun ⟨⟨a, b⟩, c⟩ => ⟨b, a, c⟩⟩
  rw [em]
  by_cases h1 : m.pc = m'.pc
  · have d1 : decide (m.pc = m'.pc) = true := by simp [h1]
    clear em h1
    by_cases h2 : m.regs = m'.regs
    · have d2 : decide (m.regs = m'.regs) = true := by simp [h2]
      simp [load_push, d1, a1, d2, a2]
    · have d2 : decide (m.regs = m'.regs) = false := by simp [h2]
      simp [load_push, d1, a1, d2, a2]
  · have d1 : decide (m.pc = m'.pc) = false := by simp [h1]
    simp [load_push, d1]
/-- In how many places two lists differ. -/
def cntD : List Int → List Int → Nat
  | x :: a, y :: b => (if x = y then 0 else 1) + cntD a b
  | _, _ => 0
theorem cntD_nil {a b : List Int} (h : a = [] ∨ b = []) : cntD a b = 0 := by
  rcases h with rfl | rfl
  · cases b <;> rfl
  · cases a <;> rfl
theorem cntD_le : ∀ {a b : List Int}, cntD a b ≤ a.length
  | [], _ => by simp [cntD]
  | _ :: _, [] => by simp [cntD]
  | x :: a, y :: b => by have := @cntD_le a b; simp only [cntD, List.length_cons]; split <;> omega
theorem K_wdiffers_l {a b : AV} {la lb : List Int} (ha : SeesZ H a la) (hb : SeesZ H b lb) {Q : Out → Env → AH → Prop} (m i : Nat) (hm : i + m = la.length) {n : Nat} (hn : n + m ≤ la.length)
    (h1 : ∀ n e, Q (.brk 0) ([(0, a), (1, b), (5, .I n)] ++ e) H = K (.I n) H) :
    W Cd (.loop c_wdiffers_l0) [(0, a), (1, b), (5, .I n), (6, .I i)] H Q ↔ K (.I ((n + cntD (la.drop i) (lb.drop i) : Nat) : Int)) H := by
  have hbig := ha.2.1
  induction m generalizing i n with
  | zero =>
    rw [W_loop_as c_wdiffers_l0.eq_1]
    have : ¬ (i : Int) < la.length := by omega
    rw [cntD_nil (.inl (List.drop_eq_nil_of_le (by omega)))]
    simp [this, ha.1]
    exact iff_of_eq (h1 n [(6, .I i), (16, .b false)])
  | succ m ih =>
    rw [W_loop_as c_wdiffers_l0.eq_1]
    have hi : i < la.length := by omega
    have hlt : (i : Int) < la.length := by omega
    by_cases hi' : i < lb.length
    · obtain ⟨b1, o1, s1, _, l1⟩ := ha.at hi
      obtain ⟨b2, o2, s2, _, l2⟩ := hb.at hi'
      have hlt' : (i : Int) < lb.length := by omega
      rw [List.drop_eq_getElem_cons hi, List.drop_eq_getElem_cons hi']
      simp (disch := omega) [hlt, hlt', ha.1, hb.1, s1, s2, l1, l2, cntD]
      refine cnd_iff (fun h => ?_) (fun h => ?_)
      · have hr := ih (i + 1) (n := n + 1) (by omega) (by omega)
        simp (disch := omega) [h]
        have e : (n : Int) + (1 + cntD (la.drop (i + 1)) (lb.drop (i + 1))) = ((n + 1 + cntD (la.drop (i + 1)) (lb.drop (i + 1)) : Nat) : Int) := by omega
        rw [e]
        simpa using hr
      · have hr := ih (i + 1) (n := n) (by omega) (by omega)
        simp (disch := omega) [h]
        have h := Decidable.of_not_not h
        simpa [h] using hr
    · have hlt' : ¬ (i : Int) < lb.length := by omega
      rw [cntD_nil (.inr (List.drop_eq_nil_of_le (by omega)))]
      simp [hlt, hlt', ha.1, hb.1]
      exact iff_of_eq (h1 n [(6, .I i), (16, .b false)])
theorem K_wdiffers {a b : AV} {la lb : List Int} (ha : SeesZ H a la) (hb : SeesZ H b lb) : CallF Cd f_wdiffers [a, b] H K w = K (.I (cntD la lb)) H := by
  rw [CallF_eq e_wdiffers rfl]
  simp
  have := K_wdiffers_l (K := K) ha hb (Q := ?_) la.length 0 (n := 0) (by omega) (by omega) ?_
  · simpa using this
  · intros; simp
end
end Go.Proofs.YtdgmihohmkdpjaaDoor.AM
