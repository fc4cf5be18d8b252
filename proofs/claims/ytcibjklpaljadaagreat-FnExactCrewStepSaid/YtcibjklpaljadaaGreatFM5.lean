/-
  The abstract machine and its walks, merged by program out of smaller texts (part 5). No condition.
-/
import Derived.Test.YtcibjklpaljadaaGreatFM4
namespace Go.Proofs.YtcibjklpaljadaaGreat.AM
set_option linter.unusedSimpArgs false
set_option linter.unusedVariables false
set_option maxRecDepth 100000
set_option maxHeartbeats 4000000
open Go
attribute [-simp] AM.elems
def ArgC (H : AH) (v : AV) (l : List (List Qd)) : Prop := alen v = some l.length ∧ l.length ≤ 9223372036854775807 ∧ v.flat = true ∧ (l.length ≤ 8589934592 → ∃ ca, SlC (fun _ => True) H v l.length 1 ca ∧ LF 1 (fun c (x : (List Qd)) => ∃ u, c = [u] ∧ ArgQ H u x) l ca)
theorem ArgC.ext {H H' v l} (h : ArgC H v l) (k : Ext H H') : ArgC H' v l := ⟨h.1, h.2.1, h.2.2.1, fun q => let ⟨ca, h1, h2⟩ := h.2.2.2 q; ⟨ca, h1.ext k, h2.imp fun _ _ ⟨vi, e, a⟩ => ⟨vi, e, a.ext k⟩⟩⟩
theorem ArgC.at {H v l} (h : ArgC H v l) (hl : l.length ≤ 8589934592) {i : Nat} {x : (List Qd)} (hi : l[i]? = some x) : ∃ b o cap u, v = .sl b o l.length cap ∧ b < H.n ∧ H.loadN b (o + i * 1) 1 = some [u] ∧ ArgQ H u x := by
  obtain ⟨ca, h1, h2⟩ := h.2.2.2 hl
  have hil := (List.getElem?_eq_some_iff.1 hi).1
  obtain ⟨b, o, cap, e1, e2, e3, e4⟩ := h1.at hil
  obtain ⟨c, f1, vi, rfl, f2⟩ := h2.get hi
  exact ⟨b, o, cap, vi, e1, e3, by rw [e4 (i * 1) 1 (by omega)]; exact f1, f2⟩
theorem ArgC.v {H v l} (h : ArgC H v l) (hl : l.length ≤ 8589934592) (hi : ∀ x ∈ l, x.length ≤ 8589934592) : CLV (fun _ => True) H v l := by
  obtain ⟨ca, h1, h2⟩ := h.2.2.2 hl
  have : ∀ (l : List (List Qd)) (ca : List AV), (∀ x ∈ l, x.length ≤ 8589934592) → LF 1 (fun c (x : (List Qd)) => ∃ u, c = [u] ∧ ArgQ H u x) l ca → LF 1 (CLc (fun _ => True) H) l ca := by
    intro l
    induction l with
    | nil => intro ca _ h; exact h
    | cons x l ih =>
      intro ca hi ⟨c, cr, e1, e2, ⟨vi, e3, e4⟩, e5⟩
      exact ⟨c, cr, e1, e2, ⟨vi, e3, e4.2.2.2 (hi x List.mem_cons_self)⟩, ih cr (fun y hy => hi y (List.mem_cons_of_mem _ hy)) e5⟩
  exact ⟨ca, h1, this l ca hi h2⟩
def ArgT (H : AH) (v : AV) (l : List Th) : Prop := alen v = some l.length ∧ l.length ≤ 9223372036854775807 ∧ v.flat = true ∧ (l.length ≤ 8589934592 → ∃ ca, SlC (fun _ => True) H v l.length 2 ca ∧ LF 2 (fun c (x : Th) => ∃ u, c = [u, .I x.pc] ∧ ArgI H u x.regs) l ca)
theorem ArgT.ext {H H' v l} (h : ArgT H v l) (k : Ext H H') : ArgT H' v l := ⟨h.1, h.2.1, h.2.2.1, fun q => let ⟨ca, h1, h2⟩ := h.2.2.2 q; ⟨ca, h1.ext k, h2.imp fun _ _ ⟨vi, e, a⟩ => ⟨vi, e, a.ext k⟩⟩⟩
theorem ArgT.at {H v l} (h : ArgT H v l) (hl : l.length ≤ 8589934592) {i : Nat} {x : Th} (hi : l[i]? = some x) : ∃ b o cap u, v = .sl b o l.length cap ∧ b < H.n ∧ H.loadN b (o + i * 2) 2 = some [u, .I x.pc] ∧ ArgI H u x.regs := by
  obtain ⟨ca, h1, h2⟩ := h.2.2.2 hl
  have hil := (List.getElem?_eq_some_iff.1 hi).1
  obtain ⟨b, o, cap, e1, e2, e3, e4⟩ := h1.at hil
  obtain ⟨c, f1, vi, rfl, f2⟩ := h2.get hi
  exact ⟨b, o, cap, vi, e1, e3, by rw [e4 (i * 2) 2 (by omega)]; exact f1, f2⟩
theorem ArgT.v {H v l} (h : ArgT H v l) (hl : l.length ≤ 8589934592) (hi : ∀ x ∈ l, x.regs.length ≤ 8589934592) : ThV (fun _ => True) H v l := by
  obtain ⟨ca, h1, h2⟩ := h.2.2.2 hl
  have : ∀ (l : List Th) (ca : List AV), (∀ x ∈ l, x.regs.length ≤ 8589934592) → LF 2 (fun c (x : Th) => ∃ u, c = [u, .I x.pc] ∧ ArgI H u x.regs) l ca → LF 2 (ThC (fun _ => True) H) l ca := by
    intro l
    induction l with
    | nil => intro ca _ h; exact h
    | cons x l ih =>
      intro ca hi ⟨c, cr, e1, e2, ⟨vi, e3, e4⟩, e5⟩
      exact ⟨c, cr, e1, e2, ⟨vi, e3, e4.2.2.2 (hi x List.mem_cons_self)⟩, ih cr (fun y hy => hi y (List.mem_cons_of_mem _ hy)) e5⟩
  exact ⟨ca, h1, this l ca hi h2⟩
section
variable {H : AH} {K : AV → AH → Prop} {w : Fk K} {n : Int}
theorem K_wszQuadSS_l {H0 : AH} {v : AV} {l : List (List Qd)} (h : ArgC H0 v l) (hl : l.length ≤ 1048576) {Q : Out → Env → AH → Prop} (hret : ∀ e H, Q .ret e H = bindO (get e 4) fun v => K v H) (hbad : ∀ H', Ext H0 H' → K (.I (-1)) H') {n0 : Int}
    (m i : Nat) (hm : i + m = l.length) {G : AH} (hx : Ext H0 G) {n : Int} (hn : 0 ≤ n ∧ n ≤ n0) (hn0 : n0 ≤ 1048576) (hall : ∀ j < i, ∀ x, l[j]? = some x → x.length ≤ 1048576)
    (hQ : ∀ e G' x, 0 ≤ x → x ≤ n0 → (∀ y ∈ l, y.length ≤ 1048576) → Ext H0 G' → get e 1 = some (.I x) → Q (.brk 0) e G') :
    W Cd (.loop c_wszQuadSS_l0) [(0, v), (1, .I n), (5, .I i)] G Q := by
  induction m generalizing i G n with
  | zero =>
    rw [W_loop_as c_wszQuadSS_l0.eq_1]
    have : i = l.length := by omega
    subst this
    simp [h.1]
    exact hQ _ G n hn.1 hn.2 (fun y hy => by
      obtain ⟨j, hj, e⟩ := List.getElem_of_mem hy
      exact hall j hj y (by rw [List.getElem?_eq_getElem hj, e])) hx rfl
  | succ m ih =>
    rw [W_loop_as c_wszQuadSS_l0.eq_1]
    have hlt : i < l.length := by omega
    have hlt' : (i : Int) < l.length := by omega
    obtain ⟨x, hxi⟩ : ∃ x, l[i]? = some x := ⟨_, List.getElem?_eq_getElem hlt⟩
    have hal := h.1
    obtain ⟨b, o, cap, vi, e1, hb, l1, ai⟩ := (h.ext hx).at (by omega) hxi
    subst e1
    have l1 := loadN_get l1 (i := 0) (by omega)
    simp only [Nat.mul_one, Nat.add_zero] at l1
    have l1 : G.load b (o + i) = some vi := by simpa using l1
    simp (disch := omega) [hlt', l1]
    by_cases h0 : n - (x.length : Int) < 0
    · simp (disch := omega) [K_wszQuadS ai.1 ai.2.1, h0, hret]
      exact hbad G hx
    · have := ih (i + 1) (by omega) hx (n := n - x.length) (by omega) (fun j hj y hy => by
        by_cases hji : j = i
        · subst hji; rw [hxi] at hy; cases hy; omega
        · exact hall j (by omega) y hy)
      simp (disch := omega) [K_wszQuadS ai.1 ai.2.1, h0]
      simpa using this
theorem K_wszQuadSS {v : AV} {l : List (List Qd)} (h : ArgC H v l) (hn : 0 ≤ n ∧ n ≤ 1048576) (k0 : ∀ H', Ext H H' → K (.I (-1)) H')
    (k1 : ∀ H' x, 0 ≤ x → x ≤ n → l.length ≤ 1048576 → (∀ y ∈ l, y.length ≤ 1048576) → Ext H H' → K (.I x) H') : CallF Cd f_wszQuadSS [v, .I n] H K w := by
  rw [CallF_eq e_wszQuadSS rfl]
  have hb := h.2.1
  by_cases h0 : n - (l.length : Int) < 0
  · simp (disch := omega) [h.1, h0]
    exact k0 H (Ext.refl _)
  · simp (disch := omega) [h.1, h0]
    have := K_wszQuadSS_l (K := K) h (by omega) (Q := ?_) (fun e H => ?_) k0 (n0 := n) l.length 0 (by omega) (Ext.refl _) (n := n - l.length) (by omega) (by omega) (by simp) ?_
    · simpa using this
    · simp
    · intro e G' x h1 h2 h3 h4 h5
      simp [h5]
      exact k1 G' x h1 h2 (by omega) h3 h4
theorem K_wszThreadS_l {H0 : AH} {v : AV} {l : List Th} (h : ArgT H0 v l) (hl : l.length ≤ 1048576) {Q : Out → Env → AH → Prop} (hret : ∀ e H, Q .ret e H = bindO (get e 4) fun v => K v H) (hbad : ∀ H', Ext H0 H' → K (.I (-1)) H') {n0 : Int}
    (m i : Nat) (hm : i + m = l.length) {G : AH} (hx : Ext H0 G) {n : Int} (hn : 0 ≤ n ∧ n ≤ n0) (hn0 : n0 ≤ 1048576) (hall : ∀ j < i, ∀ x, l[j]? = some x → x.regs.length ≤ 1048576)
    (hQ : ∀ e G' x, 0 ≤ x → x ≤ n0 → (∀ y ∈ l, y.regs.length ≤ 1048576) → Ext H0 G' → get e 1 = some (.I x) → Q (.brk 0) e G') :
    W Cd (.loop c_wszThreadS_l0) [(0, v), (1, .I n), (5, .I i)] G Q := by
  induction m generalizing i G n with
  | zero =>
    rw [W_loop_as c_wszThreadS_l0.eq_1]
    have : i = l.length := by omega
    subst this
    simp [h.1]
    exact hQ _ G n hn.1 hn.2 (fun y hy => by
      obtain ⟨j, hj, e⟩ := List.getElem_of_mem hy
      exact hall j hj y (by rw [List.getElem?_eq_getElem hj, e])) hx rfl
  | succ m ih =>
    rw [W_loop_as c_wszThreadS_l0.eq_1]
    have hlt : i < l.length := by omega
    have hlt' : (i : Int) < l.length := by omega
    obtain ⟨x, hxi⟩ : ∃ x, l[i]? = some x := ⟨_, List.getElem?_eq_getElem hlt⟩
    have hal := h.1
    obtain ⟨b, o, cap, vi, e1, hb, l1, ai⟩ := (h.ext hx).at (by omega) hxi
    subst e1
    simp (disch := omega) [hlt', l1]
    refine K_wszThread ai.1 ai.2.1 (by omega) fun H2 x2 => ?_
    by_cases h0 : n - (x.regs.length : Int) < 0
    · simp [h0, hret]
      exact hbad H2 (hx.trans x2)
    · have := ih (i + 1) (by omega) (hx.trans x2) (n := n - x.regs.length) (by omega) (fun j hj y hy => by
        by_cases hji : j = i
        · subst hji; rw [hxi] at hy; cases hy; omega
        · exact hall j (by omega) y hy)
      simp (disch := omega) [h0]
      simpa using this
theorem K_wszThreadS {v : AV} {l : List Th} (h : ArgT H v l) (hn : 0 ≤ n ∧ n ≤ 1048576) (k0 : ∀ H', Ext H H' → K (.I (-1)) H')
    (k1 : ∀ H' x, 0 ≤ x → x ≤ n → l.length ≤ 1048576 → (∀ y ∈ l, y.regs.length ≤ 1048576) → Ext H H' → K (.I x) H') : CallF Cd f_wszThreadS [v, .I n] H K w := by
  rw [CallF_eq e_wszThreadS rfl]
  have hb := h.2.1
  by_cases h0 : n - (l.length : Int) < 0
  · simp (disch := omega) [h.1, h0]
    exact k0 H (Ext.refl _)
  · simp (disch := omega) [h.1, h0]
    have := K_wszThreadS_l (K := K) h (by omega) (Q := ?_) (fun e H => ?_) k0 (n0 := n) l.length 0 (by omega) (Ext.refl _) (n := n - l.length) (by omega) (by omega) (by simp) ?_
    · simpa using this
    · simp
    · intro e G' x h1 h2 h3 h4 h5
      simp [h5]
      exact k1 G' x h1 h2 (by omega) h3 h4
theorem K_wtoThread' {vr : AV} {pc : Int} {l : List Int} (h : SeesZ H vr l) (k : ∀ v' b H', OI H' v' b l → v' ≠ .nils → H.n ≤ b → Ext H H' → K (.agg [v', .I pc]) H') : CallF Cd f_wtoThread [.agg [vr, .I pc]] H K w := by
  have x1 : Ext H (((H.push [vr, .I pc]).push [.nils, .I 0]).push [.nils, .I 0]) := (Ext.push _ _).trans ((Ext.push _ _).trans (Ext.push _ _))
  rw [CallF_eq e_wtoThread rfl]
  simp [load_push]
  refine K_wtoIntS (h.ext x1) ?_
  simp [load_push, load_put, loadN_push, loadN_put, AH.store]
  refine k _ (H.n + 1 + 1 + 1) _ ⟨h.2.1, by simp [Ints], .inr ⟨_, [], rfl, Nat.le_refl _, ?_, ?_⟩⟩ (by simp) (by omega) ?_
  · simp
  · simp
  · repeat' first | exact Ext.refl _ | apply Ext.to_push | omega | (simp only [push_n, put_n]; omega) | refine Ext.put ?_ ?_
theorem K_wtoQuadSS_l {ok : Nat → Prop} {H0 : AH} {v : AV} {l : List (List Qd)} {B : Nat} (h : CLV ok H0 v l) {Q : Out → Env → AH → Prop} (hB : H0.n ≤ B)
    (hQ : ∀ e G' rs, Ext H0 G' → (∀ b ∈ fpO (.sl B 0 l.length (.ex l.length)) B rs, H0.n ≤ b) → OG nestC G' (.sl B 0 l.length (.ex l.length)) l B rs → get e 3 = some (.sl B 0 l.length (.ex l.length)) → Q (.brk 0) e G')
    (suf pre : List (List Qd)) (hl : l = pre ++ suf) {G : AH} (cs : List AV) (rs : List (AV × Nat)) (hx : Ext H0 G) (hp : OGp nestC G B pre rs cs l.length) :
    W Cd (.loop c_wtoQuadSS_l0) [(0, v), (3, .sl B 0 l.length (.ex l.length)), (4, .I pre.length)] G Q := by
  have hbig := h.big
  have hal := h.alen
  induction suf generalizing pre G cs rs with
  | nil =>
    rw [W_loop_as c_wtoQuadSS_l0.eq_1]
    simp only [List.append_nil] at hl
    subst hl
    simp [hal]
    obtain ⟨o, hn⟩ := hp.done hbig
    refine hQ _ G rs hx (fun b hb => ?_) o rfl
    rcases mem_fpO.1 hb with q | ⟨p, hp', q⟩
    · have := grB_sub q; omega
    · have := hn p hp' b q; omega
  | cons x suf ih =>
    rw [W_loop_as c_wtoQuadSS_l0.eq_1]
    have hlen : l.length = pre.length + (suf.length + 1) := by rw [hl]; simp
    have hlt' : (pre.length : Int) < l.length := by omega
    have hq : l[pre.length]? = some x := by rw [hl]; simp
    obtain ⟨b, o, cap, vi, e1, ob, hbn, l1, iv⟩ := (h.ext hx).at hq
    subst e1
    simp (disch := omega) [hlt', l1]
    refine K_wtoQuadS iv fun v' b' H2 o2 hnn hb' x2 => ?_
    have f2 := OS.flat o2
    have bn2 : b' < H2.n := by
      obtain ⟨_, _, ⟨hv, _⟩ | ⟨_, _, _, _, q, _⟩⟩ := o2
      · exact absurd hv hnn
      · exact q
    obtain ⟨cs', st, hp'⟩ := OGp.snoc (N := nestC) (x := x) hp (by omega) x2 o2 hb' bn2
    have := ih (pre ++ [x]) (by rw [hl]; simp) cs' (rs ++ [(v', b')]) ((hx.trans x2).put hB) hp'
    simp only [nestC, Nat.mul_one] at st
    simp (disch := omega) [f2, flat_cells f2, flat_tup f2, st]
    simpa using this
theorem K_wtoQuadSS {ok : Nat → Prop} {v : AV} {l : List (List Qd)} (h : CLV ok H v l) (k : ∀ v' B rs H', OG nestC H' v' l B rs → (∀ b ∈ fpO v' B rs, H.n ≤ b) → Ext H H' → K v' H') : CallF Cd f_wtoQuadSS [v] H K w := by
  rw [CallF_eq e_wtoQuadSS rfl]
  have hbig := h.big
  simp (disch := omega) [h.alen]
  have hbg : (l.length : Int) ≤ big := by unfold big; omega
  have := K_wtoQuadSS_l (H0 := H) h (B := H.n) (Q := ?_) (Nat.le_refl _) ?_ l [] rfl (G := H.push (List.replicate l.length [.nils]).flatten) (List.replicate l.length [.nils]).flatten [] (Ext.push _ _) (OGp.nil (by simp) push_new (by simp [nestC]))
  · simpa [hbg] using this
  · intro e G' rs x hn ho he
    simp [he]
    exact k _ H.n rs G' ho hn x
theorem K_wtoThreadS_l {ok : Nat → Prop} {H0 : AH} {v : AV} {l : List Th} {B : Nat} (h : ThV ok H0 v l) {Q : Out → Env → AH → Prop} (hB : H0.n ≤ B)
    (hQ : ∀ e G' rs, Ext H0 G' → (∀ b ∈ fpO (.sl B 0 l.length (.ex l.length)) B rs, H0.n ≤ b) → OG nestT G' (.sl B 0 l.length (.ex l.length)) l B rs → get e 3 = some (.sl B 0 l.length (.ex l.length)) → Q (.brk 0) e G')
    (suf pre : List Th) (hl : l = pre ++ suf) {G : AH} (cs : List AV) (rs : List (AV × Nat)) (hx : Ext H0 G) (hp : OGp nestT G B pre rs cs l.length) :
    W Cd (.loop c_wtoThreadS_l0) [(0, v), (3, .sl B 0 l.length (.ex l.length)), (4, .I pre.length)] G Q := by
  have hbig := h.big
  have hal := h.alen
  induction suf generalizing pre G cs rs with
  | nil =>
    rw [W_loop_as c_wtoThreadS_l0.eq_1]
    simp only [List.append_nil] at hl
    subst hl
    simp [hal]
    obtain ⟨o, hn⟩ := hp.done hbig
    refine hQ _ G rs hx (fun b hb => ?_) o rfl
    rcases mem_fpO.1 hb with q | ⟨p, hp', q⟩
    · have := grB_sub q; omega
    · have := hn p hp' b q; omega
  | cons x suf ih =>
    rw [W_loop_as c_wtoThreadS_l0.eq_1]
    have hlen : l.length = pre.length + (suf.length + 1) := by rw [hl]; simp
    have hlt' : (pre.length : Int) < l.length := by omega
    have hq : l[pre.length]? = some x := by rw [hl]; simp
    obtain ⟨b, o, cap, vi, e1, ob, hbn, l1, iv⟩ := (h.ext hx).at hq
    subst e1
    simp (disch := omega) [hlt', l1]
    refine K_wtoThread' iv.sees fun v' b' H2 o2 hnn hb' x2 => ?_
    have f2 := OS.flat o2
    have bn2 : b' < H2.n := by
      obtain ⟨_, _, ⟨hv, _⟩ | ⟨_, _, _, _, q, _⟩⟩ := o2
      · exact absurd hv hnn
      · exact q
    obtain ⟨cs', st, hp'⟩ := OGp.snoc (N := nestT) (x := x) hp (by omega) x2 o2 hb' bn2
    have := ih (pre ++ [x]) (by rw [hl]; simp) cs' (rs ++ [(v', b')]) ((hx.trans x2).put hB) hp'
    simp only [nestT, Nat.mul_one] at st
    simp (disch := omega) [f2, flat_cells f2, flat_tup f2, st]
    simpa using this
theorem K_wtoThreadS {ok : Nat → Prop} {v : AV} {l : List Th} (h : ThV ok H v l) (k : ∀ v' B rs H', OG nestT H' v' l B rs → (∀ b ∈ fpO v' B rs, H.n ≤ b) → Ext H H' → K v' H') : CallF Cd f_wtoThreadS [v] H K w := by
  rw [CallF_eq e_wtoThreadS rfl]
  have hbig := h.big
  simp (disch := omega) [h.alen]
  have hbg : (l.length : Int) ≤ big := by unfold big; omega
  have := K_wtoThreadS_l (H0 := H) h (B := H.n) (Q := ?_) (Nat.le_refl _) ?_ l [] rfl (G := H.push (List.replicate l.length [.nils, .I 0]).flatten) (List.replicate l.length [.nils, .I 0]).flatten [] (Ext.push _ _) (OGp.nil (by simp) push_new (by simp [nestT]))
  · simpa [hbg] using this
  · intro e G' rs x hn ho he
    simp [he]
    exact k _ H.n rs G' ho hn x
end
end Go.Proofs.YtcibjklpaljadaaGreat.AM
namespace Go.Proofs.YtcibjklpaljadaaGreat.AM
set_option linter.unusedSimpArgs false
set_option linter.unusedVariables false
set_option maxRecDepth 100000
set_option maxHeartbeats 4000000
open Go
attribute [-simp] AM.elems
section
variable {H : AH} {K : AV → AH → Prop} {w : Fk K}
theorem T_weqQuadSS_l {o1 o2 : Nat → Prop} {H0 : AH} {va vb : AV} {l : List (List Qd)} {Q : Out → Env → AH → Prop} (h1 : CLV o1 H0 va l) (h2 : CLV o2 H0 vb l) (hQ : ∀ e H', Ext H0 H' → Q (.brk 0) e H') (m i : Nat) (hm : i + m = l.length) {G : AH} (hx : Ext H0 G) :
    W Cd (.loop c_weqQuadSS_l0) [(0, va), (1, vb), (5, .I i)] G Q := by
  have hbig : l.length ≤ 8589934592 := h1.big
  induction m generalizing i G with
  | zero =>
    rw [W_loop_as c_weqQuadSS_l0.eq_1]
    have : i = l.length := by omega
    subst this
    simp [h1.alen]
    exact hQ _ G hx
  | succ m ih =>
    rw [W_loop_as c_weqQuadSS_l0.eq_1]
    have hlt : i < l.length := by omega
    have hlt' : (i : Int) < l.length := by omega
    obtain ⟨e, he⟩ : ∃ e, l[i]? = some e := ⟨_, List.getElem?_eq_getElem hlt⟩
    obtain ⟨b, o, cap, vi, e1, ob, hb, l1, i1⟩ := (h1.ext hx).at he
    obtain ⟨b2, o2, cap2, vi2, e2, ob2, hb2, l2, i2⟩ := (h2.ext hx).at he
    have a1 := h1.alen
    subst e1 e2
    simp (disch := omega) [a1, hlt', l1, l2]
    refine T_weqQuadS i1 i2 fun H2 x2 => ?_
    have := ih (i + 1) (by omega) (hx.trans x2)
    simp (disch := omega) [x2]
    simpa using this
theorem T_weqQuadSS {o1 o2 : Nat → Prop} {va vb : AV} {l : List (List Qd)} (h1 : CLV o1 H va l) (h2 : CLV o2 H vb l) (k : ∀ H', Ext H H' → K (.b true) H') : CallF Cd f_weqQuadSS [va, vb] H K w := by
  rw [CallF_eq e_weqQuadSS rfl]
  simp [h1.alen, h2.alen]
  have := T_weqQuadSS_l h1 h2 (Q := ?_) ?_ l.length 0 (by omega) (Ext.refl _)
  · simpa using this
  · intro e H' x; simpa using k H' x
theorem T_weqThreadS_l {o1 o2 : Nat → Prop} {H0 : AH} {va vb : AV} {l : List Th} {Q : Out → Env → AH → Prop} (h1 : ThV o1 H0 va l) (h2 : ThV o2 H0 vb l) (hQ : ∀ e H', Ext H0 H' → Q (.brk 0) e H') (m i : Nat) (hm : i + m = l.length) {G : AH} (hx : Ext H0 G) :
    W Cd (.loop c_weqThreadS_l0) [(0, va), (1, vb), (5, .I i)] G Q := by
  have hbig : l.length ≤ 8589934592 := h1.big
  induction m generalizing i G with
  | zero =>
    rw [W_loop_as c_weqThreadS_l0.eq_1]
    have : i = l.length := by omega
    subst this
    simp [h1.alen]
    exact hQ _ G hx
  | succ m ih =>
    rw [W_loop_as c_weqThreadS_l0.eq_1]
    have hlt : i < l.length := by omega
    have hlt' : (i : Int) < l.length := by omega
    obtain ⟨e, he⟩ : ∃ e, l[i]? = some e := ⟨_, List.getElem?_eq_getElem hlt⟩
    obtain ⟨b, o, cap, vi, e1, ob, hb, l1, i1⟩ := (h1.ext hx).at he
    obtain ⟨b2, o2, cap2, vi2, e2, ob2, hb2, l2, i2⟩ := (h2.ext hx).at he
    have a1 := h1.alen
    subst e1 e2
    simp (disch := omega) [a1, hlt', l1, l2]
    refine T_weqThread i1.sees i2.sees fun H2 x2 => ?_
    have := ih (i + 1) (by omega) (hx.trans x2)
    simp (disch := omega) [x2]
    simpa using this
theorem T_weqThreadS {o1 o2 : Nat → Prop} {va vb : AV} {l : List Th} (h1 : ThV o1 H va l) (h2 : ThV o2 H vb l) (k : ∀ H', Ext H H' → K (.b true) H') : CallF Cd f_weqThreadS [va, vb] H K w := by
  rw [CallF_eq e_weqThreadS rfl]
  simp [h1.alen, h2.alen]
  have := T_weqThreadS_l h1 h2 (Q := ?_) ?_ l.length 0 (by omega) (Ext.refl _)
  · simpa using this
  · intro e H' x; simpa using k H' x
theorem cellsC : ∀ {l : List (List Qd)} {r : List (AV × Nat)}, r.length = l.length → cellsG nestC l r = r.map (·.1)
  | [], [], _ => rfl
  | x :: l, p :: r, h => by simp only [cellsG, nestC, List.map_cons]; rw [← cellsC (l := l) (r := r) (by simpa using h)]; rfl
  | [], _ :: _, h => by simp at h
  | _ :: _, [], h => by simp at h
def szC (l : List (List Qd)) : Nat := (l.map fun x => 5 * x.length).sum
theorem szC_cons {x : List Qd} {l : List (List Qd)} : szC (x :: l) = 5 * x.length + szC l := rfl
theorem szC_le {m : Nat} : ∀ {l : List (List Qd)}, (∀ x ∈ l, x.length ≤ m) → szC l ≤ l.length * (5 * m)
  | [], _ => by simp [szC]
  | x :: l, h => by
    have := szC_le (m := m) (l := l) (fun y hy => h y (List.mem_cons_of_mem _ hy))
    have := h x List.mem_cons_self
    rw [szC_cons, List.length_cons, Nat.add_mul, Nat.one_mul]; omega
def marksC : Int → List (List Qd) → List (List Qd)
  | _, [] => []
  | k, x :: l => marksQ k x :: marksC (k + 5 * x.length) l
theorem marksC_len : ∀ {l : List (List Qd)} {k : Int}, (marksC k l).length = l.length
  | [], _ => rfl
  | _ :: l, k => by simp [marksC, marksC_len (l := l)]
theorem K_wmarkQuadSS_l {v : AV} {B : Nat} {rs : List (AV × Nat)} {Q : Out → Env → AH → Prop} {H0 : AH} (suf : List (List Qd)) : ∀ (pre : List (List Qd)) {k : Int} (hk : 0 ≤ k ∧ k + szC suf ≤ 1125899906842624) {G : AH} (hG : OG nestC G v (pre ++ suf) B rs) (hO : Only (fpO v B rs) H0 G)
    (hQ : ∀ e G', OG nestC G' v (pre ++ marksC k suf) B rs → Only (fpO v B rs) H0 G' → get e 1 = some (.I (k + szC suf)) → Q (.brk 0) e G'),
    W Cd (.loop c_wmarkQuadSS_l0) [(0, v), (1, .I k), (5, .I pre.length)] G Q := by
  induction suf with
  | nil =>
    intro pre k hk G hG hO hQ
    rw [W_loop_as c_wmarkQuadSS_l0.eq_1]
    have hal := hG.2.1.alen
    simp only [List.append_nil] at hal hG
    simp [hal]
    exact hQ _ G (by simpa [marksC] using hG) hO (by simp [get, szC])
  | cons x suf ih =>
    intro pre k hk G hG hO hQ
    rw [W_loop_as c_wmarkQuadSS_l0.eq_1]
    have hal := hG.2.1.alen
    rw [szC_cons] at hk
    have hbig := hG.2.1.1
    have hlen : (pre ++ x :: suf).length = pre.length + (suf.length + 1) := by simp
    have hlt : (pre.length : Int) < ((pre ++ x :: suf).length : Nat) := by omega
    obtain ⟨p, c, ex, hp, hv, hcap, hBn, hbk, l1, i1, i2⟩ := hG.at (get_mid (a := pre) (b := suf) (x := x))
    obtain ⟨M, hM⟩ : ∃ M, M = (pre ++ x :: suf).length := ⟨_, rfl⟩
    rw [← hM] at hv hal hlt
    subst hv
    have ld : G.load B pre.length = some p.1 := by
      have := loadN_get l1 (i := 0) (by simp [nestC])
      simpa [nestC] using this
    simp (disch := omega) [hal, hlt, ld]
    refine K_wmarkQuadS i1 (by omega) fun G2 i3 o2 => ?_
    have n2 := o2.1
    have e1 : cellsG nestC (pre ++ x :: suf) rs = cellsG nestC (pre ++ marksQ k x :: suf) rs := by rw [cellsC hG.1, cellsC (by rw [hG.1]; simp)]
    have b2 := o2.bk hBn i2 hbk
    rw [e1] at b2
    have hs := hG.put (y := marksQ k x) hp (by rw [← hM]) hcap b2 (by omega) i3 ⟨by omega, fun z hz hm => o2.2 z hz (fun hq => hm (List.mem_cons_of_mem _ hq))⟩
    have hs' : OG nestC G2 (.sl B 0 M c) ((pre ++ [marksQ k x]) ++ suf) B rs := by simpa using hs
    have := ih (pre ++ [marksQ k x]) (k := k + 5 * x.length) ⟨by omega, by omega⟩ hs' ⟨Nat.le_trans hO.1 n2, fun z hz hm => by
      rw [o2.2 z (Nat.lt_of_lt_of_le hz hO.1) (fun hq => hm (mem_fpO.2 (.inr ⟨p, List.mem_of_getElem? hp, hq⟩))), hO.2 z hz hm]⟩ (fun e G' h1 h2 h3 => hQ e G' (by simpa [marksC] using h1) h2 (by rw [h3, szC_cons]; congr 2; omega))
    simp (disch := omega)
    simpa using this
theorem K_wmarkQuadSS {v : AV} {l : List (List Qd)} {B : Nat} {rs : List (AV × Nat)} {k : Int} (h : OG nestC H v l B rs) (hk : 0 ≤ k ∧ k + szC l ≤ 1125899906842624)
    (c : ∀ H', OG nestC H' v (marksC k l) B rs → Only (fpO v B rs) H H' → K (.I (k + szC l)) H') : CallF Cd f_wmarkQuadSS [v, .I k] H K w := by
  rw [CallF_eq e_wmarkQuadSS rfl]
  simp
  have := K_wmarkQuadSS_l (v := v) (B := B) (rs := rs) (Q := ?_) (H0 := H) l [] (k := k) hk (G := H) h Only.refl ?_
  · simpa using this
  · intro e G' g1 g2 g3
    simp [g3]
    exact c G' (by simpa using g1) g2
theorem K_wheldQuadS_l {v : AV} {b : Nat} {Q : Out → Env → AH → Prop} (suf : List Qd) : ∀ (pre : List Qd) {k : Int} (hk : 0 ≤ k ∧ k + 5 * suf.length ≤ 1125899906842624) (hG : OQ H v b (pre ++ marksQ k suf))
    (hQ : ∀ e, get e 1 = some (.I (k + 5 * suf.length)) → Q (.brk 0) e H),
    W Cd (.loop c_wheldQuadS_l0) [(0, v), (1, .I k), (5, .I pre.length)] H Q := by
  induction suf with
  | nil =>
    intro pre k hk hG hQ
    rw [W_loop_as c_wheldQuadS_l0.eq_1]
    have hal := hG.alen
    simp only [marksQ, List.append_nil] at hal
    simp [hal]
    exact hQ _ (by simp [get])
  | cons x suf ih =>
    intro pre k hk hG hQ
    rw [W_loop_as c_wheldQuadS_l0.eq_1]
    have hal := hG.alen
    simp only [marksQ] at hal hG
    have hbig := hG.1
    simp only [List.length_cons] at hk
    have hlen : (pre ++ (⟨k, k + 1, k + 2, k + 3, k + 4⟩ : Qd) :: marksQ (k + 5) suf).length = pre.length + (suf.length + 1) := by simp [marksQ_len]
    have hlt : (pre.length : Int) < ((pre ++ (⟨k, k + 1, k + 2, k + 3, k + 4⟩ : Qd) :: marksQ (k + 5) suf).length : Nat) := by omega
    have qv := OQ.qv (ok := fun _ => True) hG fun _ => trivial
    obtain ⟨B, o, cap, hv, _, hb, l1⟩ := qv.at (get_mid (a := pre) (b := marksQ (k + 5) suf) (x := (⟨k, k + 1, k + 2, k + 3, k + 4⟩ : Qd)))
    obtain ⟨M, hM⟩ : ∃ M, M = (pre ++ (⟨k, k + 1, k + 2, k + 3, k + 4⟩ : Qd) :: marksQ (k + 5) suf).length := ⟨_, rfl⟩
    rw [← hM] at hv hal hlt
    have d0 : H.load B (o + pre.length * 5) = some (.I k) := by simpa [qC] using loadN_get l1 (i := 0) (by omega)
    have d1 : H.load B (o + pre.length * 5 + 1) = some (.I (k + 1)) := by simpa [qC] using loadN_get l1 (i := 1) (by omega)
    have d2 : H.load B (o + pre.length * 5 + 2) = some (.I (k + 2)) := by simpa [qC] using loadN_get l1 (i := 2) (by omega)
    have d3 : H.load B (o + pre.length * 5 + 3) = some (.I (k + 3)) := by simpa [qC] using loadN_get l1 (i := 3) (by omega)
    have d4 : H.load B (o + pre.length * 5 + 4) = some (.I (k + 4)) := by simpa [qC] using loadN_get l1 (i := 4) (by omega)
    have hr := ih (pre ++ [⟨k, k + 1, k + 2, k + 3, k + 4⟩]) (k := k + 5) ⟨by omega, by omega⟩ (by simpa using hG) (fun e h3 => hQ e (by rw [h3]; simp only [List.length_cons]; congr 2; omega))
    subst hv
    rw [show k + 2 = k + 1 + 1 by omega] at d2
    rw [show k + 3 = k + 1 + 1 + 1 by omega] at d3
    rw [show k + 4 = k + 1 + 1 + 1 + 1 by omega] at d4
    simp (disch := omega) [hal, hlt, d0, d1, d2, d3, d4]
    rw [show k + 1 + 1 + 1 + 1 + 1 = k + 5 by omega]
    simpa using hr
theorem K_wheldQuadS {v : AV} {b : Nat} {l : List Qd} {k : Int} (h : OQ H v b (marksQ k l)) (hk : 0 ≤ k ∧ k + 5 * l.length ≤ 1125899906842624) (c : K (.I (k + 5 * l.length)) H) : CallF Cd f_wheldQuadS [v, .I k] H K w := by
  rw [CallF_eq e_wheldQuadS rfl]
  simp
  have := K_wheldQuadS_l (v := v) (b := b) (Q := ?_) l [] (k := k) hk (by simpa using h) ?_
  · simpa using this
  · intro e g3
    simp [g3]
    exact c
theorem K_wheldQuadSS_l {v : AV} {B : Nat} {rs : List (AV × Nat)} {Q : Out → Env → AH → Prop} (suf : List (List Qd)) : ∀ (pre : List (List Qd)) {k : Int} (hk : 0 ≤ k ∧ k + szC suf ≤ 1125899906842624) (hG : OG nestC H v (pre ++ marksC k suf) B rs)
    (hQ : ∀ e, get e 1 = some (.I (k + szC suf)) → Q (.brk 0) e H),
    W Cd (.loop c_wheldQuadSS_l0) [(0, v), (1, .I k), (5, .I pre.length)] H Q := by
  induction suf with
  | nil =>
    intro pre k hk hG hQ
    rw [W_loop_as c_wheldQuadSS_l0.eq_1]
    have hal := hG.2.1.alen
    simp only [marksC, List.append_nil] at hal hG
    simp [hal]
    exact hQ _ (by simp [get, szC])
  | cons x suf ih =>
    intro pre k hk hG hQ
    rw [W_loop_as c_wheldQuadSS_l0.eq_1]
    have hal := hG.2.1.alen
    rw [szC_cons] at hk
    simp only [marksC] at hal hG
    have hbig := hG.2.1.1
    have hlen : (pre ++ marksQ k x :: marksC (k + 5 * x.length) suf).length = pre.length + (suf.length + 1) := by simp [marksC_len]
    have hlt : (pre.length : Int) < ((pre ++ marksQ k x :: marksC (k + 5 * x.length) suf).length : Nat) := by omega
    obtain ⟨p, c, ex, hp, hv, hcap, hBn, hbk, l1, i1, i2⟩ := hG.at (get_mid (a := pre) (b := marksC (k + 5 * x.length) suf) (x := marksQ k x))
    obtain ⟨M, hM⟩ : ∃ M, M = (pre ++ marksQ k x :: marksC (k + 5 * x.length) suf).length := ⟨_, rfl⟩
    rw [← hM] at hv hal hlt
    have hr := ih (pre ++ [marksQ k x]) (k := k + 5 * x.length) ⟨by omega, by omega⟩ (by simpa using hG) (fun e h3 => hQ e (by rw [h3, szC_cons]; congr 2; omega))
    subst hv
    have ld : H.load B pre.length = some p.1 := by
      have := loadN_get l1 (i := 0) (by simp [nestC])
      simpa [nestC] using this
    have q1 : ¬ k + 5 * (x.length : Int) < 0 := by omega
    simp (disch := omega) [hal, hlt, ld]
    refine K_wheldQuadS i1 (by omega) ?_
    simp (disch := omega) [q1]
    simpa using hr
theorem K_wheldQuadSS {v : AV} {l : List (List Qd)} {B : Nat} {rs : List (AV × Nat)} {k : Int} (h : OG nestC H v (marksC k l) B rs) (hk : 0 ≤ k ∧ k + szC l ≤ 1125899906842624)
    (c : K (.I (k + szC l)) H) : CallF Cd f_wheldQuadSS [v, .I k] H K w := by
  rw [CallF_eq e_wheldQuadSS rfl]
  simp
  have := K_wheldQuadSS_l (v := v) (B := B) (rs := rs) (Q := ?_) l [] (k := k) hk (by simpa using h) ?_
  · simpa using this
  · intro e g3
    simp [g3]
    exact c
def szT (l : List Th) : Nat := (l.map fun x => x.regs.length + 1).sum
theorem szT_cons {x : Th} {l : List Th} : szT (x :: l) = x.regs.length + 1 + szT l := rfl
theorem szT_le {m : Nat} : ∀ {l : List Th}, (∀ x ∈ l, x.regs.length ≤ m) → szT l ≤ l.length * (m + 1)
  | [], _ => by simp [szT]
  | x :: l, h => by
    have := szT_le (m := m) (l := l) (fun y hy => h y (List.mem_cons_of_mem _ hy))
    have := h x List.mem_cons_self
    rw [szT_cons, List.length_cons, Nat.add_mul, Nat.one_mul]; omega
def marksT : Int → List Th → List Th
  | _, [] => []
  | k, x :: l => ⟨nums k x.regs.length, k + x.regs.length⟩ :: marksT (k + x.regs.length + 1) l
theorem marksT_len : ∀ {l : List Th} {k : Int}, (marksT k l).length = l.length
  | [], _ => rfl
  | _ :: l, k => by simp [marksT, marksT_len (l := l)]
theorem cellsT_pc : ∀ {pre suf : List Th} {r : List (AV × Nat)} {x : Th} {q : List Int} {z : Int} {ex : List AV}, r.length = (pre ++ x :: suf).length → splice (cellsG nestT (pre ++ x :: suf) r ++ ex) (pre.length * 2 + 1) [.I z] = cellsG nestT (pre ++ ⟨q, z⟩ :: suf) r ++ ex
  | [], suf, p :: r, x, q, z, ex, h => by simp [cellsG, nestT, splice]
  | y :: pre, suf, p :: r, x, q, z, ex, h => by
    have := cellsT_pc (pre := pre) (suf := suf) (r := r) (x := x) (q := q) (z := z) (ex := ex) (by simpa using h)
    simp only [cellsG, List.cons_append, List.append_assoc]
    rw [← this]
    have e2 : nestT.cl y p.1 = [p.1, .I y.pc] := rfl
    rw [e2]
    unfold splice
    rw [show (y :: pre).length * 2 + 1 = pre.length * 2 + 1 + 1 + 1 by simp; omega, show pre.length * 2 + 1 + 1 + 1 + [AV.I z].length = pre.length * 2 + 1 + [AV.I z].length + 1 + 1 by simp]
    simp [List.take_succ_cons]
  | [], _, [], _, _, _, _, h => by simp at h
  | _ :: _, _, [], _, _, _, _, h => by simp at h
theorem K_wmarkThreadS_l {v : AV} {B : Nat} {rs : List (AV × Nat)} {Q : Out → Env → AH → Prop} {H0 : AH} (suf : List Th) : ∀ (pre : List Th) {k : Int} (hk : 0 ≤ k ∧ k + szT suf ≤ 1125899906842624) {G : AH} (hG : OG nestT G v (pre ++ suf) B rs) (hO : Only (fpO v B rs) H0 G)
    (hQ : ∀ e G', OG nestT G' v (pre ++ marksT k suf) B rs → Only (fpO v B rs) H0 G' → get e 1 = some (.I (k + szT suf)) → Q (.brk 0) e G'),
    W Cd (.loop c_wmarkThreadS_l0) [(0, v), (1, .I k), (5, .I pre.length)] G Q := by
  induction suf with
  | nil =>
    intro pre k hk G hG hO hQ
    rw [W_loop_as c_wmarkThreadS_l0.eq_1]
    have hal := hG.2.1.alen
    simp only [List.append_nil] at hal hG
    simp [hal]
    exact hQ _ G (by simpa [marksT] using hG) hO (by simp [get, szT])
  | cons x suf ih =>
    intro pre k hk G hG hO hQ
    rw [W_loop_as c_wmarkThreadS_l0.eq_1]
    have hal := hG.2.1.alen
    rw [szT_cons] at hk
    have hbig := hG.2.1.1
    have hlen : (pre ++ x :: suf).length = pre.length + (suf.length + 1) := by simp
    have hlt : (pre.length : Int) < ((pre ++ x :: suf).length : Nat) := by omega
    obtain ⟨p, c, ex, hp, hv, hcap, hBn, hbk, l1, i1, i2⟩ := hG.at (get_mid (a := pre) (b := suf) (x := x))
    obtain ⟨M, hM⟩ : ∃ M, M = (pre ++ x :: suf).length := ⟨_, rfl⟩
    rw [← hM] at hv hal hlt
    subst hv
    have ld : G.load B (pre.length * 2) = some p.1 := by
      have := loadN_get l1 (i := 0) (by simp [nestT])
      simpa [nestT] using this
    simp (disch := omega) [hal, hlt, ld]
    refine K_wmarkI i1 (by omega) fun G2 i3 o2 => ?_
    have n2 := o2.1
    have b2 := o2.bk hBn i2 hbk
    have hcl := cellsG_len (N := nestT) hG.1
    have st := store_bk (o := pre.length * 2 + 1) (vs := [.I (k + x.regs.length)]) b2 (by rw [List.length_append, hcl, hlen]; simp [nestT]; omega)
    rw [cellsT_pc (q := nums k x.regs.length) hG.1] at st
    have on : Only [B] G2 (G2.put B (some ⟨cellsG nestT (pre ++ ⟨nums k x.regs.length, k + x.regs.length⟩ :: suf) rs ++ ex, true⟩)) := Only.refl.put (.inr (by simp))
    have o12 : Only (B :: grB p.1 p.2) G (G2.put B (some ⟨cellsG nestT (pre ++ ⟨nums k x.regs.length, k + x.regs.length⟩ :: suf) rs ++ ex, true⟩)) := ⟨by simp; omega, fun z hz hm => by
      simp at hm
      rw [put_bk, if_neg hm.1, o2.2 z hz hm.2]⟩
    have hs := hG.put (y := ⟨nums k x.regs.length, k + x.regs.length⟩) hp (by rw [← hM]) hcap put_same (by simp; omega) (i3.only on (fun z hz hm => by simp at hm; subst hm; exact i2 hz)) o12
    have hs' : OG nestT (G2.put B (some ⟨cellsG nestT (pre ++ ⟨nums k x.regs.length, k + x.regs.length⟩ :: suf) rs ++ ex, true⟩)) (.sl B 0 M c) ((pre ++ [⟨nums k x.regs.length, k + x.regs.length⟩]) ++ suf) B rs := by simpa using hs
    have := ih (pre ++ [⟨nums k x.regs.length, k + x.regs.length⟩]) (k := k + x.regs.length + 1) ⟨by omega, by omega⟩ hs' ⟨Nat.le_trans hO.1 o12.1, fun z hz hm => by
      rw [o12.2 z (Nat.lt_of_lt_of_le hz hO.1) (fun hq => hm (mem_fpO.2 (by
        rcases List.mem_cons.1 hq with rfl | hq
        · exact .inl (by simp [grB])
        · exact .inr ⟨p, List.mem_of_getElem? hp, hq⟩))), hO.2 z hz hm]⟩ (fun e G' h1 h2 h3 => hQ e G' (by simpa [marksT] using h1) h2 (by rw [h3, szT_cons]; congr 2; omega))
    simp (disch := omega) [hal, hlt, st]
    simpa using this
theorem K_wmarkThreadS {v : AV} {l : List Th} {B : Nat} {rs : List (AV × Nat)} {k : Int} (h : OG nestT H v l B rs) (hk : 0 ≤ k ∧ k + szT l ≤ 1125899906842624)
    (c : ∀ H', OG nestT H' v (marksT k l) B rs → Only (fpO v B rs) H H' → K (.I (k + szT l)) H') : CallF Cd f_wmarkThreadS [v, .I k] H K w := by
  rw [CallF_eq e_wmarkThreadS rfl]
  simp
  have := K_wmarkThreadS_l (v := v) (B := B) (rs := rs) (Q := ?_) (H0 := H) l [] (k := k) hk (G := H) h Only.refl ?_
  · simpa using this
  · intro e G' g1 g2 g3
    simp [g3]
    exact c G' (by simpa using g1) g2
theorem K_wheldThreadS_l {v : AV} {B : Nat} {rs : List (AV × Nat)} {Q : Out → Env → AH → Prop} (suf : List Th) : ∀ (pre : List Th) {k : Int} (hk : 0 ≤ k ∧ k + szT suf ≤ 1099511627776) (hG : OG nestT H v (pre ++ marksT k suf) B rs)
    (hQ : ∀ e, get e 1 = some (.I (k + szT suf)) → Q (.brk 0) e H),
    W Cd (.loop c_wheldThreadS_l0) [(0, v), (1, .I k), (5, .I pre.length)] H Q := by
  induction suf with
  | nil =>
    intro pre k hk hG hQ
    rw [W_loop_as c_wheldThreadS_l0.eq_1]
    have hal := hG.2.1.alen
    simp only [marksT, List.append_nil] at hal hG
    simp [hal]
    exact hQ _ (by simp [get, szT])
  | cons x suf ih =>
    intro pre k hk hG hQ
    rw [W_loop_as c_wheldThreadS_l0.eq_1]
    have hal := hG.2.1.alen
    rw [szT_cons] at hk
    simp only [marksT] at hal hG
    have hbig := hG.2.1.1
    have hlen : (pre ++ (⟨nums k x.regs.length, k + x.regs.length⟩ : Th) :: marksT (k + x.regs.length + 1) suf).length = pre.length + (suf.length + 1) := by simp [marksT_len]
    have hlt : (pre.length : Int) < ((pre ++ (⟨nums k x.regs.length, k + x.regs.length⟩ : Th) :: marksT (k + x.regs.length + 1) suf).length : Nat) := by omega
    obtain ⟨p, c, ex, hp, hv, hcap, hBn, hbk, l1, i1, i2⟩ := hG.at (get_mid (a := pre) (b := marksT (k + x.regs.length + 1) suf) (x := (⟨nums k x.regs.length, k + x.regs.length⟩ : Th)))
    obtain ⟨M, hM⟩ : ∃ M, M = (pre ++ (⟨nums k x.regs.length, k + x.regs.length⟩ : Th) :: marksT (k + x.regs.length + 1) suf).length := ⟨_, rfl⟩
    rw [← hM] at hv hal hlt
    have hr := ih (pre ++ [⟨nums k x.regs.length, k + x.regs.length⟩]) (k := k + x.regs.length + 1) ⟨by omega, by omega⟩ (by simpa using hG) (fun e h3 => hQ e (by rw [h3, szT_cons]; congr 2; omega))
    subst hv
    have l1' : H.loadN B (pre.length * 2) 2 = some [p.1, .I (k + x.regs.length)] := l1
    have ld0 : H.load B (pre.length * 2) = some p.1 := by simpa using loadN_get l1' (i := 0) (by omega)
    have ld1 : H.load B (pre.length * 2 + 1) = some (.I (k + x.regs.length)) := by simpa using loadN_get l1' (i := 1) (by omega)
    have q1 : ¬ k + (x.regs.length : Int) < 0 := by omega
    simp (disch := omega) [hal, hlt, ld0]
    refine K_wheldI (n := x.regs.length) i1 (by omega) ?_
    simp (disch := omega) [q1, hal, hlt, ld1]
    simpa using hr
theorem K_wheldThreadS {v : AV} {l : List Th} {B : Nat} {rs : List (AV × Nat)} {k : Int} (h : OG nestT H v (marksT k l) B rs) (hk : 0 ≤ k ∧ k + szT l ≤ 1099511627776)
    (c : K (.I (k + szT l)) H) : CallF Cd f_wheldThreadS [v, .I k] H K w := by
  rw [CallF_eq e_wheldThreadS rfl]
  simp
  have := K_wheldThreadS_l (v := v) (B := B) (rs := rs) (Q := ?_) l [] (k := k) hk (by simpa using h) ?_
  · simpa using this
  · intro e g3
    simp [g3]
    exact c
end
end Go.Proofs.YtcibjklpaljadaaGreat.AM
namespace Go.Proofs.YtcibjklpaljadaaGreat.AM
set_option linter.unusedSimpArgs false
set_option linter.unusedVariables false
set_option maxRecDepth 100000
set_option maxHeartbeats 4000000
open Go
attribute [-simp] AM.elems
structure KL where
  vc : AV
  vt : AV
  vb : AV
  vo : AV
  Bc : Nat
  rc : List (AV × Nat)
  Bt : Nat
  rt : List (AV × Nat)
  Bb : Nat
  rb : List (AV × Nat)
  Bo : Nat
def KL.c (L : KL) (w : Cw) : List AV := [L.vc, L.vt, L.vb, .I w.turn, .I w.idle, L.vo]
def KL.f1 (L : KL) : List Nat := fpO L.vc L.Bc L.rc
def KL.f2 (L : KL) : List Nat := fpO L.vt L.Bt L.rt
def KL.f3 (L : KL) : List Nat := fpO L.vb L.Bb L.rb
def KL.f4 (L : KL) : List Nat := grB L.vo L.Bo
def KL.fp (L : KL) : List Nat := L.f1 ++ (L.f2 ++ (L.f3 ++ L.f4))
structure OCw (H : AH) (L : KL) (w : Cw) : Prop where
  hc : OG nestC H L.vc w.codes L.Bc L.rc
  ht : OG nestT H L.vt w.threads L.Bt L.rt
  hb : OB H L.vb w.boxes L.Bb L.rb
  ho : OI H L.vo L.Bo w.out
  d1 : ∀ b ∈ L.f1, b ∉ L.f2 ∧ b ∉ L.f3 ∧ b ∉ L.f4
  d2 : ∀ b ∈ L.f2, b ∉ L.f3 ∧ b ∉ L.f4
  d3 : ∀ b ∈ L.f3, b ∉ L.f4
theorem KL.mem {L : KL} {b : Nat} : b ∈ L.fp ↔ b ∈ L.f1 ∨ b ∈ L.f2 ∨ b ∈ L.f3 ∨ b ∈ L.f4 := by simp [KL.fp]
theorem OCw.only {H H' L w bs} (h : OCw H L w) (k : Only bs H H') (hb : ∀ b ∈ L.fp, b ∉ bs) : OCw H' L w :=
  ⟨h.hc.only k (fun b q => hb b (KL.mem.2 (.inl q))), h.ht.only k (fun b q => hb b (KL.mem.2 (.inr (.inl q)))), h.hb.only k (fun b q => hb b (KL.mem.2 (.inr (.inr (.inl q))))), h.ho.only k (fun b q => hb b (KL.mem.2 (.inr (.inr (.inr q))))), h.d1, h.d2, h.d3⟩
theorem OCw.ext {H H' L w} (h : OCw H L w) (k : Ext H H') : OCw H' L w := h.only (bs := []) k.only (by simp)
theorem OCw.lt {H L w} (h : OCw H L w) {b : Nat} (hb : b ∈ L.fp) : b < H.n := by
  rcases KL.mem.1 hb with q | q | q | q
  · exact h.hc.mem q
  · exact h.ht.mem q
  · exact h.hb.mem q
  · have := h.ho.mem q; omega
theorem OG.clv {ok : Nat → Prop} {H v l B rs} (h : OG nestC H v l B rs) (ho : ∀ b ∈ fpO v B rs, ok b) : CLV ok H v l := h.lf (E := CLc ok H) ho fun x p s => ⟨p.1, rfl, s⟩
theorem OG.thv {ok : Nat → Prop} {H v l B rs} (h : OG nestT H v l B rs) (ho : ∀ b ∈ fpO v B rs, ok b) : ThV ok H v l := h.lf (E := ThC ok H) ho fun x p s => ⟨p.1, rfl, s⟩
theorem OCw.cwc {ok : Nat → Prop} {H L w} (h : OCw H L w) (ho : ∀ b ∈ L.fp, ok b) : CwC ok H (L.c w) w :=
  ⟨L.vc, L.vt, L.vb, L.vo, rfl, h.hc.clv fun b q => ho b (KL.mem.2 (.inl q)), h.ht.thv fun b q => ho b (KL.mem.2 (.inr (.inl q))), h.hb.bv fun b q => ho b (KL.mem.2 (.inr (.inr (.inl q)))), OI.iv h.ho fun hv => ho _ (KL.mem.2 (.inr (.inr (.inr (grB_in hv)))))⟩
def szK (w : Cw) : Nat := szC w.codes + szT w.threads + szB w.boxes + w.out.length
def marksK (k : Int) (w : Cw) : Cw := ⟨marksC k w.codes, marksT (k + szC w.codes) w.threads, marksB (k + szC w.codes + szT w.threads) w.boxes, w.turn, w.idle, nums (k + szC w.codes + szT w.threads + szB w.boxes) w.out.length⟩
def ArgK (H : AH) (c : List AV) (w : Cw) : Prop := ∃ vc vt vb vo, c = [vc, vt, vb, .I w.turn, .I w.idle, vo] ∧ ArgC H vc w.codes ∧ ArgT H vt w.threads ∧ ArgB H vb w.boxes ∧ ArgI H vo w.out
theorem ArgK.ext {H H' c w} (h : ArgK H c w) (k : Ext H H') : ArgK H' c w := by
  obtain ⟨a, b, d, e, h0, h1, h2, h3, h4⟩ := h
  exact ⟨a, b, d, e, h0, h1.ext k, h2.ext k, h3.ext k, h4.ext k⟩
structure SmK (w : Cw) : Prop where
  c1 : w.codes.length ≤ 1048576
  c2 : ∀ x ∈ w.codes, x.length ≤ 1048576
  t1 : w.threads.length ≤ 1048576
  t2 : ∀ x ∈ w.threads, x.regs.length ≤ 1048576
  b1 : w.boxes.length ≤ 1048576
  b2 : ∀ x ∈ w.boxes, x.items.length ≤ 1048576
  o1 : w.out.length ≤ 1048576
theorem SmK.sz {w : Cw} (h : SmK w) : szK w ≤ 100000000000000 := by
  have h1 := szC_le h.c2
  have h2 := szT_le h.t2
  have h3 := szB_le h.b2
  have e1 := Nat.mul_le_mul_right (5 * 1048576) h.c1
  have e2 := Nat.mul_le_mul_right (1048576 + 1) h.t1
  have e3 := Nat.mul_le_mul_right (1 + 1048576) h.b1
  have := h.o1
  unfold szK
  omega
theorem ArgK.cwc {H c w} (h : ArgK H c w) (s : SmK w) : CwC (fun _ => True) H c w := by
  obtain ⟨a, b, d, e, h0, h1, h2, h3, h4⟩ := h
  have := s.c1
  have := s.t1
  have := s.b1
  have := s.o1
  exact ⟨a, b, d, e, h0, h1.v (by omega) (fun x hx => by have := s.c2 x hx; omega), h2.v (by omega) (fun x hx => by have := s.t2 x hx; omega), h3.bv (by omega) (fun x hx => by have := s.b2 x hx; omega), h4.2.2.2 (by omega)⟩
section
variable {H : AH} {K : AV → AH → Prop} {w : Fk K}
theorem K_wszCrew {c : List AV} {m : Cw} (h : ArgK H c m) (k0 : ∀ H', Ext H H' → K (.I (-1)) H') (k1 : ∀ H' x, 0 ≤ x → SmK m → Ext H H' → K (.I x) H') : CallF Cd f_wszCrew [.agg c, .I 1048576] H K w := by
  obtain ⟨vc, vt, vb, vo, rfl, hc, ht, hb, ho⟩ := h
  rw [CallF_eq e_wszCrew rfl]
  have x0 := Ext.push H [vc, vt, vb, .I m.turn, .I m.idle, vo]
  have q0 : (H.push [vc, vt, vb, .I m.turn, .I m.idle, vo]).bk H.n = some ⟨[vc, vt, vb, .I m.turn, .I m.idle, vo], true⟩ := push_new
  simp [load_bk q0]
  refine K_wszQuadSS (hc.ext x0) (by omega) (fun H1 x1 => ?_) fun H1 r1 a1 a2 a3 a4 x1 => ?_
  · simp
    exact k0 H1 (x0.trans x1)
  have y1 := x0.trans x1
  have q1 := (x1.2 H.n (by simp)).trans q0
  have c1 : ¬ r1 < 0 := by omega
  simp [c1, load_bk q1]
  refine K_wszThreadS (ht.ext y1) (by omega) (fun H2 x2 => ?_) fun H2 r2 b1 b2 b3 b4 x2 => ?_
  · simp
    exact k0 H2 (y1.trans x2)
  have y2 := y1.trans x2
  have q2 := (x2.2 H.n (by have := x1.1; simp at this; omega)).trans q1
  have c2 : ¬ r2 < 0 := by omega
  simp [c2, load_bk q2]
  refine K_wszBoxS (hb.ext y2) (by omega) (fun H3 x3 => ?_) fun H3 r3 d1 d2 d3 d4 x3 => ?_
  · simp
    exact k0 H3 (y2.trans x3)
  have y3 := y2.trans x3
  have q3 := (x3.2 H.n (by have := x1.1; have := x2.1; simp at *; omega)).trans q2
  have c3 : ¬ r3 < 0 := by omega
  simp (disch := omega) [c3, load_bk q3, K_wszIntS' ho.1 ho.2.1]
  by_cases c4 : r3 - (m.out.length : Int) < 0
  · simp [c4]
    exact k0 H3 y3
  · simp [c4]
    exact k1 H3 _ (by omega) ⟨a3, a4, b3, b4, d3, d4, by omega⟩ y3
theorem K_wtoCrew {ok : Nat → Prop} {c : List AV} {m : Cw} (h : CwC ok H c m) (k : ∀ L H', OCw H' L m → (∀ b ∈ L.fp, H.n ≤ b) → Ext H H' → K (.agg (L.c m)) H') : CallF Cd f_wtoCrew [.agg c] H K w := by
  obtain ⟨vc, vt, vb, vo, rfl, hc, ht, hb, ho⟩ := h
  rw [CallF_eq e_wtoCrew rfl]
  have x0 : Ext H (((H.push [vc, vt, vb, .I m.turn, .I m.idle, vo]).push [.nils, .nils, .nils, .I 0, .I 0, .nils]).push [.nils, .nils, .nils, .I 0, .I 0, .nils]) := ((Ext.push _ _).trans (Ext.push _ _)).trans (Ext.push _ _)
  have q0 : (((H.push [vc, vt, vb, .I m.turn, .I m.idle, vo]).push [.nils, .nils, .nils, .I 0, .I 0, .nils]).push [.nils, .nils, .nils, .I 0, .I 0, .nils]).bk H.n = some ⟨[vc, vt, vb, .I m.turn, .I m.idle, vo], true⟩ := push_old (by simp; omega) (push_old (by simp) push_new)
  have q1 : (((H.push [vc, vt, vb, .I m.turn, .I m.idle, vo]).push [.nils, .nils, .nils, .I 0, .I 0, .nils]).push [.nils, .nils, .nils, .I 0, .I 0, .nils]).bk (H.n + 1) = some ⟨[.nils, .nils, .nils, .I 0, .I 0, .nils], true⟩ := push_old (by simp) (push_new (H := H.push [vc, vt, vb, .I m.turn, .I m.idle, vo]))
  have q2 : (((H.push [vc, vt, vb, .I m.turn, .I m.idle, vo]).push [.nils, .nils, .nils, .I 0, .I 0, .nils]).push [.nils, .nils, .nils, .I 0, .I 0, .nils]).bk (H.n + 2) = some ⟨[.nils, .nils, .nils, .I 0, .I 0, .nils], true⟩ := push_new (H := (H.push [vc, vt, vb, .I m.turn, .I m.idle, vo]).push [.nils, .nils, .nils, .I 0, .I 0, .nils])
  simp [load_bk q0]
  obtain ⟨G, hG⟩ : ∃ G, G = (((H.push [vc, vt, vb, .I m.turn, .I m.idle, vo]).push [.nils, .nils, .nils, .I 0, .I 0, .nils]).push [.nils, .nils, .nils, .I 0, .I 0, .nils]) := ⟨_, rfl⟩
  rw [← hG] at x0 q0 q1 q2 ⊢
  have nG : G.n = H.n + 3 := by rw [hG]; simp
  clear hG
  have put : ∀ (A : AH) (cs : List AV) (i : Nat) (v : AV), Ext G A → A.bk (H.n + 2) = some ⟨cs, true⟩ → i < cs.length → A.bk H.n = some ⟨[vc, vt, vb, .I m.turn, .I m.idle, vo], true⟩ → True := fun _ _ _ _ _ _ _ _ => trivial
  clear put
  refine K_wtoQuadSS (hc.ext x0) fun v1 B1 r1 G1 o1 f1 x1 => ?_
  have n1 := x1.1
  have p0 := (x1.2 H.n (by omega)).trans q0
  have p1 := (x1.2 (H.n + 1) (by omega)).trans q1
  have p2 := (x1.2 (H.n + 2) (by omega)).trans q2
  have st1 := store_cell (v := v1) p2 (o := 0) (by simp)
  simp only [List.set_cons_zero, List.set_cons_succ] at st1
  have on1 : ∀ (A : AH) (o : Option Blk), Only [H.n + 2] A (A.put (H.n + 2) o) := fun A o => Only.refl.put (.inr (by simp))
  have xt : ∀ {A : AH} {o : Option Blk}, Ext H A → Ext H (A.put (H.n + 2) o) := fun x => x.put (by omega)
  have hne : H.n ≠ H.n + 2 := by omega
  have hne1 : H.n + 1 ≠ H.n + 2 := by omega
  have fl1 := o1.2.1.flat
  simp [flat_cells fl1, flat_tup fl1, st1]
  obtain ⟨A1, hA1⟩ : ∃ A1, A1 = G1.put (H.n + 2) (some ⟨[v1, .nils, .nils, .I 0, .I 0, .nils], true⟩) := ⟨_, rfl⟩
  have e1 := on1 G1 (some ⟨[v1, .nils, .nils, .I 0, .I 0, .nils], true⟩)
  have y1 : Ext H A1 := by rw [hA1]; exact xt (x0.trans x1)
  rw [← hA1] at e1 ⊢
  have m1 : A1.n = G1.n := by rw [hA1]; simp
  have p0 : A1.bk H.n = some ⟨[vc, vt, vb, .I m.turn, .I m.idle, vo], true⟩ := by rw [hA1, put_bk, if_neg hne]; exact p0
  have p1 : A1.bk (H.n + 1) = some ⟨[.nils, .nils, .nils, .I 0, .I 0, .nils], true⟩ := by rw [hA1, put_bk, if_neg hne1]; exact p1
  have p2 : A1.bk (H.n + 2) = some ⟨[v1, .nils, .nils, .I 0, .I 0, .nils], true⟩ := by rw [hA1]; exact put_same
  have o1 := o1.only e1 (fun b hb hm => by simp at hm; have := f1 b hb; omega)
  simp [load_bk p0]
  refine K_wtoThreadS (ht.ext y1) fun v2 B2 r2 G2 o2 f2 x2 => ?_
  have n2 := x2.1
  have g1 : ∀ b ∈ fpO v1 B1 r1, b < A1.n := fun b hb => o1.mem hb
  have o1 := o1.ext x2
  have p0 := (x2.2 H.n (by omega)).trans p0
  have p1 := (x2.2 (H.n + 1) (by omega)).trans p1
  have p2 := (x2.2 (H.n + 2) (by omega)).trans p2
  have st2 := store_cell (v := v2) p2 (o := 1) (by simp)
  simp only [List.set_cons_zero, List.set_cons_succ] at st2
  have fl2 := o2.2.1.flat
  simp [flat_cells fl2, flat_tup fl2, st2]
  obtain ⟨A2, hA2⟩ : ∃ A2, A2 = G2.put (H.n + 2) (some ⟨[v1, v2, .nils, .I 0, .I 0, .nils], true⟩) := ⟨_, rfl⟩
  have e2 := on1 G2 (some ⟨[v1, v2, .nils, .I 0, .I 0, .nils], true⟩)
  have y2 : Ext H A2 := by rw [hA2]; exact xt (y1.trans x2)
  rw [← hA2] at e2 ⊢
  have m2 : A2.n = G2.n := by rw [hA2]; simp
  have p0 : A2.bk H.n = some ⟨[vc, vt, vb, .I m.turn, .I m.idle, vo], true⟩ := by rw [hA2, put_bk, if_neg hne]; exact p0
  have p1 : A2.bk (H.n + 1) = some ⟨[.nils, .nils, .nils, .I 0, .I 0, .nils], true⟩ := by rw [hA2, put_bk, if_neg hne1]; exact p1
  have p2 : A2.bk (H.n + 2) = some ⟨[v1, v2, .nils, .I 0, .I 0, .nils], true⟩ := by rw [hA2]; exact put_same
  have o1 := o1.only e2 (fun b hb hm => by simp at hm; have := f1 b hb; omega)
  have o2 := o2.only e2 (fun b hb hm => by simp at hm; have := f2 b hb; omega)
  simp [load_bk p0]
  refine K_wtoBoxS (hb.ext y2) fun v3 B3 r3 G3 o3 f3 x3 => ?_
  have n3 := x3.1
  have g2 : ∀ b ∈ fpO v2 B2 r2, b < A2.n := fun b hb => o2.mem hb
  have o1 := o1.ext x3
  have o2 := o2.ext x3
  have p0 := (x3.2 H.n (by omega)).trans p0
  have p1 := (x3.2 (H.n + 1) (by omega)).trans p1
  have p2 := (x3.2 (H.n + 2) (by omega)).trans p2
  have st3 := store_cell (v := v3) p2 (o := 2) (by simp)
  have st4 := store_cell (v := .I m.turn) (put_same (H := G3) (b := H.n + 2) (o := some ⟨[v1, v2, .nils, .I 0, .I 0, .nils].set 2 v3, true⟩)) (o := 3) (by simp)
  have st5 := store_cell (v := .I m.idle) (put_same (H := G3) (b := H.n + 2) (o := some ⟨([v1, v2, .nils, .I 0, .I 0, .nils].set 2 v3).set 3 (.I m.turn), true⟩)) (o := 4) (by simp)
  simp only [List.set_cons_zero, List.set_cons_succ, put_put] at st3 st4 st5
  have w3 : ∀ (cs : List AV), (G3.put (H.n + 2) (some ⟨cs, true⟩)).bk H.n = some ⟨[vc, vt, vb, .I m.turn, .I m.idle, vo], true⟩ := fun cs => by rw [put_bk, if_neg hne]; exact p0
  have fl3 := o3.2.1.flat
  simp [flat_cells fl3, flat_tup fl3, st3, st4, st5, load_bk (w3 _)]
  obtain ⟨A3, hA3⟩ : ∃ A3, A3 = G3.put (H.n + 2) (some ⟨[v1, v2, v3, .I m.turn, .I m.idle, .nils], true⟩) := ⟨_, rfl⟩
  have e3 := on1 G3 (some ⟨[v1, v2, v3, .I m.turn, .I m.idle, .nils], true⟩)
  have y3 : Ext H A3 := by rw [hA3]; exact xt (y2.trans x3)
  rw [← hA3] at e3 ⊢
  have m3 : A3.n = G3.n := by rw [hA3]; simp
  have p1 : A3.bk (H.n + 1) = some ⟨[.nils, .nils, .nils, .I 0, .I 0, .nils], true⟩ := by rw [hA3, put_bk, if_neg hne1]; exact p1
  have p2 : A3.bk (H.n + 2) = some ⟨[v1, v2, v3, .I m.turn, .I m.idle, .nils], true⟩ := by rw [hA3]; exact put_same
  have o1 := o1.only e3 (fun b hb hm => by simp at hm; have := f1 b hb; omega)
  have o2 := o2.only e3 (fun b hb hm => by simp at hm; have := f2 b hb; omega)
  have o3 := o3.only e3 (fun b hb hm => by simp at hm; have := f3 b hb; omega)
  refine K_wtoI ((ho.ext y3).sees) fun v4 B4 G4 o4 f4 x4 => ?_
  have n4 := x4.1
  have g3 : ∀ b ∈ fpO v3 B3 r3, b < A3.n := fun b hb => o3.mem hb
  have o1 := o1.ext x4
  have o2 := o2.ext x4
  have o3 := o3.ext x4
  have p1 := (x4.2 (H.n + 1) (by omega)).trans p1
  have p2 := (x4.2 (H.n + 2) (by omega)).trans p2
  have st6 := store_cell (v := v4) p2 (o := 5) (by simp)
  simp only [List.set_cons_zero, List.set_cons_succ] at st6
  have p2' : (G4.put (H.n + 2) (some ⟨[v1, v2, v3, .I m.turn, .I m.idle, v4], true⟩)).bk (H.n + 2) = some ⟨[v1, v2, v3, .I m.turn, .I m.idle, v4], true⟩ := put_same
  have p1' : (G4.put (H.n + 2) (some ⟨[v1, v2, v3, .I m.turn, .I m.idle, v4], true⟩)).bk (H.n + 1) = some ⟨[.nils, .nils, .nils, .I 0, .I 0, .nils], true⟩ := by rw [put_bk, if_neg hne1]; exact p1
  have st7 := store_bk (o := 0) (vs := [v1, v2, v3, .I m.turn, .I m.idle, v4]) p1' (by simp)
  have l7 : (G4.put (H.n + 2) (some ⟨[v1, v2, v3, .I m.turn, .I m.idle, v4], true⟩)).loadN (H.n + 2) 0 6 = some [v1, v2, v3, .I m.turn, .I m.idle, v4] := by rw [loadN_bk p2']; rfl
  have fl4 := OS.flat o4
  simp [flat_cells fl4, flat_tup fl4, st6, l7, st7, loadN_bk put_same]
  have oo : Only [H.n + 2, H.n + 1] G4 ((G4.put (H.n + 2) (some ⟨[v1, v2, v3, .I m.turn, .I m.idle, v4], true⟩)).put (H.n + 1) (some ⟨[v1, v2, v3, .I m.turn, .I m.idle, v4], true⟩)) := (Only.refl.put (.inr (by simp))).put (.inr (by simp))
  have g4 : ∀ b ∈ grB v4 B4, b = B4 := fun b hb => grB_sub hb
  have k4 : ∀ b ∈ grB v4 B4, A3.n ≤ b := fun b hb => by have := g4 b hb; omega
  refine k ⟨v1, v2, v3, v4, B1, r1, B2, r2, B3, r3, B4⟩ _ ⟨o1.only oo (fun b hb hm => by simp at hm; have := f1 b hb; omega), o2.only oo (fun b hb hm => by simp at hm; have := f2 b hb; omega), o3.only oo (fun b hb hm => by simp at hm; have := f3 b hb; omega), OS.only o4 oo (fun b hb hm => by simp at hm; have := k4 b hb; omega), fun b hb => ⟨fun hm => ?_, fun hm => ?_, fun hm => ?_⟩, fun b hb => ⟨fun hm => ?_, fun hm => ?_⟩, fun b hb hm => ?_⟩ (fun b hb => ?_) (((y3.trans x4).put (by omega)).put (by omega))
  · have := g1 b hb; have := f2 b hm; omega
  · have := g1 b hb; have := f3 b hm; omega
  · have := g1 b hb; have := k4 b hm; omega
  · have := g2 b hb; have := f3 b hm; omega
  · have := g2 b hb; have := k4 b hm; omega
  · have := g3 b hb; have := k4 b hm; omega
  · rcases KL.mem.1 hb with q | q | q | q
    · have := f1 b q; omega
    · have := f2 b q; omega
    · have := f3 b q; omega
    · have := k4 b q; omega
theorem T_weqCrew {o1 o2 : Nat → Prop} {c1 c2 : List AV} {m : Cw} (h1 : CwC o1 H c1 m) (h2 : CwC o2 H c2 m) (k : ∀ H', Ext H H' → K (.b true) H') : CallF Cd f_weqCrew [.agg c1, .agg c2] H K w := by
  obtain ⟨ac, at_, ab, ao, rfl, h11, h12, h13, h14⟩ := h1
  obtain ⟨bc, bt, bb, bo, rfl, h21, h22, h23, h24⟩ := h2
  rw [CallF_eq e_weqCrew rfl]
  have x0 := (Ext.push H [ac, at_, ab, .I m.turn, .I m.idle, ao]).trans (Ext.push _ [bc, bt, bb, .I m.turn, .I m.idle, bo])
  have q0 : ((H.push [ac, at_, ab, .I m.turn, .I m.idle, ao]).push [bc, bt, bb, .I m.turn, .I m.idle, bo]).bk H.n = some ⟨[ac, at_, ab, .I m.turn, .I m.idle, ao], true⟩ := push_old (by simp) push_new
  have q1 : ((H.push [ac, at_, ab, .I m.turn, .I m.idle, ao]).push [bc, bt, bb, .I m.turn, .I m.idle, bo]).bk (H.n + 1) = some ⟨[bc, bt, bb, .I m.turn, .I m.idle, bo], true⟩ := push_new (H := H.push [ac, at_, ab, .I m.turn, .I m.idle, ao])
  simp [load_bk q0, load_bk q1]
  refine T_weqQuadSS (h11.ext x0) (h21.ext x0) fun H1 x1 => ?_
  have y1 := x0.trans x1
  have n1 := x1.1
  simp only [push_n] at n1
  have q0 := (x1.2 H.n (by simp; omega)).trans q0
  have q1 := (x1.2 (H.n + 1) (by simp)).trans q1
  simp [load_bk q0, load_bk q1]
  refine T_weqThreadS (h12.ext y1) (h22.ext y1) fun H2 x2 => ?_
  have y2 := y1.trans x2
  have n2 := x2.1
  have q0 := (x2.2 H.n (by omega)).trans q0
  have q1 := (x2.2 (H.n + 1) (by omega)).trans q1
  simp [load_bk q0, load_bk q1]
  refine T_weqBoxS (h13.ext y2) (h23.ext y2) fun H3 x3 => ?_
  have y3 := y2.trans x3
  have n3 := x3.1
  have q0 := (x3.2 H.n (by omega)).trans q0
  have q1 := (x3.2 (H.n + 1) (by omega)).trans q1
  simp [load_bk q0, load_bk q1, K_weqIntS (h14.ext y3).sees (h24.ext y3).sees]
  exact k H3 y3
theorem K_wmarkCrew {L : KL} {m : Cw} {k : Int} (h : OCw H L m) (hk : 0 ≤ k ∧ k + szK m ≤ 1125899906842624) (c : ∀ H', OCw H' L (marksK k m) → Only L.fp H H' → K (.I (k + szK m)) H') : CallF Cd f_wmarkCrew [.agg (L.c m), .I k] H K w := by
  rw [CallF_eq e_wmarkCrew rfl]
  have x0 := Ext.push H (L.c m)
  have q0 : (H.push (L.c m)).bk H.n = some ⟨L.c m, true⟩ := push_new
  have hz : szK m = szC m.codes + szT m.threads + szB m.boxes + m.out.length := rfl
  have h' := h.ext x0
  have lt : ∀ {b : Nat}, b ∈ L.fp → b < H.n := fun hb => h.lt hb
  have ec : L.c m = [L.vc, L.vt, L.vb, .I m.turn, .I m.idle, L.vo] := rfl
  rw [ec] at q0 x0 h' ⊢
  simp [load_bk q0]
  refine K_wmarkQuadSS h'.hc (by omega) fun H1 u1 w1 => ?_
  have n1 := w1.1
  simp only [push_n] at n1
  have q1 := w1.bk (by simp) (fun hm => by have := lt (KL.mem.2 (.inl hm)); omega) q0
  have b2 := h'.ht.only w1 (fun b hb hm => (h.d1 b hm).1 hb)
  have b3 := h'.hb.only w1 (fun b hb hm => (h.d1 b hm).2.1 hb)
  have b4 := h'.ho.only w1 (fun b hb hm => (h.d1 b hm).2.2 hb)
  simp [load_bk q1]
  refine K_wmarkThreadS b2 (by omega) fun H2 u2 w2 => ?_
  have n2 := w2.1
  have q2 := w2.bk (by omega) (fun hm => by have := lt (KL.mem.2 (.inr (.inl hm))); omega) q1
  have u1 := u1.only w2 (fun b hb hm => (h.d1 b hb).1 hm)
  have b3 := b3.only w2 (fun b hb hm => (h.d2 b hm).1 hb)
  have b4 := b4.only w2 (fun b hb hm => (h.d2 b hm).2 hb)
  simp [load_bk q2]
  refine K_wmarkBoxS b3 (by omega) fun H3 u3 w3 => ?_
  have n3 := w3.1
  have q3 := w3.bk (by omega) (fun hm => by have := lt (KL.mem.2 (.inr (.inr (.inl hm)))); omega) q2
  have u1 := u1.only w3 (fun b hb hm => (h.d1 b hb).2.1 hm)
  have u2 := u2.only w3 (fun b hb hm => (h.d2 b hb).1 hm)
  have b4 := b4.only w3 (fun b hb hm => h.d3 b hm hb)
  simp [load_bk q3]
  refine K_wmarkI b4 (by omega) fun H4 u4 w4 => ?_
  have u1 := u1.only w4 (fun b hb hm => (h.d1 b hb).2.2 hm)
  have u2 := u2.only w4 (fun b hb hm => (h.d2 b hb).2 hm)
  have u3 := u3.only w4 (fun b hb hm => h.d3 b hb hm)
  have := c H4 ⟨u1, u2, u3, u4, h.d1, h.d2, h.d3⟩ ⟨by have := w4.1; omega, fun b hb hm => by
    have hm1 : ∀ {x}, x = b → True := fun _ => trivial
    rw [w4.2 b (by omega) (fun q => hm (KL.mem.2 (.inr (.inr (.inr q))))), w3.2 b (by omega) (fun q => hm (KL.mem.2 (.inr (.inr (.inl q))))), w2.2 b (by omega) (fun q => hm (KL.mem.2 (.inr (.inl q)))), w1.2 b (by simp; omega) (fun q => hm (KL.mem.2 (.inl q))), push_old hb rfl]⟩
  have e : k + (szC m.codes : Int) + szT m.threads + szB m.boxes + m.out.length = k + (szK m : Int) := by omega
  rw [← e] at this
  simp
  exact this
theorem K_wheldCrew {L : KL} {m : Cw} {k : Int} (h : OCw H L (marksK k m)) (hk : 0 ≤ k ∧ k + szK m ≤ 1099511627776) (c : ∀ H', Ext H H' → K (.I (k + szK m)) H') : CallF Cd f_wheldCrew [.agg (L.c m), .I k] H K w := by
  rw [CallF_eq e_wheldCrew rfl]
  have x0 := Ext.push H (L.c m)
  have q0 : (H.push (L.c m)).bk H.n = some ⟨L.c m, true⟩ := push_new
  have hz : szK m = szC m.codes + szT m.threads + szB m.boxes + m.out.length := rfl
  have h' := h.ext x0
  have ec : L.c m = [L.vc, L.vt, L.vb, .I m.turn, .I m.idle, L.vo] := rfl
  have cc := c _ x0
  rw [ec] at q0 x0 h' cc ⊢
  have e : k + (szC m.codes : Int) + szT m.threads + szB m.boxes + m.out.length = k + (szK m : Int) := by omega
  rw [← e] at cc
  have c1 : ¬ k + (szC m.codes : Int) < 0 := by omega
  have c2 : ¬ k + (szC m.codes : Int) + szT m.threads < 0 := by omega
  have c3 : ¬ k + (szC m.codes : Int) + szT m.threads + szB m.boxes < 0 := by omega
  have c4 : ¬ k + (szC m.codes : Int) + szT m.threads + szB m.boxes + m.out.length < 0 := by omega
  simp [load_bk q0]
  refine K_wheldQuadSS h'.hc (by omega) ?_
  simp [c1, load_bk q0]
  refine K_wheldThreadS h'.ht (by omega) ?_
  simp [c2, load_bk q0]
  refine K_wheldBoxS h'.hb (by omega) ?_
  simp [c3, load_bk q0]
  refine K_wheldI (n := m.out.length) h'.ho (by omega) ?_
  simp [c4]
  exact cc
end
end Go.Proofs.YtcibjklpaljadaaGreat.AM
namespace Go.Proofs.YtcibjklpaljadaaGreat.AM
set_option linter.unusedSimpArgs false
set_option linter.unusedVariables false
set_option maxRecDepth 100000
set_option maxHeartbeats 4000000
open Go
attribute [-simp] AM.elems
section
variable {ok : Nat → Prop} {H : AH} {K : AV → AH → Prop} {wf : Fk K} {v : AV} {l : List Qd}
theorem K_sl24Code_l {many : Nat} {Q : Out → Env → AH → Prop} (h2 : ∀ e H, Q .ret e H = bindO (get e 4) fun v => K v H) (m i : Nat) (hm : i + m = l.length) (h : QV ok H v l)
    (hbad : (l.drop i).all (boxQ many) = false → ∀ H', Ext H H' → K (.b false) H')
    (hQ : (l.drop i).all (boxQ many) = true → ∀ e H', Ext H H' → Q (.brk 0) e H') :
    W Cd (.loop c_sl24Code_l0) [(0, v), (1, .I many), (5, .I i)] H Q := by
  have hbig := h.big
  induction m generalizing i H with
  | zero =>
    rw [W_loop_as c_sl24Code_l0.eq_1]
    have : i = l.length := by omega
    subst this
    simp [h.alen]
    exact hQ (by simp) _ H (Ext.refl _)
  | succ m ih =>
    rw [W_loop_as c_sl24Code_l0.eq_1]
    have hlt : i < l.length := by omega
    have hlt' : (i : Int) < l.length := by omega
    obtain ⟨q, hq⟩ : ∃ q, l[i]? = some q := ⟨_, List.getElem?_eq_getElem hlt⟩
    obtain ⟨b, o, cap, e1, ob, hbn, l1⟩ := h.at hq
    have h0 := h
    have hal := h.alen
    subst e1
    simp (disch := omega) [hal, hlt', l1]
    refine K_sl23Quad fun H2 x2 => ?_
    rw [all_dropB hq] at hbad hQ
    cases hv : boxQ many q with
    | false =>
      simp [h2]
      exact hbad (by rw [hv]; rfl) _ x2
    | true =>
      rw [hv] at hbad hQ
      simp (disch := omega)
      have := ih (i + 1) (by omega) (H := H2) (h0.ext x2) (fun hb H' x => hbad (by simpa using hb) H' (x2.trans x)) (fun hb e H' x => hQ (by simpa using hb) e H' (x2.trans x))
      simpa using this
theorem K_sl24Code {many : Nat} (h : QV ok H v l) (k : ∀ H', Ext H H' → K (.b (l.all (boxQ many))) H') : CallF Cd f_sl24Code [v, .I many] H K wf := by
  rw [CallF_eq e_sl24Code rfl]
  simp
  have := K_sl24Code_l (K := K) (many := many) (Q := ?_) ?_ l.length 0 (by omega) h (fun hb H' x => by
    have := k H' x
    rw [List.drop_zero] at hb
    rw [hb] at this
    exact this) ?_
  · simpa using this
  · intro e G; simp
  · intro hb e G x
    rw [List.drop_zero] at hb
    simp
    have := k G x
    rw [hb] at this
    exact this
theorem K_sCrewValid_l {w : Cw} {vc vt vb x3 x4 x5 : AV} {P : Nat} {Q : Out → Env → AH → Prop} (h2 : ∀ e H, Q .ret e H = bindO (get e 2) fun v => K v H) (hvb : alen vb = some w.boxes.length) (hmb : w.boxes.length ≤ 8589934592) (hlen : w.threads.length = w.codes.length)
    (m i : Nat) (hm : i + m = w.codes.length) (hP : P < H.n) (gP : H.bk P = some ⟨[vc, vt, vb, x3, x4, x5], true⟩) (hc : CLV ok H vc w.codes) (ht : ThV ok H vt w.threads)
    (hbad : ((w.codes.zip w.threads).drop i).all (vaTh w.boxes.length) = false → ∀ H', Ext H H' → K (.b false) H')
    (hQ : ((w.codes.zip w.threads).drop i).all (vaTh w.boxes.length) = true → ∀ e H', Ext H H' → get e 1 = some (.ptr P 0) → Q (.brk 0) e H') :
    W Cd (.loop c_sCrewValid_l0) [(1, .ptr P 0), (3, .I w.codes.length), (4, .I i)] H Q := by
  have hbig := hc.big
  induction m generalizing i H with
  | zero =>
    rw [W_loop_as c_sCrewValid_l0.eq_1]
    have : i = w.codes.length := by omega
    subst this
    simp
    exact hQ (by rw [List.drop_eq_nil_of_le (by simp; omega)]; rfl) _ H (Ext.refl _) rfl
  | succ m ih =>
    rw [W_loop_as c_sCrewValid_l0.eq_1]
    have hlt : i < w.codes.length := by omega
    have hlt' : (i : Int) < w.codes.length := by omega
    have hlt2 : (i : Int) < w.threads.length := by omega
    obtain ⟨l, hl⟩ : ∃ l, w.codes[i]? = some l := ⟨_, List.getElem?_eq_getElem hlt⟩
    obtain ⟨t, htt⟩ : ∃ t, w.threads[i]? = some t := ⟨_, List.getElem?_eq_getElem (by omega)⟩
    obtain ⟨b, o, cap, vl, e1, ob, hbn, l1, q1⟩ := hc.at hl
    obtain ⟨b', o', cap', vr, e2, ob', hbn', l2, i2⟩ := ht.at htt
    have hc0 := hc
    have ht0 := ht
    subst e1
    subst e2
    simp (disch := omega) [hlt', hlt2, l1, load_bk gP, l2]
    refine K_sThreadValid (t := t) i2.sees q1 fun H2 x2 => ?_
    have gP2 := (x2.2 P hP).trans gP
    have hP2 : P < H2.n := by have := x2.1; omega
    have hd : ∀ {X : Bool}, (codeV l && thFit t l.length && l.all (boxQ w.boxes.length)) = X → ((w.codes.zip w.threads).drop i).all (vaTh w.boxes.length) = (X && ((w.codes.zip w.threads).drop (i + 1)).all (vaTh w.boxes.length)) := fun e => by
      rw [all_dropB (zip_get hl htt), ← e]; rfl
    cases hv : codeV l && thFit t l.length with
    | false =>
      simp [x2, h2]
      exact hbad (by rw [hd (X := false) (by rw [hv]; rfl)]; rfl) H2 x2
    | true =>
      have ql := q1.ext x2
      have l1' : H2.load b (o + i) = some vl := by rw [load_ext x2 hbn]; exact l1
      simp (disch := omega) [x2, load_bk gP2, hlt', l1', hvb]
      refine K_sl24Code ql fun H3 x3 => ?_
      have x23 := x2.trans x3
      cases hv2 : l.all (boxQ w.boxes.length) with
      | false =>
        simp [x3, h2]
        exact hbad (by rw [hd (X := false) (by rw [hv, hv2]; rfl)]; rfl) H3 x23
      | true =>
        have e := hd (X := true) (by rw [hv, hv2]; rfl)
        rw [e] at hbad hQ
        simp (disch := omega) [x3]
        have := ih (i + 1) (by omega) (H := H3) (by have := x23.1; omega) ((x23.2 P hP).trans gP) (hc0.ext x23) (ht0.ext x23) (fun hb H' x => hbad (by simpa using hb) H' (x23.trans x)) (fun hb e H' x he => hQ (by simpa using hb) e H' (x23.trans x) he)
        simpa using this
theorem K_sCrewValid {c : List AV} {w : Cw} (h : CwC ok H c w) (k : ∀ H', Ext H H' → K (.b (vaCw w)) H') : CallF Cd f_sCrewValid [.agg c] H K wf := by
  obtain ⟨vc, vt, vb, vo, rfl, h0, h1, h2, h3⟩ := h
  rw [CallF_eq e_sCrewValid rfl]
  have x0 := Ext.push H [vc, vt, vb, .I w.turn, .I w.idle, vo]
  have q0 : (H.push [vc, vt, vb, .I w.turn, .I w.idle, vo]).bk H.n = some ⟨[vc, vt, vb, .I w.turn, .I w.idle, vo], true⟩ := push_new
  have hbig := h0.big
  have hbig1 := h1.big
  have bad : (∀ hh : vaCw w = true, False) → ∀ G, Ext H G → K (.b false) G := fun hh G x => by
    have e : vaCw w = false := by rw [Bool.eq_false_iff]; exact fun q => hh q
    have := k G x
    rw [e] at this
    exact this
  by_cases c1 : 1 ≤ w.threads.length ∧ w.threads.length ≤ 3
  case neg =>
    have c1' : ¬ ((1 : Int) ≤ w.threads.length ∧ (w.threads.length : Int) ≤ 3) := by omega
    simp [load_bk q0, h1.alen, K_sl6In, c1']
    exact bad (fun hh => by obtain ⟨a1, a2, a3, _⟩ := vaCw_iff.1 hh; omega) _ x0
  have c1' : (1 : Int) ≤ w.threads.length ∧ (w.threads.length : Int) ≤ 3 := by omega
  by_cases c2 : w.codes.length = w.threads.length
  case neg =>
    have c2' : ¬ (w.codes.length : Int) = w.threads.length := by omega
    simp [load_bk q0, h1.alen, h0.alen, K_sl6In, c1'.1, c1'.2, c2']
    exact bad (fun hh => by obtain ⟨a1, a2, a3, _⟩ := vaCw_iff.1 hh; omega) _ x0
  have c2' : (w.codes.length : Int) = w.threads.length := by omega
  simp [load_bk q0, h1.alen, h0.alen, K_sl6In, c1'.1, c1'.2, c2']
  refine K_sl15Boxes (h2.ext x0) fun H1 x1 => ?_
  have y1 := x0.trans x1
  have q1 := (x1.2 _ (by simp)).trans q0
  have n1 : H.n < H1.n := by have := x1.1; simp at this; omega
  cases hb : vaBs w.boxes with
  | false =>
    simp
    exact bad (fun hh => by obtain ⟨a1, a2, a3, a4, _⟩ := vaCw_iff.1 hh; rw [hb] at a4; cases a4) _ y1
  | true =>
  by_cases c3 : 0 ≤ w.turn ∧ w.turn ≤ (w.threads.length : Int) - 1
  case neg =>
    simp (disch := omega) [load_bk q1, c3, K_sl6In]
    exact bad (fun hh => by obtain ⟨a1, a2, a3, _⟩ := vaCw_iff.1 hh; omega) _ y1
  by_cases c4 : 0 ≤ w.idle ∧ w.idle ≤ w.threads.length
  case neg =>
    simp (disch := omega) [load_bk q1, c3.1, c3.2, c4, K_sl6In]
    exact bad (fun hh => by obtain ⟨a1, a2, a3, _⟩ := vaCw_iff.1 hh; omega) _ y1
  simp (disch := omega) [load_bk q1, c3.1, c3.2, c4.1, c4.2, K_sl6In]
  have hb3 := vaBs_items hb
  have key : vaCw w = (((w.codes.zip w.threads).drop 0).all (vaTh w.boxes.length) && w.out.all isW) := by
    unfold vaCw
    rw [hb, decide_eq_true (show 1 ≤ w.codes.length ∧ w.codes.length ≤ 3 ∧ 0 ≤ w.turn ∧ w.turn < w.codes.length ∧ 0 ≤ w.idle ∧ w.idle ≤ w.codes.length by omega), decide_eq_true (show w.threads.length = w.codes.length by omega), List.drop_zero]
    simp [Bool.and_comm]
  rw [← c2']
  have := K_sCrewValid_l (K := K) (w := w) (P := H.n) (ok := ok) (Q := ?_) ?_ (h2.ext y1).alen (by omega) c2.symm w.codes.length 0 (by omega) n1 q1 (h0.ext y1) (h1.ext y1) (fun hf H' x => by
    have := k H' (y1.trans x)
    rw [key, hf] at this
    exact this) ?_
  · simpa using this
  · intro e G; simp
  · intro ht e G x he
    have y2 := y1.trans x
    have q2 := (x.2 _ n1).trans q1
    have := k G y2
    rw [key, ht, Bool.true_and] at this
    simp [he, load_bk q2, (h3.ext y2).sees.1, K_sl4Words (h3.ext y2).sees]
    exact this
end
end Go.Proofs.YtcibjklpaljadaaGreat.AM
namespace Go.Proofs.YtcibjklpaljadaaGreat.AM
set_option linter.unusedSimpArgs false
set_option linter.unusedVariables false
set_option maxRecDepth 100000
set_option maxHeartbeats 4000000
open Go
attribute [-simp] AM.elems
theorem cpQ {H : AH} {l : List Qd} (hl : l.length ≤ 100000000) : ∃ v' H' B, aapp (H.push []) 5 (.sl H.n 0 0 (.ex 0)) l.length (qCs l) = some (v', H') ∧ GrS H.n H' v' l.length 5 (qCs l) B ∧ Ext H H' := by
  have hg : GrS H.n (H.push []) (.sl H.n 0 0 (.ex 0)) 0 5 [] H.n := ⟨by omega, by simp, .inr ⟨Nat.le_refl _, Nat.lt_succ_self _, .inl ⟨rfl, push_new⟩⟩⟩
  obtain ⟨v', H', B, a1, a2, a3, a4⟩ := hg.app (by simp) (k := l.length) (new := qCs l) qCs_len (by omega)
  rw [Nat.zero_add, List.nil_append] at a2
  exact ⟨v', H', B, a1, a2, ⟨by have := a4.1; simp at this; omega, fun b hb => (a4.2 b (by simp; omega) (by simp [grB]; omega)).trans (push_old hb rfl)⟩⟩
section
variable {ok : Nat → Prop} {H : AH} {K : AV → AH → Prop} {wf : Fk K}
theorem K_sl24Codes_l {l : List (List Qd)} (hll : l.length ≤ 1000) (hit : ∀ x ∈ l, x.length ≤ 1000000) {base : Nat} {v : AV}
    {Q : Out → Env → AH → Prop} (m i : Nat) (him : i + m = l.length) {G : AH} {g : AV} {cs : List AV} {B : Nat} (hb : base ≤ G.n) (hv : CLV (fun b => b < base) G v l) (hg : GrS base G g i 1 cs B)
    (he : LF 1 (CLc (fun b => base ≤ b ∧ b ≠ B) G) (l.take i) cs)
    (hQ : ∀ e G' g' cs' B', GrS base G' g' l.length 1 cs' B' → LF 1 (CLc (fun b => base ≤ b ∧ b ≠ B') G') l cs' → (∀ b, b < base → G'.bk b = G.bk b) → G.n ≤ G'.n → get e 3 = some g' → Q (.brk 0) e G') :
    W Cd (.loop c_sl24Codes_l0) [(0, v), (3, g), (4, .I i)] G Q := by
  induction m generalizing i G g cs B with
  | zero =>
    rw [W_loop_as c_sl24Codes_l0.eq_1]
    have hi : i = l.length := by omega
    subst hi
    simp [hv.alen]
    rw [List.take_length] at he
    exact hQ _ G g cs B hg he (fun _ _ => rfl) (Nat.le_refl _) rfl
  | succ m ihm =>
    rw [W_loop_as c_sl24Codes_l0.eq_1]
    have hi : i < l.length := by omega
    obtain ⟨s, hs⟩ : ∃ s, l[i]? = some s := ⟨_, List.getElem?_eq_getElem hi⟩
    have hmem := List.mem_of_getElem? hs
    obtain ⟨b, o, cap, vc, e1, ob, hbn, l1, qv⟩ := hv.at hs
    have hal := hv.alen
    have hv0 := hv
    generalize hL : l.length = L at *
    subst e1
    have hlt : (i : Int) < L := by omega
    obtain ⟨vi', H1, B1, a0, g1, x1⟩ := cpQ (H := G) (l := s) (by have := hit s hmem; omega)
    have el := (qv.ext (Ext.push G [])).elems
    have al := qv.alen
    have f1 := g1.flat
    have x7 := Ext.push H1 [vi']
    have l1' : (G.push []).load b (o + i) = some vc := by rw [load_ext (Ext.push G []) hbn]; exact l1
    obtain ⟨g', G', B', a1, a2, a3, a4, a5, a6⟩ := LF.snoc (E := CLc) (fun h => h.mono) hs hg he hb (x1.trans x7) rfl
      (show CLc (fun b => G.n ≤ b) (H1.push [vi']) [vi'] s from ⟨vi', rfl, g1.qv.ext x7⟩) (by omega)
    have n1 := x1.1
    simp only [push_n] at n1 a5
    have el1 : AM.elems (H1.push [vi']) 1 (.sl H1.n 0 1 (.ex 1)) = some [vi'] := by
      show AH.loadN _ _ _ _ = _
      rw [loadN_bk push_new]; rfl
    simp (disch := omega) [hal, hlt, l1', el, al, a0, flat_cells f1, flat_tup f1, el1, a1]
    have := ihm (i + 1) (by omega) (G := G') (by omega) (hv0.mono (by omega) (fun b hb' _ => a4 b hb') (fun _ h _ => h)) a2 a3 (fun e G2 g2 cs2 B2 u1 u2 u3 u4 u5 => hQ e G2 g2 cs2 B2 u1 u2 (fun b hb' => (u3 b hb').trans (a4 b hb')) (by omega) u5)
    simpa using this
theorem K_sl24Codes {v : AV} {l : List (List Qd)} (h : CLV ok H v l) (hl : l.length ≤ 1000) (hit : ∀ x ∈ l, x.length ≤ 1000000) (k : ∀ v' H', CLV (fun b => H.n ≤ b) H' v' l → Ext H H' → v'.flat = true → K v' H') : CallF Cd f_sl24Codes [v] H K wf := by
  rw [CallF_eq e_sl24Codes rfl]
  have hbig := h.big
  simp
  have := K_sl24Codes_l hl hit (Q := ?_) l.length 0 (by omega) (base := H.n) (G := H.push []) (g := .sl H.n 0 0 (.ex 0)) (cs := []) (B := H.n) (v := v) (by simp)
    (h.mono (by simp) (fun b _ hb => push_old hb rfl) (fun b _ hb => hb)) (GrS.new (Nat.le_refl _) (by omega) rfl) rfl ?_
  · simpa using this
  · intro e G g cs B u1 u2 u3 u4 u5
    simp [u5]
    simp only [push_n] at u4
    exact k g G ⟨cs, u1.slc, u2.imp fun c a h => h.mono (Nat.le_refl _) (fun _ _ _ => rfl) (fun b hb _ => hb.1)⟩ ⟨by omega, fun b hb => (u3 b hb).trans (push_old hb rfl)⟩ u1.flat
structure CX (base : Nat) (G : AH) (P : Nat) (w : Cw) (vc vt vb vo : AV) (T O : Nat) (cs : List AV) : Prop where
  g : G.bk P = some ⟨[vc, vt, vb, .I w.turn, .I w.idle, vo], true⟩
  p : base ≤ P ∧ P < G.n
  c : CLV (fun b => base ≤ b ∧ b ≠ P ∧ b ≠ T ∧ b ≠ O) G vc w.codes
  t : GrS base G vt w.threads.length 2 cs T
  l : LF 2 (ThC (fun b => base ≤ b ∧ b ≠ P ∧ b ≠ T ∧ b ≠ O) G) w.threads cs
  b : BV (fun b => base ≤ b ∧ b ≠ P ∧ b ≠ T ∧ b ≠ O) G vb w.boxes
  o : GrS base G vo w.out.length 1 (Ints w.out) O
  d : T ≠ P ∧ O ≠ P ∧ O ≠ T
  n : T < G.n ∧ O < G.n
  ob : base ≤ O
theorem K_sl24Copy_l {l : List Th} (hll : l.length ≤ 1000) (hit : ∀ x ∈ l, x.regs.length ≤ 1000000) {base lo TB : Nat} {vt vc vb vo y0 y2 y3 y4 y5 z3 z4 : AV} {Pc P2 P3 : Nat} (hP : Pc < lo ∧ P3 < lo ∧ Pc ≠ P3) (hTB : TB ≠ Pc ∧ TB ≠ P3)
    {Q : Out → Env → AH → Prop} (m i : Nat) (him : i + m = l.length) {G : AH} {g : AV} {cs : List AV} {B : Nat} (hb : base ≤ G.n) (hlo : lo ≤ G.n) (hB : B = TB ∨ lo ≤ B) (qc : G.bk Pc = some ⟨[y0, vt, y2, y3, y4, y5], true⟩) (q3 : G.bk P3 = some ⟨[vc, g, vb, z3, z4, vo], true⟩)
    (hv : ThV (fun b => b < lo ∧ b ≠ P3 ∧ b ≠ TB) G vt l) (hg : GrS base G g i 2 cs B)
    (he : LF 2 (ThC (fun b => lo ≤ b ∧ b ≠ B) G) (l.take i) cs) {G0 : AH} (hG0 : ∀ b, b < lo → b ≠ P3 → b ≠ TB → G.bk b = G0.bk b)
    (hQ : ∀ e G' g' cs' B', GrS base G' g' l.length 2 cs' B' → LF 2 (ThC (fun b => lo ≤ b ∧ b ≠ B') G') l cs' → (∀ b, b < lo → b ≠ P3 → b ≠ TB → G'.bk b = G0.bk b) → lo ≤ G'.n → (B' = TB ∨ lo ≤ B') → G'.bk P3 = some ⟨[vc, g', vb, z3, z4, vo], true⟩ → get e 2 = some (.ptr P2 0) → get e 3 = some (.ptr P3 0) → Q (.brk 0) e G') :
    W Cd (.loop c_sl24Copy_l0) [(1, .ptr Pc 0), (2, .ptr P2 0), (3, .ptr P3 0), (4, .I i)] G Q := by
  induction m generalizing i G g cs B with
  | zero =>
    rw [W_loop_as c_sl24Copy_l0.eq_1]
    have hi : i = l.length := by omega
    subst hi
    simp [load_bk qc, hv.alen]
    rw [List.take_length] at he
    exact hQ _ G g cs B hg he hG0 hlo hB q3 rfl rfl
  | succ m ihm =>
    rw [W_loop_as c_sl24Copy_l0.eq_1]
    have hi : i < l.length := by omega
    obtain ⟨s, hs⟩ : ∃ s, l[i]? = some s := ⟨_, List.getElem?_eq_getElem hi⟩
    have hmem := List.mem_of_getElem? hs
    obtain ⟨b, o, cap, vr, e1, ob, hbn, l1, iv⟩ := hv.at hs
    have hal := hv.alen
    have hv0 := hv
    generalize hL : l.length = L at *
    subst e1
    have hlt : (i : Int) < L := by omega
    have l2 : G.load b (o + i * 2 + 1) = some (.I s.pc) := by simpa using loadN_get l1 (i := 1) (by omega)
    simp (disch := omega) [load_bk qc, load_bk q3, hal, hlt, l1, l2]
    refine K_sl23Go iv (by have := hit s hmem; omega) fun vi' H1 i1 x1 f1 => ?_
    have x7 := Ext.push H1 [vi', .I s.pc]
    obtain ⟨g', G', B', a1, a2, a3, a4, a5, a6⟩ := LF.snoc2 (E := ThC) (fun h => h.mono) hs hg he hb hlo (x1.trans x7) rfl
      (show ThC (fun b => G.n ≤ b) (H1.push [vi', .I s.pc]) [vi', .I s.pc] s from ⟨vi', rfl, i1.ext x7⟩) (by omega)
    have n1 := x1.1
    have n4 := a4.1
    simp only [push_n] at n4 a5
    have gB : ∀ b ∈ grB g B, b = B := fun b hb => grB_sub hb
    have keep : ∀ b, b < lo → b ≠ TB → G'.bk b = G.bk b := fun b hbl hbt => by
      rw [a4.2 b (by simp; omega) (fun hm => by have := gB b hm; omega), x7.2 b (by omega), x1.2 b (by omega)]
    have el1 : AM.elems (H1.push [vi', .I s.pc]) 2 (.sl H1.n 0 1 (.ex 1)) = some [vi', .I s.pc] := by
      show AH.loadN _ _ _ _ = _
      rw [loadN_bk push_new]; rfl
    have q3' : G'.bk P3 = some ⟨[vc, g, vb, z3, z4, vo], true⟩ := (keep P3 hP.2.1 (Ne.symm hTB.2)).trans q3
    have st := store_cell (v := g') q3' (o := 1) (by simp)
    simp only [List.set_cons_zero, List.set_cons_succ] at st
    simp (disch := omega) [x1, flat_cells f1, flat_tup f1, el1, a1, flat_cells a6, flat_tup a6, st]
    have k3 : ∀ b, b ≠ P3 → (G'.put P3 (some ⟨[vc, g', vb, z3, z4, vo], true⟩)).bk b = G'.bk b := fun b hb => by rw [put_bk, if_neg hb]
    have on : Only [P3] G' (G'.put P3 (some ⟨[vc, g', vb, z3, z4, vo], true⟩)) := Only.refl.put (.inr (by simp))
    have hB' : B' = TB ∨ lo ≤ B' := by rcases a5 with ⟨z, _⟩ | z <;> omega
    have := ihm (i + 1) (by omega) (G := G'.put P3 (some ⟨[vc, g', vb, z3, z4, vo], true⟩)) (g := g') (by simp; omega) (by simp; omega) hB' (by rw [k3 _ hP.2.2, keep _ hP.1 (Ne.symm hTB.1)]; exact qc) put_same
      (hv0.mono (by simp; omega) (fun b hb' _ => by rw [k3 b hb'.2.1]; exact keep b hb'.1 hb'.2.2) (fun _ h _ => h)) (a2.only on (fun b hb => by simp at hb; exact .inr (by omega)))
      (a3.imp fun c a h => h.mono (by simp) (fun b hb' _ => k3 b (by omega)) (fun _ h _ => h)) (fun b hb hne hnt => by rw [k3 b hne, keep b hb hnt]; exact hG0 b hb hne hnt)
    simpa using this
end
end Go.Proofs.YtcibjklpaljadaaGreat.AM
namespace Go.Proofs.YtcibjklpaljadaaGreat.AM
set_option linter.unusedSimpArgs false
set_option linter.unusedVariables false
set_option maxRecDepth 100000
set_option maxHeartbeats 4000000
open Go
attribute [-simp] AM.elems
section
variable {ok : Nat → Prop} {H : AH} {K : AV → AH → Prop} {wf : Fk K}
theorem K_sl24Copy {c : List AV} {w : Cw} (h : CwC ok H c w) (hv : vaCw w = true) (hol : w.out.length ≤ 50000000)
    (k : ∀ vc vt vb vo T O cs H', CLV (fun b => H.n ≤ b ∧ b ≠ T ∧ b ≠ O) H' vc w.codes → GrS H.n H' vt w.threads.length 2 cs T → LF 2 (ThC (fun b => H.n ≤ b ∧ b ≠ T ∧ b ≠ O) H') w.threads cs → BV (fun b => H.n ≤ b ∧ b ≠ T ∧ b ≠ O) H' vb w.boxes → GrS H.n H' vo w.out.length 1 (Ints w.out) O → O ≠ T → (T < H'.n ∧ O < H'.n) ∧ H.n ≤ O → Ext H H' → K (.agg [vc, vt, vb, .I w.turn, .I w.idle, vo]) H') : CallF Cd f_sl24Copy [.agg c] H K wf := by
  obtain ⟨v1, v2, v3, v4, v5⟩ := vaCw_iff.1 hv
  obtain ⟨b3, bva, bit⟩ := vaBs_items v4
  have hcl : ∀ l ∈ w.codes, l.length ≤ 1000000 := fun l hl => by
    obtain ⟨i, hi⟩ := List.mem_iff_getElem?.1 hl
    obtain ⟨t, ht⟩ : ∃ t, w.threads[i]? = some t := ⟨_, List.getElem?_eq_getElem (by have := (List.getElem?_eq_some_iff.1 hi).1; omega)⟩
    have := (codeV_facts (vaTh_iff.1 (v5 i l t hi ht)).1).2.1
    omega
  have h12 : ∀ t ∈ w.threads, t.regs.length ≤ 1000000 := fun t ht => by
    obtain ⟨i, hi⟩ := List.mem_iff_getElem?.1 ht
    obtain ⟨l, hl⟩ : ∃ l, w.codes[i]? = some l := ⟨_, List.getElem?_eq_getElem (by have := (List.getElem?_eq_some_iff.1 hi).1; omega)⟩
    have := (thFit_iff.1 (vaTh_iff.1 (v5 i l t hl hi)).2.1).1
    omega
  obtain ⟨ac, at_, ab, ao, rfl, hc, ht, hb, ho⟩ := h
  rw [CallF_eq e_sl24Copy rfl]
  have x0 : Ext H ((H.push [ac, at_, ab, .I w.turn, .I w.idle, ao]).push zK) := (Ext.push _ _).trans (Ext.push _ _)
  have q0 : ((H.push [ac, at_, ab, .I w.turn, .I w.idle, ao]).push zK).bk H.n = some ⟨[ac, at_, ab, .I w.turn, .I w.idle, ao], true⟩ := push_old (by simp) push_new
  have q1 : ((H.push [ac, at_, ab, .I w.turn, .I w.idle, ao]).push zK).bk (H.n + 1) = some ⟨zK, true⟩ := push_new (H := H.push [ac, at_, ab, .I w.turn, .I w.idle, ao])
  simp [load_bk q0]
  refine K_sl24Codes (hc.ext x0) (by omega) hcl fun vc G1 cl x1 f1 => ?_
  have y1 := x0.trans x1
  have n1 := x1.1
  simp only [push_n] at n1 cl
  have p0 := (x1.2 H.n (by simp; omega)).trans q0
  have p1 := (x1.2 (H.n + 1) (by simp)).trans q1
  have xe := Ext.push G1 ([] : List AV)
  have p0' : (G1.push []).bk H.n = _ := push_old (by omega) p0
  simp [x1, load_bk p0']
  refine K_sl15BoxesCopy w.boxes bit (hb.ext (y1.trans xe)) (by omega) fun vb G2 bcs BB g2 lf2 x2 => ?_
  have n2 := x2.1
  simp only [push_n] at n2
  have y2 := (y1.trans xe).trans x2
  have bv := GrS.bv' g2 lf2
  have fb := g2.flat
  have r0 := (x2.2 H.n (by simp; omega)).trans p0'
  have r1 := (x2.2 (H.n + 1) (by simp; omega)).trans (push_old (by omega) p1)
  have rE := (x2.2 G1.n (by simp)).trans push_new
  have xf := Ext.push G2 ([] : List AV)
  have r0' : (G2.push []).bk H.n = _ := push_old (by omega) r0
  obtain ⟨vo, G3, O, a1, x3, g3, f3, hO⟩ := app_newG (l := w.out) (H := G2.push []) (push_new (cs := [])) (Nat.lt_succ_self _) (base := G2.n) (Nat.le_refl _) (by omega)
  have n3 := x3.1
  simp only [push_n] at n3 a1 hO
  have el := (ho.ext (y2.trans xf)).elems
  have al : alen ao = some w.out.length := SlC.alen ho
  have y3 := (y2.trans xf).trans x3
  have st3 : (G3.push zK).store G3.n 0 [vc, .sl G1.n 0 0 (.ex 0), vb, .I w.turn, .I w.idle, vo] = some (G3.push [vc, .sl G1.n 0 0 (.ex 0), vb, .I w.turn, .I w.idle, vo]) := by rw [store_bk push_new (by simp), push_put]; rfl
  have x2' := x2
  simp [x2, load_bk r0', load_bk r0, el, al, a1, x3, flat_cells f1, flat_tup f1, flat_cells fb, flat_tup fb, flat_cells f3, flat_tup f3, st3]
  obtain ⟨G, hG⟩ : ∃ G, G = G3.push [vc, .sl G1.n 0 0 (.ex 0), vb, .I w.turn, .I w.idle, vo] := ⟨_, rfl⟩
  have x4 : Ext G3 G := by rw [hG]; exact Ext.push _ _
  have qP : G.bk G3.n = some ⟨[vc, .sl G1.n 0 0 (.ex 0), vb, .I w.turn, .I w.idle, vo], true⟩ := by rw [hG]; exact push_new
  have nG : G.n = G3.n + 1 := by rw [hG]; simp
  rw [← hG]
  clear hG
  have x34 := (xf.trans x3).trans x4
  have xG := (xe.trans x2).trans x34
  have qE : G.bk G1.n = some ⟨[], true⟩ := (x34.2 _ (by omega)).trans rE
  have qc := (x34.2 H.n (by omega)).trans r0
  have qR := (x34.2 (H.n + 1) (by omega)).trans r1
  have yG := y3.trans x4
  obtain ⟨O, gO, hO2⟩ : ∃ O, GrS G2.n G3 vo w.out.length 1 (Ints w.out) O ∧ (G2.n ≤ O ∧ O < G3.n) := by
    rcases g3.2.2 with ⟨z1, z2⟩ | ⟨z1, z2, z3⟩
    · exact ⟨G2.n, ⟨g3.1, g3.2.1, .inl ⟨z1, z2⟩⟩, by omega, by omega⟩
    · exact ⟨O, g3, z1, z2⟩
  have := K_sl24Copy_l (l := w.threads) (by omega) h12 (base := H.n + 2) (lo := G3.n + 1) (TB := G1.n) (vt := at_) (vc := vc) (vb := vb) (vo := vo) (y0 := ac) (y2 := ab) (y3 := .I w.turn) (y4 := .I w.idle) (y5 := ao) (z3 := .I w.turn) (z4 := .I w.idle) (Pc := H.n) (P2 := H.n + 1) (P3 := G3.n) ⟨by omega, by omega, by omega⟩ ⟨by omega, by omega⟩ (Q := ?_) w.threads.length 0 (by omega)
    (G := G) (g := .sl G1.n 0 0 (.ex 0)) (cs := []) (B := G1.n) (by omega) (by omega) (.inl rfl) qc qP
    (ht.mono (by have := yG.1; omega) (fun b _ hb => yG.2 b hb) (fun b _ hb => ⟨by omega, by omega, by omega⟩)) ⟨by omega, rfl, .inr ⟨by omega, by omega, .inl ⟨rfl, qE⟩⟩⟩ rfl (G0 := G) (fun _ _ _ _ => rfl) ?_
  · simpa using this
  · intro e G' g' cs' B' u1 u2 u3 u4 u5 u6 u7 u8
    have keep : ∀ b, b < G3.n → b ≠ G1.n → G'.bk b = G.bk b := fun b h1 h2 => u3 b (by omega) (by omega) h2
    have qR' : G'.bk (H.n + 1) = some ⟨zK, true⟩ := (keep _ (by omega) (by omega)).trans qR
    have st := store_six qR' (l := [vc, g', vb, .I w.turn, .I w.idle, vo]) rfl rfl
    have l6 : G'.loadN G3.n 0 6 = some [vc, g', vb, .I w.turn, .I w.idle, vo] := by rw [loadN_bk u6]; rfl
    simp [u7, u8, l6, st, loadN_bk put_same]
    have kF : ∀ b, b ≠ H.n + 1 → (G'.put (H.n + 1) (some ⟨[vc, g', vb, .I w.turn, .I w.idle, vo], true⟩)).bk b = G'.bk b := fun b hb => by rw [put_bk, if_neg hb]
    have on : Only [H.n + 1] G' (G'.put (H.n + 1) (some ⟨[vc, g', vb, .I w.turn, .I w.idle, vo], true⟩)) := Only.refl.put (.inr (by simp))
    have ur := u1.real (by omega)
    have oG' : Only [G1.n, G3.n] G G' := ⟨by omega, fun b hb hm => by simp at hm; exact u3 b (by omega) hm.2 hm.1⟩
    refine k vc g' vb vo B' O cs' _ ?_ (GrS.up (u1.only on (fun b hb => .inl (by simp at hb; omega))) (by omega)) (u2.imp fun c a h => h.mono (by simp) (fun b hb _ => kF b (by omega)) (fun b hb _ => ⟨by omega, hb.2, by omega⟩)) ?_ ?_ ?_ ⟨⟨by simp; omega, by simp; omega⟩, by omega⟩ ⟨by simp; omega, fun b hb => ?_⟩
    · exact cl.mono (by simp; omega) (fun b hb hn => by rw [kF b (by omega), keep b (by omega) (by omega)]; exact xG.2 b hn) (fun b hb hn => ⟨by omega, by rcases u5 with z | z <;> omega, by omega⟩)
    · exact bv.mono (by simp; omega) (fun b hb hn => by simp at hb; rw [kF b (by omega), keep b (by omega) (by omega)]; exact x34.2 b hn) (fun b hb hn => by simp at hb; exact ⟨by omega, by rcases u5 with z | z <;> omega, by omega⟩)
    · exact GrS.up (((gO.ext x4).only oG' (fun b hb => by simp at hb; rcases hb with z | z <;> exact .inr (by omega))).only on (fun b hb => .inl (by simp at hb; omega))) (by omega)
    · rcases u5 with z | z <;> omega
    · rw [kF b (by omega), keep b (by omega) (by omega)]; exact yG.2 b hb
end
end Go.Proofs.YtcibjklpaljadaaGreat.AM
namespace Go.Proofs.YtcibjklpaljadaaGreat.AM
set_option linter.unusedSimpArgs false
set_option linter.unusedVariables false
set_option maxRecDepth 100000
set_option maxHeartbeats 8000000
open Go
attribute [-simp] AM.elems
section
variable {ok : Nat → Prop} {H : AH} {K : AV → AH → Prop} {wf : Fk K}
theorem K_sl24Step {base : Nat} {G : AH} {P : Nat} {w : Cw} {vc vt vb vo : AV} {T O : Nat} {cs : List AV} (hX : CX base G P w vc vt vb vo T O cs) (hv : vaCw w = true) (hi : w.idle < w.threads.length) (hol : w.out.length ≤ 60000000)
    (k : ∀ u vt' vb' vo' O' cs' H', CX base H' P (stepC w) vc vt' vb' vo' T O' cs' → (∀ b, b < base → H'.bk b = G.bk b) → G.n ≤ H'.n → K u H') : CallF Cd f_sl24Step [.ptr P 0] G K wf := by
  obtain ⟨g1, g2, g3, g4, g5⟩ := vaCw_iff.1 hv
  obtain ⟨b3, bva, bit⟩ := vaBs_items g4
  obtain ⟨q, x, l, eq_, hx, hl, hq, c1, c2, c3, c4⟩ := qAt_some (t := w.turn) g3 (by omega) g5
  obtain ⟨t1, t2, t3, t4⟩ := thFit_iff.1 c2
  obtain ⟨d1, d2, d3, d4⟩ := codeV_facts c1
  have es : stepC w = ⟨w.codes, w.threads.set w.turn.toNat (stepQ q x w.boxes).1, (stepQ q x w.boxes).2.1, (nextT w.threads.length w.turn w.idle (stepQ q x w.boxes).2.2.2).1, (nextT w.threads.length w.turn w.idle (stepQ q x w.boxes).2.2.2).2, w.out ++ (stepQ q x w.boxes).2.2.1⟩ := by
    unfold stepC; rw [eq_]
  obtain ⟨u1, u2, u3, u4, u5, u6, u7⟩ := stepQ_keeps (bs := w.boxes) c1 hq c2 g4
  rw [CallF_eq e_sl24Step rfl]
  have gP := hX.g
  have pn := hX.p
  have tv : ThV (fun _ => True) G vt w.threads := ⟨cs, hX.t.slc.mono (Nat.le_refl _) (fun _ _ _ => rfl) (fun _ _ _ => trivial), hX.l.imp fun c a h => h.mono (Nat.le_refl _) (fun _ _ _ => rfl) (fun _ _ _ => trivial)⟩
  obtain ⟨bt, ot, capt, vr, et, _, hbt, lt1, ir⟩ := tv.at hx
  obtain ⟨bc, oc, capc, vl, ec, obc, hbc, lc1, qv⟩ := hX.c.at hl
  obtain ⟨bq, oq, capq, eq1, obq, hbq, lq⟩ := qv.at hq
  have hq0 := qv
  have hlc : w.codes.length = w.threads.length := g3.symm
  have e5 : (qC q).length = 5 := rfl
  have x2 := Ext.push G [vr, .I x.pc]
  have st2 : (G.push [.nils, .I 0]).store G.n 0 [vr, .I x.pc] = some (G.push [vr, .I x.pc]) := by rw [store_bk push_new (by simp), push_put]; rfl
  have gP2 : (G.push [vr, .I x.pc]).bk P = _ := (x2.2 P pn.2).trans gP
  have qT2 : (G.push [vr, .I x.pc]).bk G.n = some ⟨[vr, .I x.pc], true⟩ := push_new
  have lc2 : (G.push [vr, .I x.pc]).load bc (oc + w.turn.toNat) = some vl := by rw [load_ext x2 hbc]; exact lc1
  have lq2 := loadN_extE lq x2 hbq
  have ht1 : w.turn < (w.threads.length : Int) := by omega
  have ht0 : 0 ≤ w.turn := by omega
  have hX0 := hX
  have evt := et
  have evc := ec
  have evl := eq1
  rw [evt] at gP gP2
  rw [evc] at gP gP2
  subst eq1
  simp (disch := omega) [load_bk gP, ht0, ht1, lt1, st2, load_bk gP2, hlc, lc2, load_bk qT2, t3, t4, lq2, loadN_bk qT2, e5]
  refine K_sl23Step (many := l.length) (ir.ext x2) (hX.b.ext x2) t1 t2 (by omega) (d3 q (List.mem_of_getElem? hq)) g4 c4 fun v' vb' vo' H2 a1 a2 a3 x3 f3 => ?_
  have n3 := x3.1
  simp only [push_n] at n3 a1 a2 a3
  have x4 := Ext.push H2 [v', .I (stepQ q x w.boxes).1.pc]
  have y4 := (x2.trans x3).trans x4
  have st4 : (H2.push [.nils, .I 0]).store H2.n 0 [v', .I (stepQ q x w.boxes).1.pc] = some (H2.push [v', .I (stepQ q x w.boxes).1.pc]) := by rw [store_bk push_new (by simp), push_put]; rfl
  obtain ⟨capT, G4, b1, b2, b4, b5, b6, b7⟩ := (hX.t.ext y4).store (i := w.turn.toNat) (c := [v', .I (stepQ q x w.boxes).1.pc]) (by omega) rfl
  have n4 := b5.1
  simp only [push_n] at n4 b7
  have hTn : T < G.n := hX.n.1
  have hOn : O < G.n := hX.n.2
  have hd := hX.d
  have gP4' : (H2.push [v', .I (stepQ q x w.boxes).1.pc]).bk P = _ := (y4.2 P pn.2).trans hX.g
  have gP4 : G4.bk P = _ := b5.bk (by simp; omega) (by simp; exact Ne.symm hd.1) gP4'
  have s5 := store_cell (v := vb') gP4 (o := 2) (by simp)
  simp only [List.set_cons_zero, List.set_cons_succ] at s5
  have fvb : vb'.flat = true := a2.flat
  have o4 := ((hX.o.ext y4).only b5 (fun b hb => .inr (by simp at hb; omega))).only (bs := [P]) (G' := G4.put P (some ⟨[vc, vt, vb', .I w.turn, .I w.idle, vo], true⟩)) (Only.refl.put (.inr (by simp))) (fun b hb => .inr (by simp at hb; omega))
  have iv5 : IV (fun b => G.n ≤ b) (G4.put P (some ⟨[vc, vt, vb', .I w.turn, .I w.idle, vo], true⟩)) vo' (stepQ q x w.boxes).2.2.1 := (a3.ext x4).mono (by simp; omega) (fun b hb hn => by
    rw [put_bk, if_neg (by omega)]; exact b5.2 b hn (by simp; omega)) (fun b hb _ => by omega)
  obtain ⟨v6, G6, B6, c1', c2', c3', c4'⟩ := o4.app (by simp; omega) (k := (stepQ q x w.boxes).2.2.1.length) (new := Ints (stepQ q x w.boxes).2.2.1) (by rw [Ints_len]; omega) (by omega)
  have n6 := c4'.1
  simp only [put_n] at n6
  obtain ⟨B7, c2n, c3n, hB7n⟩ : ∃ B, GrS base G6 v6 (w.out.length + (stepQ q x w.boxes).2.2.1.length) 1 (Ints w.out ++ Ints (stepQ q x w.boxes).2.2.1) B ∧ (B = O ∨ B = G4.n) ∧ B < G6.n := by
    rcases c2'.2.2 with ⟨z1, z2⟩ | ⟨z1, z2, z3⟩
    · exact ⟨O, ⟨c2'.1, c2'.2.1, .inl ⟨z1, z2⟩⟩, .inl rfl, by omega⟩
    · refine ⟨B6, c2', ?_, z2⟩
      rcases c3' with ⟨z, _⟩ | z
      · exact .inl z
      · exact .inr (by simpa using z)
  have gO : ∀ b ∈ grB vo O, b = O := fun b hb => grB_sub hb
  have gP6 : G6.bk P = some ⟨[vc, vt, vb', .I w.turn, .I w.idle, vo], true⟩ := c4'.bk (by simp; omega) (fun hm => by have := gO _ hm; omega) put_same
  have f6 := c2n.flat
  have s6 := store_cell (v := v6) gP6 (o := 5) (by simp)
  have s7 := store_cell (v := .I (nextT w.threads.length w.turn w.idle (stepQ q x w.boxes).2.2.2).1) (put_same (H := G6) (b := P) (o := some ⟨[vc, vt, vb', .I w.turn, .I w.idle, vo].set 5 v6, true⟩)) (o := 3) (by simp)
  have s8 := store_cell (v := .I (nextT w.threads.length w.turn w.idle (stepQ q x w.boxes).2.2.2).2) (put_same (H := G6) (b := P) (o := some ⟨([vc, vt, vb', .I w.turn, .I w.idle, vo].set 5 v6).set 3 (.I (nextT w.threads.length w.turn w.idle (stepQ q x w.boxes).2.2.2).1), true⟩)) (o := 4) (by simp)
  simp only [List.set_cons_zero, List.set_cons_succ, put_put] at s6 s7 s8
  have eT : T = bt ∧ ot = 0 := by
    have := b1.symm.trans evt
    simp only [AV.sl.injEq] at this
    exact ⟨this.1, this.2.1.symm⟩
  have hX1 := hX
  clear hX0 et gP gP2 tv
  subst b1
  simp (disch := omega) [x3, flat_cells f3, flat_tup f3, st4, load_bk gP4', ht0, ht1, loadN_push, b2, flat_cells fvb, flat_tup fvb, s5]
  simp (disch := omega) [load_bk (put_same (H := G4)), iv5.sees.1, SlC.elems iv5, c1', flat_cells f6, flat_tup f6, s6]
  simp (disch := omega) [load_bk (put_same (H := G6))]
  have hidle : w.idle < (w.threads.length : Int) := hi
  refine K_sNextTurn (by omega) ⟨ht0, ht1⟩ ⟨g1.2.2.2.2.1, hidle⟩ u7 ?_
  simp (disch := omega) [Ext.refl, s7, s8]
  obtain ⟨F, hF⟩ : ∃ F, F = G6.put P (some ⟨[vc, .sl T 0 w.threads.length capT, vb', .I (nextT w.threads.length w.turn w.idle (stepQ q x w.boxes).2.2.2).1, .I (nextT w.threads.length w.turn w.idle (stepQ q x w.boxes).2.2.2).2, v6], true⟩) := ⟨_, rfl⟩
  rw [← hF]
  have nF : F.n = G6.n := by rw [hF]; simp
  have gF : F.bk P = some ⟨[vc, .sl T 0 w.threads.length capT, vb', .I (nextT w.threads.length w.turn w.idle (stepQ q x w.boxes).2.2.2).1, .I (nextT w.threads.length w.turn w.idle (stepQ q x w.boxes).2.2.2).2, v6], true⟩ := by rw [hF]; exact put_same
  have k6 : ∀ b, b ≠ P → F.bk b = G6.bk b := fun b hb => by rw [hF, put_bk, if_neg hb]
  have k4 : ∀ b, b ≠ P → b ≠ O → b < G4.n → F.bk b = G4.bk b := fun b h1 h2 h3 => by
    rw [k6 b h1, c4'.2 b (by simpa using h3) (fun hm => by have := gO b hm; omega), put_bk, if_neg h1]
  have k3 : ∀ b, b ≠ P → b ≠ O → b ≠ T → b < H2.n + 1 → F.bk b = (H2.push [v', .I (stepQ q x w.boxes).1.pc]).bk b := fun b h1 h2 h3 h4 => by
    rw [k4 b h1 h2 (by omega), b5.2 b (by simpa using h4) (by simpa using h3)]
  have kG : ∀ b, b ≠ P → b ≠ O → b ≠ T → b < G.n → F.bk b = G.bk b := fun b h1 h2 h3 h4 => by rw [k3 b h1 h2 h3 (by omega), y4.2 b h4]
  have o6 : Only [P] G6 F := ⟨by omega, fun b _ hm => k6 b (by simpa using hm)⟩
  have hB7 : B7 = O ∨ G.n ≤ B7 := by
    rcases c3n with z | z
    · exact .inl z
    · right; omega
  have hB7f : B7 < F.n := by omega
  have hbase : base ≤ T ∧ base ≤ P := ⟨by have := (hX.t.real (by omega)).1; omega, pn.1⟩
  refine k (.tup []) (.sl T 0 w.threads.length capT) vb' v6 B7 (splice cs (w.turn.toNat * 2) [v', .I (stepQ q x w.boxes).1.pc]) F ?_ (fun b hb => kG b (by omega) ?_ (by omega) (by omega)) (by omega)
  · rw [es]
    refine { g := gF, p := ⟨pn.1, by omega⟩, c := ?_, t := ?_, l := ?_, b := ?_, o := ?_, d := ⟨hd.1, ?_, ?_⟩, n := ⟨by omega, hB7f⟩, ob := by have := hX.ob; omega }
    · exact hX.c.mono (by omega) (fun b hb hn => kG b hb.2.1 hb.2.2.2 hb.2.2.1 hn) (fun b hb hn => ⟨hb.1, hb.2.1, hb.2.2.1, by omega⟩)
    · have := (b4.only (bs := [P, O]) (G' := F) ⟨by omega, fun b hb hm => by simp at hm; exact k4 b hm.1 hm.2 hb⟩ (fun b hb => .inr (by simp at hb; omega)))
      simp only [List.length_set]
      exact this
    · refine LF.set (hX.l.imp fun c a h => h.mono (by omega) (fun b hb hn => kG b hb.2.1 hb.2.2.2 hb.2.2.1 hn) (fun b hb hn => ⟨hb.1, hb.2.1, hb.2.2.1, by omega⟩)) (by omega) ⟨v', rfl, ?_⟩ rfl
      exact (a1.ext x4).mono (by simp; omega) (fun b hb hn => k3 b (by omega) (by omega) (by omega) (by simpa using hn)) (fun b hb hn => ⟨by omega, by omega, by omega, by
        simp at hn
        rcases c3n with z | z
        · omega
        · omega⟩)
    · exact (a2.ext x4).mono (by simp; omega) (fun b hb hn => k3 b (by omega) (by omega) (by omega) (by simpa using hn)) (fun b hb hn => ⟨by omega, by omega, by omega, by
        simp at hn
        rcases c3n with z | z
        · omega
        · omega⟩)
    · have := c2n.only o6 (fun b hb => .inr (by simp at hb; omega))
      simp only [List.length_append]
      rw [show Ints (w.out ++ (stepQ q x w.boxes).2.2.1) = Ints w.out ++ Ints (stepQ q x w.boxes).2.2.1 by simp [Ints]]
      exact this
    · omega
    · omega
  · have := hX.ob; omega
end
end Go.Proofs.YtcibjklpaljadaaGreat.AM
namespace Go.Proofs.YtcibjklpaljadaaGreat.AM
set_option linter.unusedSimpArgs false
set_option linter.unusedVariables false
set_option maxRecDepth 100000
set_option maxHeartbeats 8000000
open Go
attribute [-simp] AM.elems
section
variable {ok : Nat → Prop} {H : AH} {K : AV → AH → Prop} {wf : Fk K}
theorem K_sCrewRun_l {base P T N : Nat} {P4 : AV} {vc : AV} {Q : Out → Env → AH → Prop} (hN : N ≤ 100000) (m : Nat) : ∀ (i : Nat) (hm : i + m = N) {G : AH} {w : Cw} {vt vb vo : AV} {O : Nat} {cs : List AV} (hX : CX base G P w vc vt vb vo T O cs) (hv : vaCw w = true) (hol : w.out.length + m ≤ 60000000)
    (hQ : ∀ e G' vt' vb' vo' O' cs', CX base G' P (runC m w) vc vt' vb' vo' T O' cs' → (∀ b, b < base → G'.bk b = G.bk b) → G.n ≤ G'.n → get e 4 = some P4 → get e 6 = some (.ptr P 0) → Q (.brk 0) e G'),
    W Cd (.loop c_sCrewRun_l0) [(1, .I N), (4, P4), (6, .ptr P 0), (7, .I i)] G Q := by
  induction m with
  | zero =>
    intro i hm G w vt vb vo O cs hX hv hol hQ
    rw [W_loop_as c_sCrewRun_l0.eq_1]
    have : i = N := by omega
    subst this
    simp
    exact hQ _ G vt vb vo O cs hX (fun _ _ => rfl) (Nat.le_refl _) rfl rfl
  | succ m ih =>
    intro i hm G w vt vb vo O cs hX hv hol hQ
    rw [W_loop_as c_sCrewRun_l0.eq_1]
    have hlt : (i : Int) < N := by omega
    have gP := hX.g
    have al := hX.t.alen
    by_cases hi : w.idle < (w.threads.length : Int)
    · have er : runC (m + 1) w = runC m (stepC w) := by unfold runC; rw [if_pos hi]; cases m <;> rfl
      rw [er] at hQ
      obtain ⟨s1, s2, s3, s4, s5, p, s6, s7⟩ := stepC_keeps hv hi
      simp (disch := omega) [hlt, load_bk gP, al, hi]
      refine K_sl24Step hX hv hi (by omega) fun u vt' vb' vo' O' cs' H' hX' hb hn => ?_
      have := ih (i + 1) (by omega) hX' s1 (by rw [s6, List.length_append]; omega) (fun e G' a b c d f g1 g2 g3 g4 g5 => hQ e G' a b c d f g1 (fun b hb' => (g2 b hb').trans (hb b hb')) (by omega) g4 g5)
      simp (disch := omega)
      simpa using this
    · have er : runC (m + 1) w = w := by unfold runC; rw [if_neg hi]
      rw [er] at hQ
      simp (disch := omega) [hlt, load_bk gP, al, hi]
      exact hQ _ G vt vb vo O cs hX (fun _ _ => rfl) (Nat.le_refl _) rfl rfl
theorem K_sCrewRun {c : List AV} {w : Cw} {n : Int} (h : CwC ok H c w) (hol : w.out.length ≤ 40000000)
    (k : ∀ c' H', CwC (fun b => H.n ≤ b) H' c' (runK n w).1 → Ext H H' → K (.tup [.agg c', .b (runK n w).2]) H') : CallF Cd f_sCrewRun [.agg c, .I n] H K wf := by
  have h' := h
  obtain ⟨vc, vt, vb, vo, rfl, _, _, _, _⟩ := h'
  rw [CallF_eq e_sCrewRun rfl]
  have x0 := (Ext.push H [vc, vt, vb, .I w.turn, .I w.idle, vo]).trans (Ext.push _ zK)
  have q0 : ((H.push [vc, vt, vb, .I w.turn, .I w.idle, vo]).push zK).bk H.n = some ⟨[vc, vt, vb, .I w.turn, .I w.idle, vo], true⟩ := push_old (by simp) push_new
  have q1 : ((H.push [vc, vt, vb, .I w.turn, .I w.idle, vo]).push zK).bk (H.n + 1) = some ⟨zK, true⟩ := push_new (H := H.push [vc, vt, vb, .I w.turn, .I w.idle, vo])
  simp [loadN_bk q0]
  refine K_sCrewValid (h.ext x0) fun H1 x1 => ?_
  have n1 := x1.1
  simp only [push_n] at n1
  have y1 := x0.trans x1
  have p0 := (x1.2 H.n (by simp; omega)).trans q0
  have p1 := (x1.2 (H.n + 1) (by simp)).trans q1
  have stb := store_six p1 (l := zK) rfl rfl
  have bad : ¬ (vaCw w = true ∧ 0 ≤ n ∧ n ≤ 100000) → K (.tup [.agg zK, .b false]) (H1.put (H.n + 1) (some ⟨zK, true⟩)) := fun hb => by
    have e : runK n w = (zeroK, false) := by unfold runK; rw [if_neg hb]
    rw [e] at k
    exact k zK _ zero_CwC (y1.put (by omega))
  cases hv : vaCw w with
  | false =>
    simp [stb, loadN_bk put_same]
    exact bad (by rw [hv]; simp)
  | true =>
  by_cases hn : 0 ≤ n ∧ n ≤ 100000
  case neg =>
    simp [K_sl6In, hn, stb, loadN_bk put_same]
    exact bad (fun hh => hn ⟨hh.2.1, hh.2.2⟩)
  have hF : runK n w = (runC n.toNat w, true) := by unfold runK; rw [if_pos ⟨hv, hn⟩]
  rw [hF] at k
  have en : n = (n.toNat : Int) := by omega
  generalize n.toNat = N at *
  subst en
  simp [K_sl6In, hn.1, hn.2, loadN_bk p0]
  refine K_sl24Copy (h.ext y1) hv (by omega) fun vc' vt' vb' vo' T O cs H2 a1 a2 a3 a4 a5 a6 a7 x2 => ?_
  have n2 := x2.1
  have x3 := Ext.push H2 [vc', vt', vb', .I w.turn, .I w.idle, vo']
  have st3 : (H2.push zK).store H2.n 0 [vc', vt', vb', .I w.turn, .I w.idle, vo'] = some (H2.push [vc', vt', vb', .I w.turn, .I w.idle, vo']) := by rw [store_bk push_new (by simp), push_put]; rfl
  have hX : CX H1.n (H2.push [vc', vt', vb', .I w.turn, .I w.idle, vo']) H2.n w vc' vt' vb' vo' T O cs :=
    { g := push_new, p := ⟨by omega, by simp⟩, c := (a1.mono (ok' := fun b => H1.n ≤ b ∧ b ≠ H2.n ∧ b ≠ T ∧ b ≠ O) (Nat.le_refl _) (fun _ _ _ => rfl) (fun b hb hn => ⟨hb.1, by omega, hb.2.1, hb.2.2⟩)).ext x3, t := a2.ext x3,
      l := a3.imp fun c a h => ThC.ext (h.mono (ok' := fun b => H1.n ≤ b ∧ b ≠ H2.n ∧ b ≠ T ∧ b ≠ O) (Nat.le_refl _) (fun _ _ _ => rfl) (fun b hb hn => ⟨hb.1, by omega, hb.2.1, hb.2.2⟩)) x3,
      b := (a4.mono (ok' := fun b => H1.n ≤ b ∧ b ≠ H2.n ∧ b ≠ T ∧ b ≠ O) (Nat.le_refl _) (fun _ _ _ => rfl) (fun b hb hn => ⟨hb.1, by omega, hb.2.1, hb.2.2⟩)).ext x3, o := a5.ext x3, d := ⟨by omega, by omega, a6⟩, n := ⟨by simp; omega, by simp; omega⟩, ob := a7.2 }
  simp [st3]
  have := K_sCrewRun_l (N := N) (P4 := .ptr (H.n + 1) 0) (Q := ?_) (by omega) N 0 (by omega) hX hv (by omega) ?_
  · simpa using this
  · intro e G vt2 vb2 vo2 O2 cs2 hX2 hb hnn e4 e6
    have gP := hX2.g
    have keep : ∀ b, b < H1.n → G.bk b = H1.bk b := fun b hb' => by rw [hb b hb', x3.2 b (by omega), x2.2 b hb']
    have qR : G.bk (H.n + 1) = some ⟨zK, true⟩ := (keep _ (by omega)).trans p1
    have st := store_six qR (l := [vc', vt2, vb2, .I (runC N w).turn, .I (runC N w).idle, vo2]) rfl rfl
    have l6 : G.loadN H2.n 0 6 = some [vc', vt2, vb2, .I (runC N w).turn, .I (runC N w).idle, vo2] := by rw [loadN_bk gP]; rfl
    simp [e4, e6, l6, st, loadN_bk put_same]
    simp only [push_n] at hnn
    have kF : ∀ b, b ≠ H.n + 1 → (G.put (H.n + 1) (some ⟨[vc', vt2, vb2, .I (runC N w).turn, .I (runC N w).idle, vo2], true⟩)).bk b = G.bk b := fun b hb => by rw [put_bk, if_neg hb]
    refine k _ _ ⟨vc', vt2, vb2, vo2, rfl, hX2.c.mono (by simp) (fun b hb _ => kF b (by omega)) (fun b hb _ => by omega), ⟨cs2, hX2.t.slc.mono (by simp) (fun b hb _ => kF b (by omega)) (fun b hb _ => by omega), hX2.l.imp fun c a h => h.mono (by simp) (fun b hb _ => kF b (by omega)) (fun b hb _ => by omega)⟩, hX2.b.mono (by simp) (fun b hb _ => kF b (by omega)) (fun b hb _ => by omega), hX2.o.iv.mono (by simp) (fun b hb _ => kF b (by omega)) (fun b hb _ => by omega)⟩ ⟨by simp; omega, fun b hb' => ?_⟩
    rw [kF b (by omega), keep b (by omega)]
    exact y1.2 b hb'
end
end Go.Proofs.YtcibjklpaljadaaGreat.AM
namespace Go.Proofs.YtcibjklpaljadaaGreat.AM
set_option linter.unusedSimpArgs false
set_option linter.unusedVariables false
set_option maxRecDepth 100000
set_option maxHeartbeats 8000000
open Go
attribute [-simp] AM.elems
theorem OS.same {H H' : AH} {v b n sz cs} (h : OS H v b n sz cs) (hn : H.n ≤ H'.n) (hb : ∀ x ∈ grB v b, H'.bk x = H.bk x) : OS H' v b n sz cs := by
  obtain ⟨h1, h2, ⟨rfl, rfl⟩ | ⟨c, ex, rfl, h3, h4, h5⟩⟩ := h
  · exact ⟨h1, h2, .inl ⟨rfl, rfl⟩⟩
  · exact ⟨h1, h2, .inr ⟨c, ex, rfl, h3, by omega, by rw [hb b (by simp [grB])]; exact h5⟩⟩
theorem OG.same {α : Type} {N : Nest α} {H H' : AH} {v l B rs} (h : OG N H v l B rs) (hn : H.n ≤ H'.n) (hb : ∀ x ∈ fpO v B rs, H'.bk x = H.bk x) : OG N H' v l B rs := by
  obtain ⟨h1, h2, h3, h4⟩ := h
  exact ⟨h1, h2.same hn (fun x hx => hb x (mem_fpO.2 (.inl hx))), fun i x p hx hp => ⟨(h3 i x p hx hp).1.same hn (fun y hy => hb y (mem_fpO.2 (.inr ⟨p, List.mem_of_getElem? hp, hy⟩))), (h3 i x p hx hp).2⟩, h4⟩
theorem cellsT_G : ∀ {l : List Th} {r : List (AV × Nat)}, cellsT l r = cellsG nestT l r
  | [], _ => by cases ‹List (AV × Nat)› <;> rfl
  | _ :: _, [] => rfl
  | t :: l, p :: r => by simp only [cellsT, cellsG]; rw [cellsT_G (l := l) (r := r)]; rfl
section
variable {ok : Nat → Prop} {H : AH} {K : AV → AH → Prop} {wf : Fk K}
theorem K_icodesCopyF_l {l : List (List Qd)} (hll : l.length ≤ 1000) (hit : ∀ x ∈ l, x.length ≤ 1000000) {base : Nat} {v : AV}
    {Q : Out → Env → AH → Prop} (m i : Nat) (him : i + m = l.length) {G : AH} {g : AV} {rs : List (AV × Nat)} {B : Nat} (hb : base ≤ G.n) (hv : CLV (fun b => b < base) G v l) (hr : rs.length = i) (hg : GrS base G g i 1 (cellsG nestC (l.take i) rs) B)
    (h3 : ∀ (j : Nat) (x : List Qd) (p : AV × Nat), (l.take i)[j]? = some x → rs[j]? = some p → GrS base G p.1 x.length 5 (qCs x) p.2 ∧ B ∉ grB p.1 p.2)
    (h4 : ∀ (i j : Nat) (p q : AV × Nat), i ≠ j → rs[i]? = some p → rs[j]? = some q → ∀ b ∈ grB p.1 p.2, b ∉ grB q.1 q.2)
    (hQ : ∀ e G' g' rs' B', OG nestC G' g' l B' rs' → (∀ b ∈ fpO g' B' rs', base ≤ b) → (∀ b, b < base → G'.bk b = G.bk b) → G.n ≤ G'.n → get e 3 = some g' → Q (.brk 0) e G') :
    W Cd (.loop c_icodesCopy_l0) [(3, g), (6, v), (7, .I l.length), (8, .I i)] G Q := by
  induction m generalizing i G g rs B with
  | zero =>
    rw [W_loop_as c_icodesCopy_l0.eq_1]
    have hi : i = l.length := by omega
    subst hi
    simp
    rw [List.take_length] at hg h3
    refine hQ _ G g rs B ⟨hr, hg.os, fun j x p hx hp => ⟨(h3 j x p hx hp).1.os, (h3 j x p hx hp).2⟩, h4⟩ (fun b hb' => ?_) (fun _ _ => rfl) (Nat.le_refl _) rfl
    rcases mem_fpO.1 hb' with q | ⟨p, hp, q⟩
    · have := hg.mem q; omega
    · obtain ⟨j, hj, e⟩ := List.getElem_of_mem hp
      have hjl : j < l.length := by omega
      have := (h3 j l[j] p (List.getElem?_eq_getElem hjl) (by rw [List.getElem?_eq_getElem hj, e])).1.mem q
      omega
  | succ m ihm =>
    rw [W_loop_as c_icodesCopy_l0.eq_1]
    have hi : i < l.length := by omega
    obtain ⟨s, hs⟩ : ∃ s, l[i]? = some s := ⟨_, List.getElem?_eq_getElem hi⟩
    have hmem := List.mem_of_getElem? hs
    obtain ⟨b, o, cap, vc, e0, ob, hbn, l1, qv⟩ := hv.at hs
    have hv0 := hv
    have htl : (l.take i).length = i := by simp; omega
    have hts : l.take (i + 1) = l.take i ++ [s] := by rw [List.take_add_one, hs]; rfl
    generalize hL : l.length = L at *
    subst e0
    have hlt : (i : Int) < L := by omega
    simp (disch := omega) [hlt, l1]
    refine K_cloneQ qv (by have := hit s hmem; omega) fun vi' H1 B1 g1 x1 => ?_
    have f1 := g1.flat
    have x7 := Ext.push H1 [vi']
    have n1 := x1.1
    obtain ⟨g', G', B', a1, a2, a3, a4⟩ := (hg.ext (x1.trans x7)).app (k := 1) (new := [vi']) (by simp; omega) rfl (by omega)
    have n4 := a4.1
    simp only [push_n] at n4
    have gB : ∀ b ∈ grB g B, b = B ∧ base ≤ B ∧ B < G.n := fun b hb => hg.mem hb
    have keep : ∀ b, b < H1.n + 1 → b ∉ grB g B → G'.bk b = (H1.push [vi']).bk b := fun b hb hm => a4.2 b (by simpa using hb) hm
    have on : Only (grB g B) (H1.push [vi']) G' := a4
    have hB' : (B' = B ∧ B ∈ grB g B) ∨ B' = H1.n + 1 := by simpa using a3
    simp (disch := omega) [x1, flat_cells f1, flat_tup f1, AM.elems, loadN_push, a1]
    have gn : GrS base G' vi' s.length 5 (qCs s) B1 := ((g1.up (by omega)).ext x7).onlyB on (fun b hb' hm => by have := gB b hb'; have := g1.mem hm; omega)
    have := ihm (i + 1) (by omega) (G := G') (g := g') (rs := rs ++ [(vi', B1)]) (B := B') (by omega) (hv0.mono (by omega) (fun b hb' hn => by rw [keep b (by omega) (fun hm => by have := gB b hm; omega), x7.2 b (by omega), x1.2 b hn]) (fun _ h _ => h)) (by simp [hr])
      (by
        have e : cellsG nestC (l.take (i + 1)) (rs ++ [(vi', B1)]) = cellsG nestC (l.take i) rs ++ [vi'] := by rw [hts, ← cellsG_snoc (N := nestC) (x := s) (p := (vi', B1)) (by rw [htl]; exact hr)]; rfl
        rw [e]; exact a2)
      (fun j x p hx hp => ?_) (fun j1 j2 p q hj hp hq b hbp hbq => ?_)
      (fun e G2 g2 rs2 B2 u1 u2 u3 u4 u5 => hQ e G2 g2 rs2 B2 u1 u2 (fun b hb' => (u3 b hb').trans (by rw [keep b (by omega) (fun hm => by have := gB b hm; omega), x7.2 b (by omega), x1.2 b (by omega)])) (by omega) u5)
    · simpa using this
    · rw [hts] at hx
      by_cases hji : j < i
      · rw [List.getElem?_append_left (by omega)] at hx
        rw [List.getElem?_append_left (by omega)] at hp
        obtain ⟨q1, q2⟩ := h3 j x p hx hp
        refine ⟨((q1.ext (x1.trans x7)).onlyB on (fun b hb' hm => q2 (by rw [← (gB b hb').1]; exact hm))), fun hm => ?_⟩
        · rcases hB' with ⟨z, _⟩ | z
          · rw [z] at hm; exact q2 hm
          · have := q1.mem hm; omega
      · have hjl := (List.getElem?_eq_some_iff.1 hx).1
        simp [htl] at hjl
        have hje : j = i := by omega
        subst hje
        rw [List.getElem?_append_right (by omega)] at hx hp
        simp [htl, hr] at hx hp
        subst hx hp
        refine ⟨gn, fun hm => ?_⟩
        have h1 := g1.mem hm
        rcases hB' with ⟨z, zz⟩ | z
        · have := gB _ zz; omega
        · omega
    · have key : ∀ {j : Nat} {p : AV × Nat}, (rs ++ [(vi', B1)])[j]? = some p → (j < i ∧ rs[j]? = some p ∧ ∀ b ∈ grB p.1 p.2, b < G.n) ∨ (j = i ∧ ∀ b ∈ grB p.1 p.2, G.n ≤ b) := fun {j p} hp => by
        by_cases hji : j < i
        · rw [List.getElem?_append_left (by omega)] at hp
          obtain ⟨x, hx⟩ : ∃ x, (l.take i)[j]? = some x := ⟨_, List.getElem?_eq_getElem (by omega)⟩
          exact .inl ⟨hji, hp, fun b hb' => by have := (h3 j x p hx hp).1.mem hb'; omega⟩
        · have hjl := (List.getElem?_eq_some_iff.1 hp).1
          simp at hjl
          have hje : j = i := by omega
          subst hje
          rw [List.getElem?_append_right (by omega)] at hp
          simp [hr] at hp
          subst hp
          exact .inr ⟨rfl, fun b hb' => by have := g1.mem hb'; omega⟩
      rcases key hp with ⟨z1, z2, z3⟩ | ⟨z1, z2⟩ <;> rcases key hq with ⟨y1, y2, y3⟩ | ⟨y1, y2⟩
      · exact h4 j1 j2 p q hj z2 y2 b hbp hbq
      · have := z3 b hbp; have := y2 b hbq; omega
      · have := z2 b hbp; have := y3 b hbq; omega
      · omega
theorem K_icodesCopyF {v : AV} {l : List (List Qd)} (h : CLV ok H v l) (hl : l.length ≤ 1000) (hit : ∀ x ∈ l, x.length ≤ 1000000) (k : ∀ v' B rs H', OG nestC H' v' l B rs → (∀ b ∈ fpO v' B rs, H.n ≤ b) → Ext H H' → K v' H') : CallF Cd f_icodesCopy [v] H K wf := by
  rw [CallF_eq e_icodesCopy rfl]
  have hbig := h.big
  simp (disch := omega) [h.alen]
  have := K_icodesCopyF_l hl hit (Q := ?_) l.length 0 (by omega) (base := H.n) (G := H) (g := .nils) (rs := []) (B := H.n) (v := v) (Nat.le_refl _)
    (h.mono (Nat.le_refl _) (fun b _ hb => rfl) (fun b _ hb => hb)) rfl GrS.nils (by simp) (by simp) ?_
  · simpa using this
  · intro e G g rs B u1 u2 u3 u4 u5
    simp [u5]
    exact k g B rs G u1 u2 ⟨u4, u3⟩
theorem K_iCrewRunF {c : List AV} {w : Cw} {n : Int} (h : CwC ok H c w) (hbl : w.boxes.length ≤ 8589934592) (hol : w.out.length ≤ 70000000)
    (k : ∀ L H', OCw H' L (runK n w).1 → (∀ b ∈ L.fp, H.n ≤ b) → Ext H H' → K (.tup [.agg (L.c (runK n w).1), .b (runK n w).2]) H') : CallF Cd f_iCrewRun [.agg c, .I n] H K wf := by
  have h' := h
  obtain ⟨vc, vt, vb, vo, rfl, h0, h1, h2, h3⟩ := h'
  rw [CallF_eq e_iCrewRun rfl]
  have x0 := (Ext.push H [vc, vt, vb, .I w.turn, .I w.idle, vo]).trans (Ext.push _ zK)
  have q0 : ((H.push [vc, vt, vb, .I w.turn, .I w.idle, vo]).push zK).bk H.n = some ⟨[vc, vt, vb, .I w.turn, .I w.idle, vo], true⟩ := push_old (by simp) push_new
  simp [loadN_bk q0]
  refine K_iCrewValid (h.ext x0) hbl fun H1 x1 => ?_
  have n1 := x1.1
  simp only [push_n] at n1
  have y1 := x0.trans x1
  have q1 := (x1.2 H.n (by simp <;> omega)).trans q0
  have qR1 : H1.bk (H.n + 1) = some ⟨zK, true⟩ := (x1.2 _ (by simp)).trans push_new
  have stb := store_six qR1 (l := zK) rfl rfl
  have bad : ¬ (vaCw w = true ∧ 0 ≤ n ∧ n ≤ 100000) → K (.tup [.agg zK, .b false]) (H1.put (H.n + 1) (some ⟨zK, true⟩)) := fun hb => by
    have e : runK n w = (zeroK, false) := by unfold runK; rw [if_neg hb]
    rw [e] at k
    exact k ⟨.nils, .nils, .nils, .nils, 0, [], 0, [], 0, [], 0⟩ _ ⟨⟨rfl, ⟨by simp, rfl, .inl ⟨rfl, rfl⟩⟩, by simp, by simp⟩, ⟨rfl, ⟨by simp, rfl, .inl ⟨rfl, rfl⟩⟩, by simp, by simp⟩, ⟨rfl, ⟨by simp, rfl, .inl ⟨rfl, rfl⟩⟩, by simp, by simp⟩, ⟨by simp, rfl, .inl ⟨rfl, rfl⟩⟩, by simp [KL.f1, fpO, grB], by simp [KL.f2, fpO, grB], by simp [KL.f3, fpO, grB]⟩ (by simp [KL.fp, KL.f1, KL.f2, KL.f3, KL.f4, fpO, grB]) (y1.put (by omega))
  cases hv : vaCw w with
  | false =>
    simp [stb, loadN_bk put_same]
    exact bad (by rw [hv]; simp)
  | true =>
  by_cases hn0 : n < 0
  · simp [hn0, stb, loadN_bk put_same]
    exact bad (fun hh => by omega)
  by_cases hn1 : 100000 < n
  · simp [hn0, hn1, stb, loadN_bk put_same]
    exact bad (fun hh => by omega)
  have hF : runK n w = (runC n.toNat w, true) := by unfold runK; rw [if_pos ⟨hv, by omega, by omega⟩]
  rw [hF] at k
  have en : n = (n.toNat : Int) := by omega
  generalize n.toNat = N at *
  subst en
  obtain ⟨v1, v2, v3, v4, v5⟩ := vaCw_iff.1 hv
  have hb3 := vaBs_facts v4
  have hcl : ∀ l ∈ w.codes, l.length ≤ 600 := fun l hl => by
    obtain ⟨i, hi⟩ := List.mem_iff_getElem?.1 hl
    obtain ⟨t, ht⟩ : ∃ t, w.threads[i]? = some t := ⟨_, List.getElem?_eq_getElem (by have := (List.getElem?_eq_some_iff.1 hi).1; omega)⟩
    exact (codeV_facts (vaTh_iff.1 (v5 i l t hi ht)).1).2.1
  have h12 : ∀ t ∈ w.threads, t.regs.length = 12 := fun t ht => by
    obtain ⟨i, hi⟩ := List.mem_iff_getElem?.1 ht
    obtain ⟨l, hl⟩ : ∃ l, w.codes[i]? = some l := ⟨_, List.getElem?_eq_getElem (by have := (List.getElem?_eq_some_iff.1 hi).1; omega)⟩
    exact (thFit_iff.1 (vaTh_iff.1 (v5 i l t hl hi)).2.1).1
  simp [hn0, hn1, load_bk q1]
  refine K_icodesCopyF (h0.ext y1) (by omega) (fun x hx => by have := hcl x hx; omega) fun vc' Bc rc H2 oc hoc x2 => ?_
  have fc := oc.2.1.flat
  have cl : CLV (fun b => H1.n ≤ b) H2 vc' w.codes := oc.clv hoc
  have n2 := x2.1
  have q2 := (x2.2 H.n (by omega)).trans q1
  simp [x2, load_bk q2]
  refine R_iboxesCopy (h2.ext (y1.trans x2)) (by omega) (fun x hx => by have := hb3.2 x hx; omega) fun vb' B rs H3 rb x3 => ?_
  have n3 := x3.1
  have q3 := (x3.2 H.n (by omega)).trans q2
  simp [x3, load_bk q3]
  refine K_cloneG (h3.ext ((y1.trans x2).trans x3)).src (by omega) fun vo' H4 O og x4 => ?_
  have n4 := x4.1
  have q4 := (x4.2 H.n (by omega)).trans q3
  have fb := rb.bv.flat
  have fo := og.flat
  have x5 := Ext.push H4 [vc', .nils, vb', .I 0, .I 0, vo']
  have q5 := (x5.2 H.n (by omega)).trans q4
  have st5 : (H4.push zK).store H4.n 0 [vc', .nils, vb', .I 0, .I 0, vo'] = some (H4.push [vc', .nils, vb', .I 0, .I 0, vo']) := by
    rw [store_bk push_new (by simp), push_put]; rfl
  have y5 := (((y1.trans x2).trans x3).trans x4).trans x5
  simp [x4, flat_cells fb, flat_tup fb, flat_cells fo, flat_tup fo, flat_cells fc, flat_tup fc, st5, load_bk q5, h1.alen]
  have hth3 : w.threads.length ≤ 3 := by omega
  have := K_iCrewRun_l0 (ths := w.threads) h12 hth3 (vts := vt) (vc := vc') (vb := vb') (vo := vo') (Pc := H.n) (P4 := H.n + 1) (P6 := H4.n) (base := H.n) (lo := H4.n + 1) (nn := .I N) (by omega) (by omega) w.threads.length 0 (by omega)
    (G := H4.push [vc', .nils, vb', .I 0, .I 0, vo']) (g := .nils) (qs := []) (T := 0) (by simp) (h1.mono (by simp; omega) (fun b _ hb => y5.2 b hb) (fun b _ hb => hb)) push_new rfl
    GrS.nils ⟨by simp, by simp⟩ (Q := ?_) ?_
  · simpa using this
  · intro e G g qs T hql gT hr g6 fr nG e1 e2 e4 e6
    simp only [push_n] at nG
    have keep : ∀ b, b < H4.n → G.bk b = H4.bk b := fun b hb => (fr b (by omega) (by omega)).trans (x5.2 b hb)
    have qG := (keep H.n (by omega)).trans q4
    have qRG : G.bk (H.n + 1) = some ⟨zK, true⟩ := (keep _ (by omega)).trans ((x4.2 _ (by omega)).trans ((x3.2 _ (by omega)).trans ((x2.2 _ (by omega)).trans qR1)))
    have gTr := gT.real (by omega)
    have ga := gT.alen
    simp [e1, e2, e4, e6, load_bk g6, load_bk qG, ga]
    have oG : Only [] H4 G := ⟨by omega, fun b hb _ => keep b hb⟩
    have rbG : RB H2.n G vb' w.boxes B rs := ((rb.onlyA (cs := []) x4.only (by simp))).onlyA (cs := []) oG (by simp)
    have ogG : GrS H2.n G vo' w.out.length 1 (Ints w.out) O := (og.up (by omega)).onlyB (bs := []) oG (by simp)
    have hfp : ∀ b ∈ fpB B rs, H2.n ≤ b ∧ b < H3.n := fun b hb => rb.mem hb
    have hO : ∀ b ∈ grB vo' O, H3.n ≤ b ∧ b < H4.n := fun b hb => by have := og.mem hb; omega
    obtain ⟨capT, ex, evt, T1, T2, T3⟩ := gT.blk (by omega)
    have S0 : RunC H2.n G H4.n vc' w.codes N (w.threads, w.boxes, w.out) G := by
      refine ⟨g, vb', vo', T, cellsT w.threads qs ++ ex, B, rs, O, qs, fun i t q hi hq => ?_, ⟨hql, v3, v1.1, v1.2.1⟩, hr.2, gT.up (by omega), cl.mono (by omega) (fun b _ hb => (keep b (by omega)).trans ((x4.2 b (by omega)).trans (x3.2 b hb))) (fun b _ hb => hb), ⟨v5, v4, by simp only; omega⟩, ⟨by omega, by omega, fun _ _ => rfl⟩⟩
      obtain ⟨r1, r2, r3, r4⟩ := hr.1 i t q hi hq
      rw [gTr.2.2] at r2
      exact { bT := T3, sT := cellsT_get hi hq, nT := T2, gR := r1.up (by omega), rb := rbG, bP := g6, sP := rfl, nP := by omega, gO := ogG, hb := by omega,
              d := ⟨fun e => r2 (by simp [e]), by omega, by omega⟩,
              f := ⟨fun hm => (by have := hfp _ hm; omega), fun hm => (by have := hfp _ hm; omega), fun hm => (by have := hfp _ hm; omega)⟩,
              g := ⟨fun hm => (by have := hO _ hm; omega), fun hm => (by have := hO _ hm; omega), fun hm => (by have := hO _ hm; omega)⟩,
              fg := fun b hb hm => (by have := hO _ hb; have := hfp _ hm; omega) }
    refine K_itakeTurns (many := w.threads.length) (by omega) (RunC H2.n G H4.n vc' w.codes) (nxC w.codes) (cdC w.codes)
      (fun m s t H K wf hS ht kk => runC_step hS (by omega) kk) (fun m s t H hS ht => runC_code hS (by omega)) (by omega) S0 (by omega) (by omega) fun m H6 hS => ?_
    rw [turnsC_run N hv] at hS ⊢
    obtain ⟨rc1, rc2⟩ := runC_codes N (w := w)
    obtain ⟨vt2, vb2, vo2, T', cT, B', rs', O', qs', tm, ⟨m1, m2, m3, m4⟩, dis, gT', cl', ⟨va', vb3', ho'⟩, ⟨hP, hlo, fr'⟩⟩ := hS
    simp only at tm m1 m2 gT' va' vb3' ho'
    obtain ⟨t0, ht0⟩ : ∃ t, (runC N w).threads[0]? = some t := ⟨_, List.getElem?_eq_getElem (by omega)⟩
    obtain ⟨p0, hp0⟩ : ∃ t, qs'[0]? = some t := ⟨_, List.getElem?_eq_getElem (by omega)⟩
    have tm0 := tm 0 t0 p0 ht0 hp0
    have gP := tm0.bP
    have nP := tm0.nP
    have st1 := store_cell (v := .I (runC N w).turn) gP (o := 3) (by simp)
    have st2 := store_cell (v := .I (runC N w).idle) (put_same (H := H6) (b := H4.n) (o := some ⟨[vc', vt2, vb2, .I 0, .I 0, vo2].set 3 (.I (runC N w).turn), true⟩)) (o := 4) (by simp)
    simp only [List.set_cons_zero, List.set_cons_succ] at st1 st2
    have qR6 : H6.bk (H.n + 1) = some ⟨zK, true⟩ := (fr' _ (by omega)).trans qRG
    have hne : H.n + 1 ≠ H4.n := by omega
    have st3 := store_six (H := (H6.put H4.n (some ⟨[vc', vt2, vb2, .I (runC N w).turn, .I 0, vo2], true⟩)).put H4.n (some ⟨[vc', vt2, vb2, .I (runC N w).turn, .I (runC N w).idle, vo2], true⟩)) (b := H.n + 1) (cs := zK) (l := [vc', vt2, vb2, .I (runC N w).turn, .I (runC N w).idle, vo2]) (by simp only [put_bk, if_neg hne]; exact qR6) rfl rfl
    simp [st1, st2, st3, loadN_bk put_same]
    generalize hF : (((H6.put H4.n (some ⟨[vc', vt2, vb2, .I (runC N w).turn, .I 0, vo2], true⟩)).put H4.n (some ⟨[vc', vt2, vb2, .I (runC N w).turn, .I (runC N w).idle, vo2], true⟩)).put (H.n + 1) (some ⟨[vc', vt2, vb2, .I (runC N w).turn, .I (runC N w).idle, vo2], true⟩)) = F
    have nF : F.n = H6.n := by rw [← hF]; simp
    have kF : ∀ b, b ≠ H4.n → b ≠ H.n + 1 → F.bk b = H6.bk b := fun b h1 h2 => by rw [← hF]; simp only [put_bk, if_neg h1, if_neg h2]
    have oF : Only [H4.n, H.n + 1] H6 F := ⟨by omega, fun b _ hm => by simp at hm; exact kF b hm.1 hm.2⟩
    have same2 : ∀ b, b < H2.n → H.n + 1 < b → F.bk b = H2.bk b := fun b hb hb1 => by
      rw [kF b (by omega) (by omega), fr' b hb, keep b (by omega), x4.2 b (by omega), x3.2 b hb]
    have hocl : ∀ b ∈ fpO vc' Bc rc, H1.n ≤ b ∧ b < H2.n := fun b hb => ⟨hoc b hb, oc.mem hb⟩
    have gTn := gT'.real (by omega)
    have hqs : ∀ (i : Nat) (q : AV × Nat), qs'[i]? = some q → H2.n ≤ q.2 ∧ q.2 ≠ H4.n ∧ q.2 ≠ T' ∧ q.2 ∉ fpB B' rs' ∧ q.2 ∉ grB vo2 O' := fun i q hq => by
      obtain ⟨t, ht⟩ : ∃ t, (runC N w).threads[i]? = some t := ⟨_, List.getElem?_eq_getElem (by have := (List.getElem?_eq_some_iff.1 hq).1; omega)⟩
      have tmi := tm i t q ht hq
      have := tmi.gR.real (by omega)
      exact ⟨this.1, by have := tmi.d; omega, by have := tmi.d; omega, tmi.f.2.1, tmi.g.2.1⟩
    have hft : ∀ b ∈ fpO vt2 T' qs', H2.n ≤ b ∧ b ≠ H4.n ∧ b ∉ fpB B' rs' ∧ b ∉ grB vo2 O' := fun b hb => by
      rcases mem_fpO.1 hb with z | ⟨p, hp, z⟩
      · have := grB_sub z
        subst this
        exact ⟨gTn.1, by have := tm0.d; omega, tm0.f.1, tm0.g.1⟩
      · obtain ⟨i, hi, e⟩ := List.getElem_of_mem hp
        have := grB_sub z
        subst this
        obtain ⟨z1, z2, z3, z4, z5⟩ := hqs i p (by rw [List.getElem?_eq_getElem hi, e])
        exact ⟨z1, z2, z4, z5⟩
    have hfb : ∀ b ∈ fpO vb2 B' rs', H2.n ≤ b ∧ b ≠ H4.n ∧ b ∈ fpB B' rs' := fun b hb => by
      have h1 := tm0.rb.fp hb
      exact ⟨(tm0.rb.mem h1).1, fun e => tm0.f.2.2 (by rw [← e]; exact h1), h1⟩
    have hfo : ∀ b ∈ grB vo2 O', H2.n ≤ b ∧ b ≠ H4.n := fun b hb => ⟨by have := tm0.gO.mem hb; omega, fun e => tm0.g.2.2 (by rw [← e]; exact hb)⟩
    have eT : cellsT (runC N w).threads qs' = cellsG nestT (runC N w).threads qs' := cellsT_G
    refine k ⟨vc', vt2, vb2, vo2, Bc, rc, T', qs', B', rs', O'⟩ F ⟨?_, ⟨m1, ?_, fun i t q hi hq => ?_, fun i j p q hij hp hq b hbp hbq => ?_⟩, tm0.rb.ob.only oF (fun b hb hm => ?_), tm0.gO.os.only oF (fun b hb hm => ?_), fun b hb => ⟨fun hm => ?_, fun hm => ?_, fun hm => ?_⟩, fun b hb => ⟨fun hm => ?_, fun hm => ?_⟩, fun b hb hm => ?_⟩ (fun b hb => ?_) ⟨by omega, fun b hb => ?_⟩
    · rw [rc1]
      exact oc.same (by omega) (fun b hb => same2 b (hocl b hb).2 (by have := (hocl b hb).1; omega))
    · have := gT'.os
      rw [eT] at this
      exact this.only oF (fun b hb hm => by have := grB_sub hb; have := tm0.d; have := gTn.1; simp at hm; omega)
    · have tmi := tm i t q hi hq
      have hl := tmi.regs
      obtain ⟨z1, z2, z3, z4, z5⟩ := hqs i q hq
      have gg := tmi.gR.os
      rw [← hl] at gg
      exact ⟨gg.only oF (fun b hb hm => by have := grB_sub hb; simp at hm; omega), fun hm => by have e : T' = q.2 := grB_sub hm; omega⟩
    · have := grB_sub hbp
      have := grB_sub hbq
      exact dis i j p q hij hp hq (by omega)
    · obtain ⟨z1, z2, z3⟩ := hfb b hb
      simp at hm; omega
    · obtain ⟨z1, z2⟩ := hfo b hb
      simp at hm; omega
    · have := (hocl b hb).2; have := (hft b hm).1; omega
    · have := (hocl b hb).2; have := (hfb b hm).1; omega
    · have := (hocl b hb).2; have := (hfo b hm).1; omega
    · exact (hft b hb).2.2.1 (hfb b hm).2.2
    · exact (hft b hb).2.2.2 hm
    · exact tm0.fg b hm (hfb b hb).2.2
    · rcases KL.mem.1 hb with z | z | z | z
      · have := (hocl b z).1; omega
      · have := (hft b z).1; omega
      · have := (hfb b z).1; omega
      · have := (hfo b z).1; omega
    · rw [kF b (by omega) (by omega), fr' b (by omega), keep b (by omega)]
      exact (((y1.trans x2).trans x3).trans x4).2 b hb
end
end Go.Proofs.YtcibjklpaljadaaGreat.AM
namespace Go.Proofs.YtcibjklpaljadaaGreat.AM
set_option linter.unusedSimpArgs false
set_option linter.unusedVariables false
set_option maxRecDepth 100000
set_option maxHeartbeats 8000000
open Go
attribute [-simp] AM.elems
theorem runC_va (n : Nat) : ∀ {w : Cw}, vaCw w = true → vaCw (runC n w) = true ∧ (runC n w).out.length ≤ w.out.length + n := by
  induction n with
  | zero => intro w h; exact ⟨h, by simp [runC]⟩
  | succ n ih =>
    intro w h
    unfold runC
    split
    · rename_i hi
      obtain ⟨s1, s2, s3, s4, s5, p, s6, s7⟩ := stepC_keeps h hi
      obtain ⟨a, b⟩ := ih s1
      exact ⟨a, by rw [s6, List.length_append] at b; omega⟩
    · exact ⟨h, by omega⟩
theorem vaCw_sz {w : Cw} (h : vaCw w = true) : szK w ≤ 400000000 + w.out.length := by
  obtain ⟨v1, v2, v3, v4, v5⟩ := vaCw_iff.1 h
  obtain ⟨b3, bva, bit⟩ := vaBs_items v4
  have hcl : ∀ l ∈ w.codes, l.length ≤ 600 := fun l hl => by
    obtain ⟨i, hi⟩ := List.mem_iff_getElem?.1 hl
    obtain ⟨t, ht⟩ : ∃ t, w.threads[i]? = some t := ⟨_, List.getElem?_eq_getElem (by have := (List.getElem?_eq_some_iff.1 hi).1; omega)⟩
    exact (codeV_facts (vaTh_iff.1 (v5 i l t hi ht)).1).2.1
  have h12 : ∀ t ∈ w.threads, t.regs.length ≤ 12 := fun t ht => by
    obtain ⟨i, hi⟩ := List.mem_iff_getElem?.1 ht
    obtain ⟨l, hl⟩ : ∃ l, w.codes[i]? = some l := ⟨_, List.getElem?_eq_getElem (by have := (List.getElem?_eq_some_iff.1 hi).1; omega)⟩
    have := (thFit_iff.1 (vaTh_iff.1 (v5 i l t hl hi)).2.1).1
    omega
  have h1 := szC_le hcl
  have h2 := szT_le h12
  have h3 := szB_le bit
  have e1 := Nat.mul_le_mul_right (5 * 600) (show w.codes.length ≤ 3 by omega)
  have e2 := Nat.mul_le_mul_right (12 + 1) (show w.threads.length ≤ 3 by omega)
  have e3 := Nat.mul_le_mul_right (1 + 100000000) b3
  unfold szK
  omega
theorem runK_sz {w : Cw} {n : Int} (ho : w.out.length ≤ 1048576) : szK (runK n w).1 ≤ 1000000000 := by
  unfold runK
  split
  · rename_i h
    obtain ⟨a, b⟩ := runC_va n.toNat h.1
    have := vaCw_sz a
    simp only
    omega
  · simp [szK, szC, szT, szB]
theorem OCw.all {H L w} (h : OCw H L w) : CwC (fun _ => True) H (L.c w) w := h.cwc fun _ _ => trivial
theorem Only.fresh2 {bs H0 H H'} (k : Only bs H H') (h : Ext H0 H) (hb : ∀ b ∈ bs, H0.n ≤ b) : Ext H0 H' := ⟨Nat.le_trans h.1 k.1, fun b hbn => (k.2 b (Nat.lt_of_lt_of_le hbn h.1) (fun hm => by have := hb b hm; omega)).trans (h.2 b hbn)⟩
theorem store_push6x {H : AH} {c : List AV} (hc : c.length = 6) : (H.push [.nils, .nils, .nils, .I 0, .I 0, .nils]).store H.n 0 c = some (H.push c) := by
  rw [store_bk push_new (by simp [hc]), push_put]
  congr 1
  unfold splice
  simp [hc]
theorem seg6 {c : List AV} (hc : c.length = 6) : seg c 0 6 = some c := by unfold seg; rw [if_pos (by omega)]; simp [← hc]
theorem ld6 {H : AH} {b : Nat} {c : List AV} (h : H.bk b = some ⟨c, true⟩) (hc : c.length = 6) : H.loadN b 0 6 = some c := by rw [loadN_bk h]; exact seg6 hc
end Go.Proofs.YtcibjklpaljadaaGreat.AM
namespace Go.Proofs.YtcibjklpaljadaaGreat.AM
set_option linter.unusedSimpArgs false
set_option linter.unusedVariables false
set_option maxRecDepth 100000
set_option maxHeartbeats 8000000
open Go
attribute [-simp] AM.elems
section
variable {ok : Nat → Prop} {H : AH} {K : AV → AH → Prop} {wf : Fk K}
theorem K_sCrewStep {c : List AV} {w : Cw} (h : CwC ok H c w) (hol : w.out.length ≤ 40000000)
    (k : ∀ c' H', CwC (fun b => H.n ≤ b) H' c' (runK 1 w).1 → Ext H H' → K (.tup [.agg c', .b (runK 1 w).2]) H') : CallF Cd f_sCrewStep [.agg c] H K wf := by
  have hc6 : c.length = 6 := by obtain ⟨_, _, _, _, rfl, _⟩ := h; rfl
  rw [CallF_eq e_sCrewStep rfl]
  have x0 := (Ext.push H c).trans (Ext.push _ zK)
  have q0 : ((H.push c).push zK).bk H.n = some ⟨c, true⟩ := push_old (by simp) push_new
  have q1 : ((H.push c).push zK).bk (H.n + 1) = some ⟨zK, true⟩ := push_new (H := H.push c)
  simp [ld6 q0 hc6]
  refine K_sCrewRun (n := 1) (h.ext x0) hol fun c' H' cw x1 => ?_
  have hc6' : c'.length = 6 := by obtain ⟨_, _, _, _, rfl, _⟩ := cw; rfl
  have n1 := x1.1
  simp only [push_n] at n1 cw
  have p1 := (x1.2 (H.n + 1) (by simp)).trans q1
  have st := store_six p1 (l := c') rfl hc6'
  have l6 := ld6 (H := H'.put (H.n + 1) (some ⟨c', true⟩)) (b := H.n + 1) put_same hc6'
  simp [hc6', st, l6]
  exact k c' _ (cw.mono (by simp) (fun b hb _ => by rw [put_bk, if_neg (by omega)]) (fun b hb _ => by omega)) ((x0.trans x1).put (by omega))
theorem K_iCrewStepF {c : List AV} {w : Cw} (h : CwC ok H c w) (hbl : w.boxes.length ≤ 8589934592) (hol : w.out.length ≤ 70000000)
    (k : ∀ L H', OCw H' L (runK 1 w).1 → (∀ b ∈ L.fp, H.n ≤ b) → Ext H H' → K (.tup [.agg (L.c (runK 1 w).1), .b (runK 1 w).2]) H') : CallF Cd f_iCrewStep [.agg c] H K wf := by
  have hc6 : c.length = 6 := by obtain ⟨_, _, _, _, rfl, _⟩ := h; rfl
  rw [CallF_eq e_iCrewStep rfl]
  have x0 := (Ext.push H c).trans (Ext.push _ zK)
  have q0 : ((H.push c).push zK).bk H.n = some ⟨c, true⟩ := push_old (by simp) push_new
  have q1 : ((H.push c).push zK).bk (H.n + 1) = some ⟨zK, true⟩ := push_new (H := H.push c)
  simp [ld6 q0 hc6]
  refine K_iCrewRunF (n := 1) (h.ext x0) hbl hol fun L H' oc fp x1 => ?_
  have hc6' : (L.c (runK 1 w).1).length = 6 := rfl
  have n1 := x1.1
  simp only [push_n] at n1 fp
  have p1 := (x1.2 (H.n + 1) (by simp)).trans q1
  have st := store_six p1 (l := L.c (runK 1 w).1) rfl hc6'
  have l6 := ld6 (H := H'.put (H.n + 1) (some ⟨L.c (runK 1 w).1, true⟩)) (b := H.n + 1) put_same hc6'
  simp [hc6', st, l6]
  have on : Only [H.n + 1] H' (H'.put (H.n + 1) (some ⟨L.c (runK 1 w).1, true⟩)) := Only.refl.put (.inr (by simp))
  exact k L _ (oc.only on (fun b hb hm => by have := fp b hb; simp at hm; omega)) (fun b hb => by have := fp b hb; omega) ((x0.trans x1).put (by omega))
end
theorem law_FnExactCrewStep {H : AH} {c : List AV} {w : Cw} (h : ArgK H c w) : CallK Cd f_wFnExactCrewStep [.agg c] H fun v _ => v = .b true := by
  rw [CallK_F, CallF_eq e_wFnExactCrewStep rfl]
  have hc6 : c.length = 6 := by obtain ⟨_, _, _, _, rfl, _⟩ := h; rfl
  have L6 : ∀ (L : KL) (m : Cw), (L.c m).length = 6 := fun _ _ => rfl
  have x0 := Ext.push H c
  have q0 : (H.push c).bk H.n = some ⟨c, true⟩ := push_new
  simp [ld6 q0 hc6]
  refine K_wszCrew (h.ext x0) (fun H1 x1 => by simp) fun H1 r hr sm x1 => ?_
  have hr0 : ¬ r < 0 := by omega
  have y1 := x0.trans x1
  have q1 := (x1.2 H.n (by simp)).trans q0
  have n1 : H.n < H1.n := by have := x1.1; simp at this; omega
  have cw1 := (h.cwc sm).ext y1
  have so := sm.o1
  have sb := sm.b1
  have ssz := sm.sz
  simp [hr0, ld6 q1 hc6]
  refine K_wtoCrew cw1 fun La G1 oa fa x2 => ?_
  simp
  obtain ⟨T, hT⟩ : ∃ T, T = runK 1 w := ⟨_, rfl⟩
  have tsz := runK_sz (w := w) (n := 1) so
  rw [← hT] at tsz
  refine K_sCrewStep oa.all (by omega) fun cr G2 wr x3 => ?_
  rw [← hT] at wr ⊢
  have hcr6 : cr.length = 6 := by obtain ⟨_, _, _, _, rfl, _⟩ := wr; rfl
  have x4 := Ext.push G2 cr
  have y4 := (x2.trans x3).trans x4
  simp [hcr6, store_push6x hcr6]
  obtain ⟨Gw, hGw⟩ : ∃ Gw, Gw = G2.push cr := ⟨_, rfl⟩
  rw [← hGw] at x4 y4 ⊢
  have nw : Gw.n = G2.n + 1 := by rw [hGw]; simp
  have t6 : Gw.bk G2.n = some ⟨cr, true⟩ := by rw [hGw]; exact push_new
  have t2 : Gw.bk H.n = some ⟨c, true⟩ := (y4.2 _ n1).trans q1
  have WR := wr.ext x4
  have AG := cw1.ext y4
  have n2 : H.n < Gw.n := by have := y4.1; omega
  clear hGw oa fa x2 x3 x4 y4 wr q1 q0 cw1 y1 x1 x0
  simp [ld6 t2 hc6]
  refine K_wtoCrew AG fun Lx G3 ox fx x1 => ?_
  have x2 := Ext.push G3 (Lx.c w)
  have lx : ∀ b ∈ Lx.fp, b < G3.n := fun b hb => ox.lt hb
  have t8 : (G3.push (Lx.c w)).bk G3.n = some ⟨Lx.c w, true⟩ := push_new
  simp [L6, store_push6x (L6 Lx w), ld6 t8 (L6 Lx w)]
  refine K_iCrewStepF (ox.ext x2).all (by omega) (by omega) fun Lg G4 og fg x3 => ?_
  rw [← hT] at og ⊢
  have lg : ∀ b ∈ Lg.fp, b < G4.n := fun b hb => og.lt hb
  have x4 := Ext.push G4 (Lg.c T.1)
  have t9 : (G4.push (Lg.c T.1)).bk G4.n = some ⟨Lg.c T.1, true⟩ := push_new
  have n3 := x1.1
  have n4 := x3.1
  simp only [push_n] at n4 fg
  have X4 := ((x1.trans x2).trans x3).trans x4
  have u6 := (X4.2 _ (by omega)).trans t6
  have u8 := ((x3.trans x4).2 _ (by simp)).trans t8
  simp [L6, store_push6x (L6 Lg T.1), ld6 t9 (L6 Lg T.1), ld6 u6 hcr6]
  refine T_weqCrew (og.ext x4).all (WR.ext X4) fun E1 e1 => ?_
  have p8 := (e1.2 _ (by simp; omega)).trans u8
  have p2 := ((X4.trans e1).2 _ n2).trans t2
  simp [ld6 p8 (L6 Lx w), ld6 p2 hc6]
  refine K_wtoCrew ((AG.ext X4).ext e1) fun La E2 oa _ e2 => ?_
  have v8 : OCw E2 Lx w := ((ox.ext ((x2.trans x3).trans x4)).ext e1).ext e2
  simp [e2]
  refine T_weqCrew v8.all oa.all fun E3 e3 => ?_
  have z3 := (e1.trans e2).trans e3
  have p8 := (z3.2 _ (by simp; omega)).trans u8
  simp [e3, ld6 p8 (L6 Lx w)]
  refine K_wmarkCrew (v8.ext e3) (by omega) fun E4 _ w4 => ?_
  have hk : ¬ (1 : Int) + (szK w : Int) < 0 := by omega
  have n5 := z3.1
  simp only [push_n] at n5
  have wx : Only Lx.fp (G4.push (Lg.c T.1)) E4 := z3.only.trans w4
  have X5 : Ext Gw E4 := wx.fresh2 X4 fx
  have g4 : OCw E4 Lg T.1 := (og.ext x4).only wx (fun b hb hm => by have := fg b hb; have := lx b hm; omega)
  have p9 := wx.bk (by simp) (fun hm => by have := lx _ hm; omega) t9
  have p6 := (X5.2 _ (by omega)).trans t6
  have n6 := w4.1
  simp [hk, ld6 p9 (L6 Lg T.1), ld6 p6 hcr6]
  refine T_weqCrew g4.all (WR.ext X5) fun E5 e5 => ?_
  have n7 := e5.1
  have p9 := (e5.2 _ (by omega)).trans p9
  simp [ld6 p9 (L6 Lg T.1)]
  refine K_wmarkCrew (g4.ext e5) (by omega) fun E6 g6 w6 => ?_
  have n8 := w6.1
  have X6 : Ext Gw E6 := w6.fresh2 (X5.trans e5) (fun b hb => by have := fg b hb; omega)
  have p9 := w6.bk (by omega) (fun hm => by have := lg _ hm; omega) p9
  simp [ld6 p9 (L6 Lg T.1)]
  refine K_wheldCrew g6 (by omega) fun E7 e7 => ?_
  have hk2 : ¬ (1 : Int) + (szK T.1 : Int) < 0 := by omega
  have X7 := X6.trans e7
  have n9 := e7.1
  have p2 := (X7.2 _ n2).trans t2
  simp [hk2, ld6 p2 hc6]
  refine K_wtoCrew (AG.ext X7) fun Lb E8 ob _ e8 => ?_
  simp
  refine K_iCrewStepF ob.all (by omega) (by omega) fun Lh E9 oh _ e9 => ?_
  rw [← hT] at oh ⊢
  have e10 := Ext.push E9 (Lh.c T.1)
  have z10 := (e8.trans e9).trans e10
  have X8 := X7.trans z10
  have p6 := (X8.2 _ (by omega)).trans t6
  have t14 : (E9.push (Lh.c T.1)).bk E9.n = some ⟨Lh.c T.1, true⟩ := push_new
  simp [L6, store_push6x (L6 Lh T.1), ld6 t14 (L6 Lh T.1), ld6 p6 hcr6]
  refine T_weqCrew (oh.ext e10).all (WR.ext X8) fun E11 e11 => ?_
  have zz := (e7.trans z10).trans e11
  have p9 := (zz.2 _ (by omega)).trans p9
  simp [ld6 p9 (L6 Lg T.1)]
  refine K_wheldCrew (g6.ext zz) (by omega) fun E12 e12 => ?_
  simp [hk2]
end Go.Proofs.YtcibjklpaljadaaGreat.AM
namespace Go.Proofs.YtcibjklpaljadaaGreat.AM
set_option linter.unusedSimpArgs false
set_option linter.unusedVariables false
set_option maxRecDepth 100000
set_option maxHeartbeats 4000000
open Go Go.RowKit
attribute [-simp] AM.elems
structure CRow where
  a : Option Addr
  len : Nat
  cap : Nat
  L : List Qd
def CRow.q (r : CRow) : List Qd := r.L.take r.len
def IsCs (w : World) (a : Option Addr) (len cap : Nat) (L : List CRow) : Prop :=
  (a = none ∧ len = 0 ∧ cap = 0 ∧ L = []) ∨ ∃ x, a = some x ∧ len ≤ cap ∧ cap ≤ maxLen ∧ L.length = cap ∧ ∀ (i : Nat) r, L[i]? = some r → w.cell? (x.add i) = some (.slice r.a r.len r.cap) ∧ IsQ w r.a r.len r.cap r.L
def codeCells : Nat → List CRow → List AV
  | _, [] => []
  | n, r :: L => rowV n r.a r.len r.cap :: codeCells (n + 1) L
theorem codeCells_len : ∀ {L : List CRow} {n : Nat}, (codeCells n L).length = L.length
  | [], _ => rfl
  | r :: L, n => by simp [codeCells, codeCells_len (L := L)]
theorem codeCells_get : ∀ {L : List CRow} {n i : Nat} {c : AV}, (codeCells n L)[i]? = some c → ∃ r, L[i]? = some r ∧ c = rowV (n + i) r.a r.len r.cap
  | [], n, i, c, h => by simp [codeCells] at h
  | r :: L, n, 0, c, h => by simp [codeCells] at h; exact ⟨r, rfl, h.symm⟩
  | r :: L, n, i + 1, c, h => by
    have h' : (codeCells (n + 1) L)[i]? = some c := by simpa [codeCells] using h
    obtain ⟨r', g1, g2⟩ := codeCells_get h'
    exact ⟨r', by simpa using g1, by rw [g2, Nat.add_assoc, Nat.add_comm 1]⟩
theorem isCs_rec {w : World} {bs : Bs} {a len cap} {L : List CRow} {j0 : Nat} (h : IsCs w a len cap L) (hit : ∀ (i : Nat) r, L[i]? = some r → bs[j0 + i]? = some (recB r.a (qCs r.L))) : IsRec w (rho0 w.heap.size bs) a len cap 1 (codeCells (w.heap.size + j0) L) := by
  rcases h with ⟨rfl, rfl, rfl, rfl⟩ | ⟨x, rfl, h1, h2, h3, h4⟩
  · exact .inl ⟨rfl, rfl, rfl, rfl⟩
  · refine .inr ⟨x, rfl, h1, h2, by rw [codeCells_len, h3, Nat.mul_one], fun i c hc => ?_⟩
    obtain ⟨r, g1, rfl⟩ := codeCells_get hc
    obtain ⟨q1, q2⟩ := h4 _ r g1
    refine ⟨rowV_flat, _, q1, ?_⟩
    have := rec_v (bs := bs) (isQ_rec (ρ := rho0 w.heap.size bs) q2) (by omega) (hit _ r g1)
    rwa [← Nat.add_assoc] at this
theorem codeCells_LF {H : AH} : ∀ {L : List CRow} {n : Nat}, (∀ (i : Nat) r, L[i]? = some r → ArgQ H (rowV (n + i) r.a r.len r.cap) r.q) → LF 1 (fun c (x : List Qd) => ∃ u, c = [u] ∧ ArgQ H u x) (L.map CRow.q) (codeCells n L)
  | [], _, _ => rfl
  | r :: L, n, h => ⟨[rowV n r.a r.len r.cap], codeCells (n + 1) L, rfl, rfl, ⟨_, rfl, h 0 r rfl⟩, codeCells_LF fun i r' hr => by
    have := h (i + 1) r' (by simpa using hr)
    rwa [show n + (i + 1) = n + 1 + i by omega] at this⟩
theorem isCs_arg {w : World} {bs : Bs} {a len cap} {L : List CRow} {j0 j : Nat} (h : IsCs w a len cap L) (hit : ∀ (i : Nat) r, L[i]? = some r → bs[j0 + i]? = some (recB r.a (qCs r.L))) (hj : bs[j]? = some (recB a (codeCells (w.heap.size + j0) L))) : ArgC (heap0 w.heap.size bs) (rowV (w.heap.size + j) a len cap) ((L.map CRow.q).take len) := by
  have hr := isCs_rec h hit
  have hl : ((L.map CRow.q).take len).length = len := by
    rw [List.length_take, List.length_map]
    rcases h with ⟨rfl, rfl, rfl, rfl⟩ | ⟨x, rfl, h1, h2, h3, _⟩
    · rfl
    · omega
  obtain ⟨a1, a2⟩ := rec_alen (b := w.heap.size + j) hr
  refine ⟨by rw [hl]; exact a1, by omega, rowV_flat, fun hle => ?_⟩
  have hs := rec_sees hr hj (by omega)
  refine ⟨_, by rw [hl]; exact hs, ?_⟩
  refine LF.take (codeCells_LF fun i r hri => ?_) len
  have hir : IsQ w r.a r.len r.cap r.L := by
    rcases h with ⟨rfl, rfl, rfl, rfl⟩ | ⟨x, rfl, h1, h2, h3, h4⟩
    · simp at hri
    · exact (h4 i r hri).2
  have := isQ_arg hir (hit i r hri)
  rwa [← Nat.add_assoc] at this
structure TRow where
  pc : Int
  a : Option Addr
  len : Nat
  cap : Nat
  zs : List Int
def TRow.t (r : TRow) : Th := ⟨r.zs.take r.len, r.pc⟩
def IsTs (w : World) (a : Option Addr) (len cap : Nat) (L : List TRow) : Prop :=
  (a = none ∧ len = 0 ∧ cap = 0 ∧ L = []) ∨ ∃ x, a = some x ∧ len ≤ cap ∧ cap ≤ maxLen ∧ L.length = cap ∧ ∀ (i : Nat) r, L[i]? = some r → w.cell? (x.add (i * 2)) = some (.slice r.a r.len r.cap) ∧ w.cell? (x.add (i * 2 + 1)) = some (.int .i64 r.pc) ∧ IsRow .i64 w r.a r.len r.cap r.zs
def thrCells : Nat → List TRow → List AV
  | _, [] => []
  | n, r :: L => rowV n r.a r.len r.cap :: .I r.pc :: thrCells (n + 1) L
theorem thrCells_len : ∀ {L : List TRow} {n : Nat}, (thrCells n L).length = L.length * 2
  | [], _ => rfl
  | r :: L, n => by simp [thrCells, thrCells_len (L := L)]; omega
theorem thrCells_get : ∀ {L : List TRow} {n i : Nat} {c : AV}, (thrCells n L)[i]? = some c → ∃ r, L[i / 2]? = some r ∧ ((i % 2 = 0 ∧ c = rowV (n + i / 2) r.a r.len r.cap) ∨ (i % 2 = 1 ∧ c = .I r.pc))
  | [], n, i, c, h => by simp [thrCells] at h
  | r :: L, n, 0, c, h => by simp [thrCells] at h; exact ⟨r, rfl, .inl ⟨rfl, h.symm⟩⟩
  | r :: L, n, 1, c, h => by simp [thrCells] at h; exact ⟨r, rfl, .inr ⟨rfl, h.symm⟩⟩
  | r :: L, n, i + 2, c, h => by
    have h' : (thrCells (n + 1) L)[i]? = some c := by simpa [thrCells] using h
    obtain ⟨r', g1, g2⟩ := thrCells_get h'
    have e1 : (i + 2) / 2 = i / 2 + 1 := by omega
    have e2 : (i + 2) % 2 = i % 2 := by omega
    rw [e1, e2]
    refine ⟨r', g1, ?_⟩
    rcases g2 with ⟨g2, g3⟩ | g2
    · exact .inl ⟨g2, by rw [g3, Nat.add_assoc, Nat.add_comm 1]⟩
    · exact .inr g2
theorem isTs_rec {w : World} {bs : Bs} {a len cap} {L : List TRow} {j0 : Nat} (h : IsTs w a len cap L) (hit : ∀ (i : Nat) r, L[i]? = some r → bs[j0 + i]? = some (recB r.a (Ints r.zs))) : IsRec w (rho0 w.heap.size bs) a len cap 2 (thrCells (w.heap.size + j0) L) := by
  rcases h with ⟨rfl, rfl, rfl, rfl⟩ | ⟨x, rfl, h1, h2, h3, h4⟩
  · exact .inl ⟨rfl, rfl, rfl, rfl⟩
  · refine .inr ⟨x, rfl, h1, h2, by rw [thrCells_len, h3], fun i c hc => ?_⟩
    obtain ⟨r, g1, ⟨g2, rfl⟩ | ⟨g2, rfl⟩⟩ := thrCells_get hc
    · obtain ⟨q0, _, q2⟩ := h4 _ r g1
      rw [show i / 2 * 2 = i by omega] at q0
      refine ⟨rowV_flat, _, q0, ?_⟩
      have := rec_v (bs := bs) (row_rec (ρ := rho0 w.heap.size bs) q2) (by omega) (hit _ r g1)
      rwa [← Nat.add_assoc] at this
    · obtain ⟨_, q1, _⟩ := h4 _ r g1
      rw [show i / 2 * 2 + 1 = i by omega] at q1
      exact ⟨rfl, _, q1, .i _ _⟩
theorem thrCells_LF {H : AH} : ∀ {L : List TRow} {n : Nat}, (∀ (i : Nat) r, L[i]? = some r → ArgI H (rowV (n + i) r.a r.len r.cap) r.t.regs) → LF 2 (fun c (x : Th) => ∃ u, c = [u, .I x.pc] ∧ ArgI H u x.regs) (L.map TRow.t) (thrCells n L)
  | [], _, _ => rfl
  | r :: L, n, h => ⟨[rowV n r.a r.len r.cap, .I r.pc], thrCells (n + 1) L, rfl, rfl, ⟨_, rfl, h 0 r rfl⟩, thrCells_LF fun i r' hr => by
    have := h (i + 1) r' (by simpa using hr)
    rwa [show n + (i + 1) = n + 1 + i by omega] at this⟩
theorem isTs_arg {w : World} {bs : Bs} {a len cap} {L : List TRow} {j0 j : Nat} (h : IsTs w a len cap L) (hit : ∀ (i : Nat) r, L[i]? = some r → bs[j0 + i]? = some (recB r.a (Ints r.zs))) (hj : bs[j]? = some (recB a (thrCells (w.heap.size + j0) L))) : ArgT (heap0 w.heap.size bs) (rowV (w.heap.size + j) a len cap) ((L.map TRow.t).take len) := by
  have hr := isTs_rec h hit
  have hl : ((L.map TRow.t).take len).length = len := by
    rw [List.length_take, List.length_map]
    rcases h with ⟨rfl, rfl, rfl, rfl⟩ | ⟨x, rfl, h1, h2, h3, _⟩
    · rfl
    · omega
  obtain ⟨a1, a2⟩ := rec_alen (b := w.heap.size + j) hr
  refine ⟨by rw [hl]; exact a1, by omega, rowV_flat, fun hle => ?_⟩
  have hs := rec_sees hr hj (by omega)
  refine ⟨_, by rw [hl]; exact hs, ?_⟩
  refine LF.take (thrCells_LF fun i r hri => ?_) len
  have hir : IsRow .i64 w r.a r.len r.cap r.zs := by
    rcases h with ⟨rfl, rfl, rfl, rfl⟩ | ⟨x, rfl, h1, h2, h3, h4⟩
    · simp at hri
    · exact (h4 i r hri).2.2
  have := row_argI hir (hit i r hri)
  rwa [← Nat.add_assoc] at this
theorem crew_lift {P : Program} {C : FuncId → Option AFn} {f : FuncId} (hC : Fits P 0 C) (hmix : P.follows .mixedOrders = true) {w : World} {ac lc cc} {RC : List CRow} (hc : IsCs w ac lc cc RC) {at_ lt ct} {RT : List TRow} (ht : IsTs w at_ lt ct RT) {ab lb cb} {RBs : List BRow} (hb : IsBs w ab lb cb RBs) {turn idle : Int} {ao lo co zs} (ho : IsRow .i64 w ao lo co zs)
    {more : List AV} {cmore : List Value} (hm : ∀ ρ, VRs ρ more cmore)
    (K : ∀ H c m, ArgK H c m → CallK C f (.agg c :: more) H fun v _ => v = .b true) :
    Calls P f (.agg #[.slice ac lc cc, .slice at_ lt ct, .slice ab lb cb, .int .i64 turn, .int .i64 idle, .slice ao lo co] :: cmore).toArray w fun e w' => e = .returned (.bool true) ∧ Below w.heap.size w w' := by
  obtain ⟨bs, hbs⟩ : ∃ bs : Bs, bs = [recB ac (codeCells (w.heap.size + 4) RC), recB at_ (thrCells (w.heap.size + (4 + RC.length)) RT), recB ab (boxCells (w.heap.size + (4 + RC.length + RT.length)) RBs), recB ao (Ints zs)] ++ (RC.map (fun r => recB r.a (qCs r.L)) ++ (RT.map (fun r => recB r.a (Ints r.zs)) ++ itemsB RBs)) := ⟨_, rfl⟩
  have j0 : bs[0]? = some (recB ac (codeCells (w.heap.size + 4) RC)) := by rw [hbs]; rfl
  have j1 : bs[1]? = some (recB at_ (thrCells (w.heap.size + (4 + RC.length)) RT)) := by rw [hbs]; rfl
  have j2 : bs[2]? = some (recB ab (boxCells (w.heap.size + (4 + RC.length + RT.length)) RBs)) := by rw [hbs]; rfl
  have j3 : bs[3]? = some (recB ao (Ints zs)) := by rw [hbs]; rfl
  have hitC : ∀ (i : Nat) r, RC[i]? = some r → bs[4 + i]? = some (recB r.a (qCs r.L)) := fun i r h => by
    have hi := (List.getElem?_eq_some_iff.1 h).1
    rw [hbs, List.getElem?_append_right (by simp), List.getElem?_append_left (by simp; omega), List.getElem?_map]
    simp [h]
  have hitT : ∀ (i : Nat) r, RT[i]? = some r → bs[4 + RC.length + i]? = some (recB r.a (Ints r.zs)) := fun i r h => by
    have hi := (List.getElem?_eq_some_iff.1 h).1
    rw [hbs, List.getElem?_append_right (by simp; omega), List.getElem?_append_right (by simp; omega), List.getElem?_append_left (by simp; omega), List.getElem?_map]
    simp only [List.length_cons, List.length_nil, List.length_map]
    rw [show 4 + RC.length + i - (0 + 1 + 1 + 1 + 1) - RC.length = i by omega, h]; rfl
  have hitB : ∀ (i : Nat) r, RBs[i]? = some r → bs[4 + RC.length + RT.length + i]? = some (recB r.a (Ints r.zs)) := fun i r h => by
    rw [hbs, List.getElem?_append_right (by simp; omega), List.getElem?_append_right (by simp; omega), List.getElem?_append_right (by simp; omega), itemsB, List.getElem?_map]
    simp only [List.length_cons, List.length_nil, List.length_map]
    rw [show 4 + RC.length + RT.length + i - (0 + 1 + 1 + 1 + 1) - RC.length - RT.length = i by omega, h]; rfl
  have hirC : ∀ r ∈ RC, IsQ w r.a r.len r.cap r.L := fun r hm => by
    obtain ⟨i, hi, e⟩ := List.getElem_of_mem hm
    rcases hc with ⟨rfl, rfl, rfl, rfl⟩ | ⟨x, rfl, h1, h2, h3, h4⟩
    · simp at hm
    · exact (h4 i r (by rw [List.getElem?_eq_getElem hi, e])).2
  have hirT : ∀ r ∈ RT, IsRow .i64 w r.a r.len r.cap r.zs := fun r hm => by
    obtain ⟨i, hi, e⟩ := List.getElem_of_mem hm
    rcases ht with ⟨rfl, rfl, rfl, rfl⟩ | ⟨x, rfl, h1, h2, h3, h4⟩
    · simp at hm
    · exact (h4 i r (by rw [List.getElem?_eq_getElem hi, e])).2.2
  have hirB : ∀ r ∈ RBs, IsRow .i64 w r.a r.len r.cap r.zs := fun r hm => by
    obtain ⟨i, hi, e⟩ := List.getElem_of_mem hm
    rcases hb with ⟨rfl, rfl, rfl, rfl⟩ | ⟨x, rfl, h1, h2, h3, h4⟩
    · simp at hm
    · exact (h4 i r (by rw [List.getElem?_eq_getElem hi, e])).2.2
  have hv : VR (rho0 w.heap.size bs) (.agg [rowV (w.heap.size + 0) ac lc cc, rowV (w.heap.size + 1) at_ lt ct, rowV (w.heap.size + 2) ab lb cb, .I turn, .I idle, rowV (w.heap.size + 3) ao lo co]) (.agg #[.slice ac lc cc, .slice at_ lt ct, .slice ab lb cb, .int .i64 turn, .int .i64 idle, .slice ao lo co]) := by
    have q := VRs.cons (rec_v (isCs_rec hc hitC) (by omega) j0) (VRs.cons (rec_v (isTs_rec ht hitT) (by omega) j1) (VRs.cons (rec_v (isBs_rec hb hitB) (by omega) j2) (VRs.cons (.i .i64 turn) (VRs.cons (.i .i64 idle) (VRs.cons (rec_v (row_rec (ρ := rho0 w.heap.size bs) ho) (by omega) j3) (VRs.nil _))))))
    exact .agg (by simp only [List.all_cons, List.all_nil, rowV_flat]; rfl) (by simp) q.2
  refine lift (bs := bs) hC hmix (Nat.zero_le _) (fun r hmm => ?_) (VRs.cons hv (hm _)) (K _ _ ⟨(RC.map CRow.q).take lc, (RT.map TRow.t).take lt, (RBs.map BRow.box).take lb, turn, idle, zs.take lo⟩ ⟨_, _, _, _, rfl, isCs_arg hc hitC j0, isTs_arg ht hitT j1, isBs_arg hb hitB j2, row_argI ho j3⟩)
  rw [hbs] at hmm
  rcases List.mem_append.1 hmm with hmm | hmm
  · simp only [List.mem_cons, List.not_mem_nil, or_false] at hmm
    rcases hmm with rfl | rfl | rfl | rfl
    · exact rec_lies (isCs_rec hc hitC)
    · exact rec_lies (isTs_rec ht hitT)
    · exact rec_lies (isBs_rec hb hitB)
    · exact rec_lies (row_rec ho)
  rcases List.mem_append.1 hmm with hmm | hmm
  · obtain ⟨r', hr', rfl⟩ := List.mem_map.1 hmm
    exact rec_lies (isQ_rec (hirC r' hr'))
  rcases List.mem_append.1 hmm with hmm | hmm
  · obtain ⟨r', hr', rfl⟩ := List.mem_map.1 hmm
    exact rec_lies (row_rec (hirT r' hr'))
  · obtain ⟨r', hr', rfl⟩ := List.mem_map.1 hmm
    exact rec_lies (row_rec (hirB r' hr'))
end Go.Proofs.YtcibjklpaljadaaGreat.AM
namespace Go.Proofs.YtcibjklpaljadaaGreat.AM
set_option linter.unusedSimpArgs false
set_option linter.unusedVariables false
set_option maxRecDepth 100000
open Go Go.RowKit Go.ChangeShapes Go.WideShapes Go.ChangeAt Go.Joins Go.Deep
section
variable {D0 : Type} {enc : TypeId × Value → D0} {P : Program} {w : World} {base : Nat} {held : Bool}
instance : Inhabited CRow := ⟨⟨none, 0, 0, []⟩⟩
instance : Inhabited TRow := ⟨⟨0, none, 0, 0, []⟩⟩
theorem open_codes {tt t e ti : TypeId} {f0 f1 f2 f3 f4 : Field} {fuel : Nat} {u : Value} {x : DataW D0 × List MemPlace} (htt : P.underlying tt = some (.slice t)) (ct : P.cellsOf t = 1) (ht : P.underlying t = some (.slice e)) (he : P.underlying e = some (.struct #[f0, f1, f2, f3, f4])) (hi : P.underlying ti = some (.int .i64))
    (ce : P.cellsOf e = 5) (ci : P.cellsOf ti = 1) (t0 : f0.type = ti ∧ f0.offset = 0) (t1 : f1.type = ti ∧ f1.offset = 1) (t2 : f2.type = ti ∧ f2.offset = 2) (t3 : f3.type = ti ∧ f3.offset = 3) (t4 : f4.type = ti ∧ f4.offset = 4)
    (h : DataW.trod enc P w base (fun _ => true) held fuel tt [u] = some x) : ∃ a len cap L, u = .slice a len cap ∧ IsCs w a len cap L := by
  rcases open_slice1 htt ct h with ⟨hcs, _⟩ | ⟨a, len, cap, m, n, V, D, Pl, hcs, hb, hl, hm, hmm, _, hx⟩
  · simp only [List.cons.injEq, and_true] at hcs
    exact ⟨none, 0, 0, [], hcs, .inl ⟨rfl, rfl, rfl, rfl⟩⟩
  · simp only [List.cons.injEq, and_true] at hcs
    simp only [if_true] at hmm
    subst hmm
    have each : ∀ i, i < m → ∃ r : CRow, w.cell? (a.add i) = some (.slice r.a r.len r.cap) ∧ IsQ w r.a r.len r.cap r.L := by
      intro i hi'
      obtain ⟨h1, h2⟩ := hx i hi'
      obtain ⟨a', l', c', L, e1, hq⟩ := open_quads ht he hi ce ci t0 t1 t2 t3 t4 h2
      exact ⟨⟨a', l', c', L⟩, by rw [h1, e1], hq⟩
    obtain ⟨q, hq⟩ := choose_lt each
    refine ⟨some a, len, m, (List.range m).map q, hcs, .inr ⟨a, rfl, hl, hm, by simp, fun i r hi' => ?_⟩⟩
    have hlt := (List.getElem?_eq_some_iff.1 hi').1
    simp at hlt
    rw [List.getElem?_map, List.getElem?_range hlt] at hi'
    simp at hi'
    subst hi'
    exact hq i hlt
theorem open_threads {t e ti ts : TypeId} {f0 f1 : Field} {fuel : Nat} {u : Value} {x : DataW D0 × List MemPlace} (ht : P.underlying t = some (.slice e)) (he : P.underlying e = some (.struct #[f0, f1])) (hi : P.underlying ti = some (.int .i64)) (hs : P.underlying ts = some (.slice ti))
    (ce : P.cellsOf e = 2) (ci : P.cellsOf ti = 1) (cs : P.cellsOf ts = 1) (t0 : f0.type = ts ∧ f0.offset = 0) (t1 : f1.type = ti ∧ f1.offset = 1)
    (h : DataW.trod enc P w base (fun _ => true) held fuel t [u] = some x) : ∃ a len cap L, u = .slice a len cap ∧ IsTs w a len cap L := by
  rcases open_slice_pairs ht he ce t0.2 t1.2 (by rw [t0.1]; exact cs) (by rw [t1.1]; exact ci) h with ⟨hcs, _⟩ | ⟨a, len, cap, m, n, V0, V1, D0, D1, P0, P1, hcs, hb, hl, hm, hmm, _, hx⟩
  · simp only [List.cons.injEq, and_true] at hcs
    exact ⟨none, 0, 0, [], hcs, .inl ⟨rfl, rfl, rfl, rfl⟩⟩
  · simp only [List.cons.injEq, and_true] at hcs
    simp only [if_true] at hmm
    subst hmm
    have each : ∀ i, i < m → ∃ r : TRow, w.cell? (a.add (i * 2)) = some (.slice r.a r.len r.cap) ∧ w.cell? (a.add (i * 2 + 1)) = some (.int .i64 r.pc) ∧ IsRow .i64 w r.a r.len r.cap r.zs := by
      intro i hi'
      obtain ⟨h1, h2, h3, h4⟩ := hx i hi'
      rw [t0.1] at h3
      rw [t1.1] at h4
      obtain ⟨z, e0, _⟩ := DataW.trod_int hi h4
      simp only [List.cons.injEq, and_true] at e0
      obtain ⟨a', l', c', zs, e1, hr⟩ := open_row hs hi ci h3
      exact ⟨⟨z, a', l', c', zs⟩, by rw [h1, e1], by rw [h2, e0], hr⟩
    obtain ⟨q, hq⟩ := choose_lt each
    refine ⟨some a, len, m, (List.range m).map q, hcs, .inr ⟨a, rfl, hl, hm, by simp, fun i r hi' => ?_⟩⟩
    have hlt := (List.getElem?_eq_some_iff.1 hi').1
    simp at hlt
    rw [List.getElem?_map, List.getElem?_range hlt] at hi'
    simp at hi'
    subst hi'
    exact hq i hlt
theorem open_six {r : Reach} {b0 : Nat} {t : TypeId} {f0 f1 f2 f3 f4 f5 : Field} {v : Value} {d : DataW D0} {p : List MemPlace} (hs : P.underlying t = some (.struct #[f0, f1, f2, f3, f4, f5])) (hC : P.cellsOf t = 6)
    (o0 : f0.offset = 0 ∧ P.cellsOf f0.type = 1) (o1 : f1.offset = 1 ∧ P.cellsOf f1.type = 1) (o2 : f2.offset = 2 ∧ P.cellsOf f2.type = 1) (o3 : f3.offset = 3 ∧ P.cellsOf f3.type = 1) (o4 : f4.offset = 4 ∧ P.cellsOf f4.type = 1) (o5 : f5.offset = 5 ∧ P.cellsOf f5.type = 1)
    (hv : Value.okWide P w r b0 t v) (h : DataW.Trod enc P w base (fun _ => true) held t v d p) :
    ∃ (v0 v1 v2 v3 v4 v5 : Value) (y0 y1 y2 y3 y4 y5 : DataW D0 × List MemPlace) (n : Nat), v = .agg #[v0, v1, v2, v3, v4, v5] ∧
      DataW.trod enc P w base (fun _ => true) held n f0.type [v0] = some y0 ∧ DataW.trod enc P w base (fun _ => true) held n f1.type [v1] = some y1 ∧ DataW.trod enc P w base (fun _ => true) held n f2.type [v2] = some y2 ∧
      DataW.trod enc P w base (fun _ => true) held n f3.type [v3] = some y3 ∧ DataW.trod enc P w base (fun _ => true) held n f4.type [v4] = some y4 ∧ DataW.trod enc P w base (fun _ => true) held n f5.type [v5] = some y5 := by
  obtain ⟨cs, rfl, hsz⟩ := okWide_struct hs hv
  have h6 := hsz.trans hC
  obtain ⟨cl⟩ := cs
  match cl, h6 with
  | [c0, c1, c2, c3, c4, c5], _ =>
    obtain ⟨fuel, hf⟩ := h
    obtain ⟨xs, n, _, _, _, hxl, hg⟩ := DataW.trod_struct hs hf
    match xs, hxl with
    | [y0, y1, y2, y3, y4, y5], _ =>
      have g0 := hg 0 f0 rfl
      have g1 := hg 1 f1 rfl
      have g2 := hg 2 f2 rfl
      have g3 := hg 3 f3 rfl
      have g4 := hg 4 f4 rfl
      have g5 := hg 5 f5 rfl
      simp [Value.cells, o0.1, o0.2] at g0
      simp [Value.cells, o1.1, o1.2] at g1
      simp [Value.cells, o2.1, o2.2] at g2
      simp [Value.cells, o3.1, o3.2] at g3
      simp [Value.cells, o4.1, o4.2] at g4
      simp [Value.cells, o5.1, o5.2] at g5
      exact ⟨c0, c1, c2, c3, c4, c5, y0, y1, y2, y3, y4, y5, n, rfl, g0, g1, g2, g3, g4, g5⟩
end
end Go.Proofs.YtcibjklpaljadaaGreat.AM
