/-
  The abstract machine and its walks, merged by program out of smaller texts (part 5). No condition.
-/
import Derived.Test.YtmecbehegmgbhaaGreatYM4
namespace Go.Proofs.YtmecbehegmgbhaaGreat.AM
set_option linter.unusedSimpArgs false
set_option linter.unusedVariables false
set_option maxRecDepth 100000
set_option maxHeartbeats 2000000
open Go
attribute [-simp] AM.elems
theorem T_wsameLists_l {o1 o2 : Nat → Prop} {H : AH} {va vb : AV} {l : List (List Int)} {Q : Out → Env → AH → Prop} (h1 : LIV o1 H va l) (h2 : LIV o2 H vb l) (hQ : ∀ e, Q (.brk 0) e H) (m i : Nat) (hm : i + m = l.length) :
    W Cd (.loop c_wsameLists_l0) [(0, va), (1, vb), (5, .I i)] H Q := by
  have hbig : l.length ≤ 8589934592 := h1.choose_spec.1.1
  induction m generalizing i with
  | zero =>
    rw [W_loop_as c_wsameLists_l0.eq_1]
    have : i = l.length := by omega
    subst this
    simp [h1.alen]
    exact hQ _
  | succ m ih =>
    rw [W_loop_as c_wsameLists_l0.eq_1]
    have hlt : i < l.length := by omega
    have hlt' : (i : Int) < l.length := by omega
    obtain ⟨e, he⟩ : ∃ e, l[i]? = some e := ⟨_, List.getElem?_eq_getElem hlt⟩
    obtain ⟨b, o, cap, u, e1, hb, l1, i1⟩ := h1.at he
    obtain ⟨b2, o2, cap2, u2, e2, hb2, l2, i2⟩ := h2.at he
    have := ih (i + 1) (by omega)
    subst e1 e2
    simp (disch := omega) [hlt', l1, l2]
    refine T_wsameInts i1.sees i2.sees ?_
    simp (disch := omega) [Ext.refl]
    simpa using this
theorem T_wsameLists {o1 o2 : Nat → Prop} {H : AH} {K : AV → AH → Prop} {w : Fk K} {va vb : AV} {l : List (List Int)} (h1 : LIV o1 H va l) (h2 : LIV o2 H vb l) (k : K (.b true) H) : CallF Cd f_wsameLists [va, vb] H K w := by
  rw [CallF_eq e_wsameLists rfl]
  simp [h1.alen, h2.alen]
  have := T_wsameLists_l h1 h2 (Q := ?_) ?_ l.length 0 (by omega)
  · simpa using this
  · intro e; simpa using k
theorem T_wsameFlags_l {o1 o2 : Nat → Prop} {H : AH} {va vb : AV} {l : List Bool} {Q : Out → Env → AH → Prop} (h1 : FlV o1 H va l) (h2 : FlV o2 H vb l) (hQ : ∀ e, Q (.brk 0) e H) (m i : Nat) (hm : i + m = l.length) :
    W Cd (.loop c_wsameFlags_l0) [(0, va), (1, vb), (5, .I i)] H Q := by
  have hbig : l.length ≤ 8589934592 := h1.1
  induction m generalizing i with
  | zero =>
    rw [W_loop_as c_wsameFlags_l0.eq_1]
    have : i = l.length := by omega
    subst this
    simp [h1.alen]
    exact hQ _
  | succ m ih =>
    rw [W_loop_as c_wsameFlags_l0.eq_1]
    have hlt : i < l.length := by omega
    have hlt' : (i : Int) < l.length := by omega
    obtain ⟨e, he⟩ : ∃ e, l[i]? = some e := ⟨_, List.getElem?_eq_getElem hlt⟩
    obtain ⟨b, o, cap, e1, hb, l1⟩ := h1.at he
    obtain ⟨b2, o2, cap2, e2, hb2, l2⟩ := h2.at he
    have := ih (i + 1) (by omega)
    subst e1 e2
    simp (disch := omega) [hlt', l1, l2]
    simpa using this
theorem T_wsameFlags {o1 o2 : Nat → Prop} {H : AH} {K : AV → AH → Prop} {w : Fk K} {va vb : AV} {l : List Bool} (h1 : FlV o1 H va l) (h2 : FlV o2 H vb l) (k : K (.b true) H) : CallF Cd f_wsameFlags [va, vb] H K w := by
  rw [CallF_eq e_wsameFlags rfl]
  simp [h1.alen, h2.alen]
  have := T_wsameFlags_l h1 h2 (Q := ?_) ?_ l.length 0 (by omega)
  · simpa using this
  · intro e; simpa using k
theorem T_wsameOutcome {o1 o2 : Nat → Prop} {H : AH} {K : AV → AH → Prop} {w : Fk K} {c1 c2 : List AV} {o : Oc} (h1 : OC o1 H c1 o) (h2 : OC o2 H c2 o) (k : ∀ H', Ext H H' → K (.b true) H') : CallF Cd f_wsameOutcome [.agg c1, .agg c2] H K w := by
  obtain ⟨a1, a2, a3, rfl, i1, i2, i3⟩ := h1
  obtain ⟨b1, b2, b3, rfl, j1, j2, j3⟩ := h2
  rw [CallF_eq e_wsameOutcome rfl]
  have x1 := (Ext.push H [a1, a2, a3, .b o.rest]).trans (Ext.push _ [b1, b2, b3, .b o.rest])
  have q1 : ((H.push [a1, a2, a3, .b o.rest]).push [b1, b2, b3, .b o.rest]).bk H.n = some ⟨[a1, a2, a3, .b o.rest], true⟩ := push_old (by simp) push_new
  have q2 : ((H.push [a1, a2, a3, .b o.rest]).push [b1, b2, b3, .b o.rest]).bk (H.n + 1) = some ⟨[b1, b2, b3, .b o.rest], true⟩ := push_new (H := H.push [a1, a2, a3, .b o.rest])
  simp [load_bk q1, load_bk q2]
  refine T_wsameInts (i1.ext x1).sees (j1.ext x1).sees ?_
  simp [load_bk q1, load_bk q2]
  refine T_wsameLists (i2.ext x1) (j2.ext x1) ?_
  simp [load_bk q1, load_bk q2]
  refine T_wsameFlags (i3.ext x1) (j3.ext x1) ?_
  simp [load_bk q1, load_bk q2]
  exact k _ x1
end Go.Proofs.YtmecbehegmgbhaaGreat.AM
namespace Go.Proofs.YtmecbehegmgbhaaGreat.AM
set_option linter.unusedSimpArgs false
set_option linter.unusedVariables false
set_option maxRecDepth 100000
set_option maxHeartbeats 1000000
open Go
attribute [-simp] AM.elems
structure Qd where
  op : Int
  dst : Int
  a : Int
  b : Int
  n : Int
deriving DecidableEq, Inhabited
def qC (q : Qd) : List AV := [.I q.op, .I q.dst, .I q.a, .I q.b, .I q.n]
def qCs (l : List Qd) : List AV := l.flatMap qC
theorem qCs_len {l : List Qd} : (qCs l).length = l.length * 5 := by
  induction l with
  | nil => rfl
  | cons a l ih =>
    have : qCs (a :: l) = qC a ++ qCs l := by simp [qCs]
    rw [this, List.length_append, ih, List.length_cons]
    simp [qC]; omega
theorem qCs_app {a b : List Qd} : qCs (a ++ b) = qCs a ++ qCs b := by simp [qCs]
def QV (ok : Nat → Prop) (H : AH) (v : AV) (l : List Qd) : Prop := SlC ok H v l.length 5 (qCs l)
theorem QV.mono {ok ok' : Nat → Prop} {H H' v l} (h : QV ok H v l) (hn : H.n ≤ H'.n) (hk : ∀ b, ok b → b < H.n → H'.bk b = H.bk b) (ho : ∀ b, ok b → b < H.n → ok' b) : QV ok' H' v l := SlC.mono h hn hk ho
theorem QV.ext {ok H H' v l} (h : QV ok H v l) (k : Ext H H') : QV ok H' v l := h.mono k.1 (fun b _ hb => k.2 b hb) (fun _ h _ => h)
theorem QV.alen {ok H v l} (h : QV ok H v l) : alen v = some l.length := SlC.alen h
theorem QV.flat {ok H v l} (h : QV ok H v l) : v.flat = true := SlC.flat h
theorem QV.big {ok H v l} (h : QV ok H v l) : l.length ≤ 8589934592 := h.1
theorem QV.elems {ok H v l} (h : QV ok H v l) : AM.elems H 5 v = some (qCs l) := SlC.elems h
theorem seg_qCs : ∀ {l : List Qd} {i : Nat} {e : Qd}, l[i]? = some e → seg (qCs l) (i * 5) 5 = some (qC e)
  | [], i, e, h => by simp at h
  | x :: l, 0, e, h => by
    simp at h; subst h
    unfold seg
    rw [if_pos (by rw [qCs_len]; simp; omega)]
    simp [qCs, qC]
  | x :: l, i + 1, e, h => by
    have := seg_qCs (l := l) (i := i) (e := e) (by simpa using h)
    rw [← this]
    have e1 : qCs (x :: l) = qC x ++ qCs l := by simp [qCs]
    have e2 : (i + 1) * 5 = (qC x).length + i * 5 := by simp [qC]; omega
    unfold seg
    rw [e1, e2, ← List.drop_drop, List.drop_left]
    simp only [List.length_append]
    by_cases hq : i * 5 + 5 ≤ (qCs l).length
    · rw [if_pos (by omega), if_pos hq]
    · rw [if_neg (by omega), if_neg hq]
theorem QV.at {ok H v l} (h : QV ok H v l) {i : Nat} {e : Qd} (hi : l[i]? = some e) : ∃ b o cap, v = .sl b o l.length cap ∧ ok b ∧ b < H.n ∧ H.loadN b (o + i * 5) 5 = some (qC e) := by
  have hl := (List.getElem?_eq_some_iff.1 hi).1
  obtain ⟨b, o, cap, e1, ob, hb, hs⟩ := SlC.at h hl
  exact ⟨b, o, cap, e1, ob, hb, by rw [hs _ _ (by omega)]; exact seg_qCs hi⟩
def reg (r : Int) : Bool := decide (0 ≤ r ∧ r < 12)
def quV (many : Int) (q : Qd) : Bool :=
  if q.op = 1 then decide (q.a = 0 ∧ q.b = 0) && reg q.dst && isW q.n
  else if q.op = 2 then decide (q.b = 0 ∧ q.n = 0) && reg q.dst && reg q.a
  else if q.op = 3 then reg q.dst && reg q.a && reg q.b && decide (1 ≤ q.n ∧ q.n ≤ 12)
  else if q.op = 4 then decide (q.dst = 0 ∧ q.a = 0 ∧ q.b = 0) && decide (0 ≤ q.n ∧ q.n < many)
  else if q.op = 5 then decide (q.dst = 0 ∧ q.b = 0) && reg q.a && decide (0 ≤ q.n ∧ q.n < many)
  else if q.op = 6 then decide (q.dst = 0 ∧ q.b = 0) && reg q.a && decide (0 ≤ q.n ∧ q.n < 3)
  else if q.op = 7 then decide (q.a = 0 ∧ q.b = 0) && reg q.dst && decide (0 ≤ q.n ∧ q.n < 3)
  else if q.op = 9 then decide (q.dst = 0 ∧ q.b = 0 ∧ q.n = 0) && reg q.a
  else if q.op = 8 ∨ q.op = 10 then decide (q.dst = 0 ∧ q.a = 0 ∧ q.b = 0 ∧ q.n = 0)
  else false
theorem em0 (a : Int) : (a = 0 ∧ (1 : Int) + 1 = 2) ∨ ¬ a = 0 := by omega
section
variable {H : AH} {K : AV → AH → Prop} {w : Fk K}
theorem K_iisReg {r : Int} : CallF Cd f_iisReg [.I r] H K w = K (.b (reg r)) H := by
  rw [CallF_eq e_iisReg rfl]
  unfold reg
  by_cases h : 0 ≤ r
  · simp [h]
  · simp [h]
theorem K_iQuadValid {q : Qd} {many : Int} (k : ∀ H', Ext H H' → K (.b (quV many q)) H') : CallF Cd f_iQuadValid [.agg (qC q), .I many] H K w := by
  rw [CallF_eq e_iQuadValid rfl]
  obtain ⟨op, dst, a, b, n⟩ := q
  have x1 := Ext.push H [.I op, .I dst, .I a, .I b, .I n]
  have q1 : (H.push [.I op, .I dst, .I a, .I b, .I n]).bk H.n = some ⟨[.I op, .I dst, .I a, .I b, .I n], true⟩ := push_new
  have kk := k _ x1
  have fin : ∀ x : Bool, x = quV many ⟨op, dst, a, b, n⟩ → K (.b x) (H.push [.I op, .I dst, .I a, .I b, .I n]) := fun x hx => by rw [hx]; exact kk
  clear kk k
  unfold quV at fin
  simp only at fin
  by_cases o1' : op = 1
  · rw [o1'] at q1 fin ⊢
    rcases em0 a with ⟨rfl, h0⟩ | h0 <;> rcases em0 b with ⟨rfl, h1⟩ | h1 <;> cases g0 : reg dst <;> cases g1 : isW n <;> (simp [qC, load_bk q1, loadN_bk q1, K_iisReg, K_iWordValid, K_iOpValid, eqInts, h0, h1, g0, g1]; refine fin _ ?_; simp [h0, h1, g0, g1])
  by_cases o2' : op = 2
  · rw [o2'] at q1 fin ⊢
    rcases em0 b with ⟨rfl, h0⟩ | h0 <;> rcases em0 n with ⟨rfl, h1⟩ | h1 <;> cases g0 : reg dst <;> cases g1 : reg a <;> (simp [qC, load_bk q1, loadN_bk q1, K_iisReg, K_iWordValid, K_iOpValid, eqInts, h0, h1, g0, g1]; refine fin _ ?_; simp [h0, h1, g0, g1])
  by_cases o3' : op = 3
  · rw [o3'] at q1 fin ⊢
    cases g0 : reg dst <;> cases g1 : reg a <;> cases g2 : reg b <;> (simp [qC, load_bk q1, loadN_bk q1, K_iisReg, K_iWordValid, K_iOpValid, eqInts, g0, g1, g2]; refine fin _ ?_; simp [g0, g1, g2])
  by_cases o4' : op = 4
  · rw [o4'] at q1 fin ⊢
    rcases em0 dst with ⟨rfl, h0⟩ | h0 <;> rcases em0 a with ⟨rfl, h1⟩ | h1 <;> rcases em0 b with ⟨rfl, h2⟩ | h2 <;> by_cases h3 : 0 ≤ n <;> (simp [qC, load_bk q1, loadN_bk q1, K_iisReg, K_iWordValid, K_iOpValid, eqInts, h0, h1, h2, h3]; refine fin _ ?_; simp [h0, h1, h2, h3])
  by_cases o5' : op = 5
  · rw [o5'] at q1 fin ⊢
    rcases em0 dst with ⟨rfl, h0⟩ | h0 <;> rcases em0 b with ⟨rfl, h1⟩ | h1 <;> by_cases h2 : 0 ≤ n <;> cases g0 : reg a <;> (simp [qC, load_bk q1, loadN_bk q1, K_iisReg, K_iWordValid, K_iOpValid, eqInts, h0, h1, h2, g0]; refine fin _ ?_; simp [h0, h1, h2, g0])
  by_cases o6' : op = 6
  · rw [o6'] at q1 fin ⊢
    rcases em0 dst with ⟨rfl, h0⟩ | h0 <;> rcases em0 b with ⟨rfl, h1⟩ | h1 <;> by_cases h2 : 0 ≤ n <;> cases g0 : reg a <;> (simp [qC, load_bk q1, loadN_bk q1, K_iisReg, K_iWordValid, K_iOpValid, eqInts, h0, h1, h2, g0]; refine fin _ ?_; simp [h0, h1, h2, g0])
  by_cases o7' : op = 7
  · rw [o7'] at q1 fin ⊢
    rcases em0 a with ⟨rfl, h0⟩ | h0 <;> rcases em0 b with ⟨rfl, h1⟩ | h1 <;> by_cases h2 : 0 ≤ n <;> cases g0 : reg dst <;> (simp [qC, load_bk q1, loadN_bk q1, K_iisReg, K_iWordValid, K_iOpValid, eqInts, h0, h1, h2, g0]; refine fin _ ?_; simp [h0, h1, h2, g0])
  by_cases o9' : op = 9
  · rw [o9'] at q1 fin ⊢
    rcases em0 dst with ⟨rfl, h0⟩ | h0 <;> rcases em0 b with ⟨rfl, h1⟩ | h1 <;> rcases em0 n with ⟨rfl, h2⟩ | h2 <;> cases g0 : reg a <;> (simp [qC, load_bk q1, loadN_bk q1, K_iisReg, K_iWordValid, K_iOpValid, eqInts, h0, h1, h2, g0]; refine fin _ ?_; simp [h0, h1, h2, g0])
  by_cases o8' : op = 8
  · rw [o8'] at q1 fin ⊢
    rcases em0 dst with ⟨rfl, h0⟩ | h0 <;> rcases em0 a with ⟨rfl, h1⟩ | h1 <;> rcases em0 b with ⟨rfl, h2⟩ | h2 <;> rcases em0 n with ⟨rfl, h3⟩ | h3 <;> (simp [qC, load_bk q1, loadN_bk q1, K_iisReg, K_iWordValid, K_iOpValid, eqInts, h0, h1, h2, h3]; refine fin _ ?_; simp [h0, h1, h2, h3])
  by_cases o10' : op = 10
  · rw [o10'] at q1 fin ⊢
    rcases em0 dst with ⟨rfl, h0⟩ | h0 <;> rcases em0 a with ⟨rfl, h1⟩ | h1 <;> rcases em0 b with ⟨rfl, h2⟩ | h2 <;> rcases em0 n with ⟨rfl, h3⟩ | h3 <;> (simp [qC, load_bk q1, loadN_bk q1, K_iisReg, K_iWordValid, K_iOpValid, eqInts, h0, h1, h2, h3]; refine fin _ ?_; simp [h0, h1, h2, h3])
  simp [qC, load_bk q1, loadN_bk q1, K_iisReg, o1', o2', o3', o4', o5', o6', o7', o8', o9', o10']
  refine fin _ ?_
  simp [o1', o2', o3', o4', o5', o6', o7', o8', o9', o10']
end
end Go.Proofs.YtmecbehegmgbhaaGreat.AM
namespace Go.Proofs.YtmecbehegmgbhaaGreat.AM
set_option linter.unusedSimpArgs false
set_option linter.unusedVariables false
set_option maxRecDepth 100000
set_option maxHeartbeats 1000000
open Go
attribute [-simp] AM.elems
def lastOp (l : List Qd) : Bool := match l.getLast? with | none => false | some q => decide (q.op = 10 ∨ q.op = 4)
def codeV (l : List Qd) : Bool := decide (1 ≤ l.length ∧ l.length ≤ 600) && l.all (quV l.length) && lastOp l
section
variable {ok : Nat → Prop} {H : AH} {K : AV → AH → Prop} {w : Fk K} {v : AV} {l : List Qd}
theorem K_iCodeValid_l {Q : Out → Env → AH → Prop} (h2 : ∀ e H, Q .ret e H = bindO (get e 2) fun v => K v H)
    (m i : Nat) (hm : i + m = l.length) (h : QV ok H v l) (hall : ∀ j < i, ∀ q, l[j]? = some q → quV l.length q = true) (hl : l.length ≤ 600)
    (hbad : l.all (quV l.length) = false → ∀ H', Ext H H' → K (.b false) H')
    (hQ : l.all (quV l.length) = true → ∀ e H', Ext H H' → get e 0 = some v → Q (.brk 0) e H') :
    W Cd (.loop c_iCodeValid_l0) [(0, v), (14, v), (15, .I l.length), (16, .I i)] H Q := by
  induction m generalizing i H with
  | zero =>
    rw [W_loop_as c_iCodeValid_l0.eq_1]
    have : i = l.length := by omega
    subst this
    simp
    refine hQ ?_ _ H (Ext.refl _) rfl
    rw [List.all_eq_true]
    intro q hq
    obtain ⟨j, hj⟩ := List.mem_iff_getElem?.1 hq
    exact hall j (List.getElem?_eq_some_iff.1 hj).1 q hj
  | succ m ih =>
    rw [W_loop_as c_iCodeValid_l0.eq_1]
    have hlt : i < l.length := by omega
    have hlt' : (i : Int) < l.length := by omega
    obtain ⟨q, hq⟩ : ∃ q, l[i]? = some q := ⟨_, List.getElem?_eq_getElem hlt⟩
    obtain ⟨b, o, cap, e1, ob, hbn, l1⟩ := h.at hq
    have h0 := h
    subst e1
    have st : (H.push [.I 0, .I 0, .I 0, .I 0, .I 0]).store H.n 0 (qC q) = some (H.push (qC q)) := by
      rw [store_bk push_new (by simp [qC]), push_put]; rfl
    have q1 : (H.push (qC q)).loadN H.n 0 5 = some (qC q) := by rw [loadN_bk push_new]; rfl
    have x1 := Ext.push H (qC q)
    have e5 : (qC q).length = 5 := rfl
    simp (disch := omega) [hlt', l1, st, q1, h.alen, e5]
    refine K_iQuadValid fun H2 x2 => ?_
    cases hv : quV l.length q with
    | false =>
      simp [h2]
      exact hbad (List.all_eq_false.2 ⟨q, List.mem_of_getElem? hq, by rw [hv]; simp⟩) _ (x1.trans x2)
    | true =>
      simp (disch := omega)
      have := ih (i + 1) (by omega) (H := H2) (h0.ext (x1.trans x2)) (fun j hj q' hq' => by
        by_cases hji : j = i
        · subst hji; rw [hq] at hq'; cases hq'; exact hv
        · exact hall j (by omega) q' hq') (fun hb H' x => hbad hb H' ((x1.trans x2).trans x)) (fun hb e H' x he => hQ hb e H' ((x1.trans x2).trans x) he)
      simpa using this
theorem K_iCodeValid (h : QV ok H v l) (k : ∀ H', Ext H H' → K (.b (codeV l)) H') : CallF Cd f_iCodeValid [v] H K w := by
  rw [CallF_eq e_iCodeValid rfl]
  have hbig := h.big
  by_cases c1 : l.length < 1
  · have c1' : (l.length : Int) < 1 := by omega
    have e : codeV l = false := by unfold codeV; rw [decide_eq_false (by omega)]; rfl
    have := k H (Ext.refl _)
    rw [e] at this
    simp [h.alen, c1']
    exact this
  by_cases c2 : 600 < l.length
  · have c1' : ¬ (l.length : Int) < 1 := by omega
    have c2' : (600 : Int) < l.length := by omega
    have e : codeV l = false := by unfold codeV; rw [decide_eq_false (by omega)]; rfl
    have := k H (Ext.refl _)
    rw [e] at this
    simp [h.alen, c1', c2']
    exact this
  have c1' : ¬ (l.length : Int) < 1 := by omega
  have c2' : ¬ (600 : Int) < l.length := by omega
  simp [h.alen, c1', c2']
  have := K_iCodeValid_l (K := K) (v := v) (l := l) (ok := ok) (Q := ?_) ?_ l.length 0 (by omega) h (fun j hj => by omega) (by omega) (fun hb H' x => by
    have := k H' x
    unfold codeV at this
    rw [hb] at this
    simpa using this) ?_
  · simpa using this
  · intro e G; simp
  · intro hb e G x he
    obtain ⟨q, hq⟩ : ∃ q, l[l.length - 1]? = some q := ⟨_, List.getElem?_eq_getElem (by omega)⟩
    have hlast : l.getLast? = some q := by rw [List.getLast?_eq_getElem?]; exact hq
    have hG := h.ext x
    obtain ⟨b, o, cap, e1, ob, hbn, l1⟩ := hG.at hq
    have ha := hG.alen
    have kk := k G x
    have e2 : codeV l = decide (q.op = 10 ∨ q.op = 4) := by
      unfold codeV lastOp
      rw [hb, hlast, decide_eq_true (by omega)]; rfl
    rw [e2] at kk
    have l0 : G.load b (o + (l.length - 1) * 5) = some (.I q.op) := by simpa [qC] using loadN_get l1 (i := 0) (by omega)
    have et : ((l.length : Int) - 1).toNat = l.length - 1 := by omega
    have c3 : (0 : Int) ≤ (l.length : Int) - 1 := by omega
    have c4 : (l.length : Int) - 1 < l.length := by omega
    subst e1
    simp (disch := omega) [he, ha, et, l0]
    by_cases c10 : q.op = 10
    · simp [c10] at kk ⊢; exact kk
    · simp [c10] at kk ⊢; exact kk
structure Th where
  regs : List Int
  pc : Int
deriving DecidableEq, Inhabited
def thFit (t : Th) (many : Nat) : Bool := decide (t.regs.length = 12) && t.regs.all isW && decide (0 ≤ t.pc ∧ t.pc < many)
def ThC (ok : Nat → Prop) (H : AH) (c : List AV) (t : Th) : Prop := ∃ vr, c = [vr, .I t.pc] ∧ IV ok H vr t.regs
theorem ThC.mono {ok ok' : Nat → Prop} {H H' c t} (h : ThC ok H c t) (hn : H.n ≤ H'.n) (hk : ∀ b, ok b → b < H.n → H'.bk b = H.bk b) (ho : ∀ b, ok b → b < H.n → ok' b) : ThC ok' H' c t := by
  obtain ⟨v, e, h⟩ := h; exact ⟨v, e, h.mono hn hk ho⟩
theorem ThC.ext {ok H H' c t} (h : ThC ok H c t) (k : Ext H H') : ThC ok H' c t := h.mono k.1 (fun b _ hb => k.2 b hb) (fun _ h _ => h)
theorem K_ithreadFits {o2 : Nat → Prop} {c : List AV} {t : Th} (h : ThC o2 H c t) (hv : QV ok H v l) (k : ∀ H', Ext H H' → K (.b (thFit t l.length)) H') : CallF Cd f_ithreadFits [.agg c, v] H K w := by
  obtain ⟨vr, rfl, i1⟩ := h
  rw [CallF_eq e_ithreadFits rfl]
  have x1 := Ext.push H [vr, .I t.pc]
  have q1 : (H.push [vr, .I t.pc]).bk H.n = some ⟨[vr, .I t.pc], true⟩ := push_new
  have kk := k _ x1
  unfold thFit at kk
  have i2 := i1.ext x1
  by_cases c1 : t.regs.length = 12
  · have c1' : (t.regs.length : Int) = 12 := by omega
    have ha : alen vr = some 12 := by rw [SlC.alen i1, c1]
    have ew : ∀ (K' : AV → AH → Prop) (w' : Fk K'), CallF Cd f_iareWords [vr] (H.push [vr, .I t.pc]) K' w' = K' (.b (t.regs.all isW)) (H.push [vr, .I t.pc]) := fun K' w' => K_iareWords i2.sees
    generalize t.regs.all isW = r at kk ew
    cases r with
    | false =>
      simp [load_bk q1, ha, ew]
      simpa using kk
    | true =>
      by_cases c3 : 0 ≤ t.pc
      · simp [load_bk q1, ha, ew, c3, hv.alen]
        simpa [c1, c3] using kk
      · simp [load_bk q1, ha, ew, c3]
        simpa [c1, c3] using kk
  · have c1' : ¬ (t.regs.length : Int) = 12 := by omega
    simp [load_bk q1, SlC.alen i1, c1']
    simpa [c1] using kk
theorem K_iThreadValid {o2 : Nat → Prop} {c : List AV} {t : Th} (h : ThC o2 H c t) (hv : QV ok H v l) (k : ∀ H', Ext H H' → K (.b (codeV l && thFit t l.length)) H') : CallF Cd f_iThreadValid [.agg c, v] H K w := by
  have h' := h
  obtain ⟨vr, rfl, i1⟩ := h'
  rw [CallF_eq e_iThreadValid rfl]
  have x1 := Ext.push H [vr, .I t.pc]
  have q1 : (H.push [vr, .I t.pc]).bk H.n = some ⟨[vr, .I t.pc], true⟩ := push_new
  simp
  refine K_iCodeValid (hv.ext x1) fun H2 x2 => ?_
  have q2 := (x2.2 H.n (by simp)).trans q1
  cases c1 : codeV l with
  | false =>
    simp
    have := k _ (x1.trans x2)
    rw [c1] at this
    simpa using this
  | true =>
    have w2 : H2.loadN H.n 0 2 = some [vr, .I t.pc] := by rw [loadN_bk q2]; rfl
    simp [w2]
    refine K_ithreadFits (h.ext (x1.trans x2)) (hv.ext (x1.trans x2)) fun H3 x3 => ?_
    simp
    have := k _ ((x1.trans x2).trans x3)
    rw [c1] at this
    simpa using this
def boxQ (many : Int) (q : Qd) : Bool := decide (q.op = 6 ∨ q.op = 7 → q.n < many)
theorem K_iboxThere {q : Qd} {many : Int} (k : ∀ H', Ext H H' → K (.b (boxQ many q)) H') : CallF Cd f_iboxThere [.agg (qC q), .I many] H K w := by
  rw [CallF_eq e_iboxThere rfl]
  obtain ⟨op, dst, a, b, n⟩ := q
  have x1 := Ext.push H [.I op, .I dst, .I a, .I b, .I n]
  have q1 : (H.push [.I op, .I dst, .I a, .I b, .I n]).bk H.n = some ⟨[.I op, .I dst, .I a, .I b, .I n], true⟩ := push_new
  have kk := k _ x1
  unfold boxQ at kk
  by_cases o6 : op = 6
  · rw [o6] at q1 kk ⊢
    simp [qC, load_bk q1]
    simpa using kk
  · by_cases o7 : op = 7
    · rw [o7] at q1 kk ⊢
      simp [qC, load_bk q1]
      simpa using kk
    · simp [qC, load_bk q1, o6, o7]
      simpa [o6, o7] using kk
end
end Go.Proofs.YtmecbehegmgbhaaGreat.AM
namespace Go.Proofs.YtmecbehegmgbhaaGreat.AM
set_option linter.unusedSimpArgs false
set_option linter.unusedVariables false
set_option maxRecDepth 100000
set_option maxHeartbeats 2000000
open Go
attribute [-simp] AM.elems
theorem seg_len {cs : List AV} {o n : Nat} {x : List AV} (h : seg cs o n = some x) : o + n ≤ cs.length := by
  unfold seg at h; split at h
  · assumption
  · cases h
theorem seg_splice1 {cs : List AV} {o : Nat} {a x y : AV} (h : seg cs o 2 = some [a, x]) : seg (splice cs (o + 1) [y]) o 2 = some [a, y] := by
  have hl := seg_len h
  have ha : cs[o]? = some a := by
    unfold seg at h; rw [if_pos hl] at h
    have := congrArg (fun l => l[0]?) (Option.some.inj h)
    simpa using this
  rw [splice_set (by omega)]
  unfold seg
  rw [if_pos (by simp; omega)]
  congr 1
  apply List.ext_getElem?
  intro i
  rcases i with _ | _ | i
  · simp [List.getElem?_drop, List.getElem?_set, ha]
  · simp [List.getElem?_drop, List.getElem?_set, show o + 1 < cs.length by omega]
  · simp; omega
theorem splice_id {cs : List AV} {i : Nat} {a : AV} (h : cs[i]? = some a) : splice cs i [a] = cs := by
  have hl := (List.getElem?_eq_some_iff.1 h).1
  rw [splice_set hl, set_same h]
theorem seg_one {cs : List AV} {o : Nat} {a x : AV} (h : seg cs o 2 = some [a, x]) : cs[o]? = some a ∧ cs[o + 1]? = some x := by
  have hl := seg_len h
  unfold seg at h; rw [if_pos hl] at h
  have h0 := congrArg (fun l => l[0]?) (Option.some.inj h)
  have h1 := congrArg (fun l => l[1]?) (Option.some.inj h)
  constructor
  · simpa using h0
  · simpa using h1
structure TM (base : Nat) (H : AH) (T o R P po B : Nat) (cT cP : List AV) (vr vb vo : AV) (rs : List (AV × Nat)) (O : Nat) (t : Th) (bs : List Bx) (out : List Int) : Prop where
  bT : H.bk T = some ⟨cT, true⟩
  sT : seg cT o 2 = some [vr, .I t.pc]
  nT : T < H.n
  gR : GrS base H vr 12 1 (Ints t.regs) R
  rb : RB base H vb bs B rs
  bP : H.bk P = some ⟨cP, true⟩
  sP : cP[po]? = some vo
  nP : P < H.n
  gO : GrS base H vo out.length 1 (Ints out) O
  hb : base ≤ H.n
  d : T ≠ R ∧ T ≠ P ∧ R ≠ P
  f : T ∉ fpB B rs ∧ R ∉ fpB B rs ∧ P ∉ fpB B rs
  g : T ∉ grB vo O ∧ R ∉ grB vo O ∧ P ∉ grB vo O
  fg : ∀ b ∈ grB vo O, b ∉ fpB B rs
section
variable {base : Nat} {H H' : AH} {T o R P po B : Nat} {cT cP : List AV} {vr vb vo : AV} {rs : List (AV × Nat)} {O : Nat} {t : Th} {bs : List Bx} {out : List Int}
theorem TM.regs (h : TM base H T o R P po B cT cP vr vb vo rs O t bs out) : t.regs.length = 12 := by
  have := h.gR.2.1
  rw [Ints_len] at this; omega
theorem TM.vr_eq (h : TM base H T o R P po B cT cP vr vb vo rs O t bs out) : ∃ cap, vr = .sl R 0 12 cap ∧ R < H.n ∧ base ≤ R ∧ ∀ r : Int, 0 ≤ r → r < 12 → H.load R r.toNat = some (.I ((t.regs[r.toNat]?).getD 0)) := by
  have hl := h.regs
  obtain ⟨_, _, ⟨_, h0⟩ | ⟨h1, h2, ⟨e, h3⟩ | ⟨c, ex, e, h4, h5, h6⟩⟩⟩ := h.gR
  · omega
  · refine ⟨_, e, h2, h1, fun r r0 r1 => ?_⟩
    rw [load_bk h3]
    have : r.toNat < t.regs.length := by omega
    simp [Ints, this]
  · refine ⟨_, e, h2, h1, fun r r0 r1 => ?_⟩
    rw [load_bk h6, List.getElem?_append_left (by rw [Ints_len]; omega)]
    have : r.toNat < t.regs.length := by omega
    simp [Ints, this]
theorem TM.only {ds : List Nat} (h : TM base H T o R P po B cT cP vr vb vo rs O t bs out) (k : Only ds H H') (hd : ∀ b ∈ ds, b ≠ T ∧ b ≠ R ∧ b ≠ P ∧ b ∉ fpB B rs ∧ b ∉ grB vo O) : TM base H' T o R P po B cT cP vr vb vo rs O t bs out :=
  { h with
    bT := k.bk h.nT (fun hm => (hd T hm).1 rfl) h.bT
    nT := Nat.lt_of_lt_of_le h.nT k.1
    gR := h.gR.only k (fun b hb => .inr (hd b hb).2.1)
    rb := h.rb.onlyA k (fun b hb => .inr (hd b hb).2.2.2.1)
    bP := k.bk h.nP (fun hm => (hd P hm).2.2.1 rfl) h.bP
    nP := Nat.lt_of_lt_of_le h.nP k.1
    gO := h.gO.onlyB k (fun b hb => (hd b hb).2.2.2.2)
    hb := Nat.le_trans h.hb k.1 }
theorem TM.ext (h : TM base H T o R P po B cT cP vr vb vo rs O t bs out) (k : Ext H H') : TM base H' T o R P po B cT cP vr vb vo rs O t bs out := h.only (ds := []) k.only (by simp)
theorem TM.ldr (h : TM base H T o R P po B cT cP vr vb vo rs O t bs out) : H.load T o = some vr := by rw [load_bk h.bT]; exact (seg_one h.sT).1
theorem TM.ldp (h : TM base H T o R P po B cT cP vr vb vo rs O t bs out) : H.load T (o + 1) = some (.I t.pc) := by rw [load_bk h.bT]; exact (seg_one h.sT).2
theorem TM.ldo (h : TM base H T o R P po B cT cP vr vb vo rs O t bs out) : H.load P po = some vo := by rw [load_bk h.bP]; exact h.sP
theorem TM.setPc (h : TM base H T o R P po B cT cP vr vb vo rs O t bs out) (pc' : Int) :
    ∃ H', H.store T (o + 1) [.I pc'] = some H' ∧ TM base H' T o R P po B (splice cT (o + 1) [.I pc']) cP vr vb vo rs O ⟨t.regs, pc'⟩ bs out ∧ Only [T] H H' := by
  have hl := seg_len h.sT
  have oo : Only [T] H (H.put T (some ⟨splice cT (o + 1) [.I pc'], true⟩)) := Only.refl.put (by simp)
  refine ⟨_, store_bk h.bT (by simp; omega), ?_, oo⟩
  have hd := h.d
  exact { h with
    bT := put_same
    sT := seg_splice1 h.sT
    nT := by simpa using h.nT
    gR := h.gR.only oo (by simp; exact .inr hd.1)
    rb := h.rb.onlyA oo (by simp; exact .inr h.f.1)
    bP := oo.bk h.nP (by simp; exact fun e => hd.2.1 e.symm) h.bP
    nP := by simpa using h.nP
    gO := h.gO.onlyB oo (by simp; exact h.g.1)
    hb := by simpa using h.hb }
theorem TM.setReg (h : TM base H T o R P po B cT cP vr vb vo rs O t bs out) {d : Int} (hd : 0 ≤ d ∧ d < 12) (x : Int) :
    ∃ cap H', vr = .sl R 0 12 cap ∧ H.store R d.toNat [.I x] = some H' ∧ TM base H' T o R P po B cT cP vr vb vo rs O ⟨t.regs.set d.toNat x, t.pc⟩ bs out ∧ Only [R] H H' := by
  have hl := h.regs
  obtain ⟨cap, H', e, st, s3, oo, s5, s6⟩ := h.gR.store (i := d.toNat) (c := [.I x]) (by omega) rfl
  rw [Nat.mul_one] at st s3
  rw [Ints_set (by omega)] at s3
  have hdd := h.d
  refine ⟨cap, H', e, st, { h with bT := oo.bk h.nT (by simp; exact hdd.1) h.bT, sT := h.sT, nT := Nat.lt_of_lt_of_le h.nT oo.1, gR := s3, rb := h.rb.onlyA oo (by simp; exact .inr h.f.2.1), bP := oo.bk h.nP (by simp; exact fun e => hdd.2.2 e.symm) h.bP, nP := Nat.lt_of_lt_of_le h.nP oo.1, gO := h.gO.onlyB oo (by simp; exact h.g.2.1), hb := Nat.le_trans h.hb oo.1 }, oo⟩
end
def rg (t : Th) (r : Int) : Int := (t.regs[r.toNat]?).getD 0
def stepQ (q : Qd) (t : Th) (bs : List Bx) : Th × List Bx × List Int × Int :=
  if q.op = 1 then (⟨t.regs.set q.dst.toNat q.n, t.pc + 1⟩, bs, [], 1)
  else if q.op = 2 then (⟨t.regs.set q.dst.toNat (rg t q.a), t.pc + 1⟩, bs, [], 1)
  else if q.op = 3 then (⟨t.regs.set q.dst.toNat (applyM q.n (rg t q.a) (rg t q.b)), t.pc + 1⟩, bs, [], 1)
  else if q.op = 4 then (⟨t.regs, q.n⟩, bs, [], 1)
  else if q.op = 5 then (⟨t.regs, if rg t q.a = 0 then q.n else t.pc + 1⟩, bs, [], 1)
  else if q.op = 6 then
    match bs[q.n.toNat]? with
    | none => (t, bs, [], 3)
    | some bx => if (bx.items.length : Int) < bx.room then (⟨t.regs, t.pc + 1⟩, bs.set q.n.toNat ⟨bx.room, bx.items ++ [rg t q.a]⟩, [], 1) else (t, bs, [], 3)
  else if q.op = 7 then
    match bs[q.n.toNat]? with
    | none => (t, bs, [], 3)
    | some bx =>
      match bx.items with
      | [] => (t, bs, [], 3)
      | y :: r => (⟨t.regs.set q.dst.toNat y, t.pc + 1⟩, bs.set q.n.toNat ⟨bx.room, r⟩, [], 1)
  else if q.op = 8 then (⟨t.regs, t.pc + 1⟩, bs, [], 2)
  else if q.op = 9 then (⟨t.regs, t.pc + 1⟩, bs, [rg t q.a], 1)
  else (t, bs, [], 4)
end Go.Proofs.YtmecbehegmgbhaaGreat.AM
namespace Go.Proofs.YtmecbehegmgbhaaGreat.AM
set_option linter.unusedSimpArgs false
set_option linter.unusedVariables false
set_option maxRecDepth 100000
set_option maxHeartbeats 4000000
open Go
attribute [-simp] AM.elems
section
variable {base : Nat} {H : AH} {K : AV → AH → Prop} {w : Fk K} {T o R P po B : Nat} {cT cP : List AV} {vr vb vo vc : AV} {rs : List (AV × Nat)} {O : Nat} {t : Th} {bs : List Bx} {out : List Int} {okc : Nat → Prop} {l : List Qd} {q : Qd}
theorem TS_pre (h : TM base H T o R P po B cT cP vr vb vo rs O t bs out) : TM base (H.push (qC q)) T o R P po B cT cP vr vb vo rs O t bs out ∧ (H.push (qC q)).bk H.n = some ⟨qC q, true⟩ ∧ (H.push [.I 0, .I 0, .I 0, .I 0, .I 0]).store H.n 0 (qC q) = some (H.push (qC q)) :=
  ⟨h.ext (Ext.push H _), push_new, by rw [store_bk push_new (by simp [qC]), push_put]; rfl⟩
theorem TS_ops {h1 : Prop} {H G : AH} (hq : H.bk G.n = some ⟨qC q, true⟩) : H.load G.n 0 = some (.I q.op) ∧ H.load G.n 1 = some (.I q.dst) ∧ H.load G.n 2 = some (.I q.a) ∧ H.load G.n 3 = some (.I q.b) ∧ H.load G.n 4 = some (.I q.n) := by
  refine ⟨?_, ?_, ?_, ?_, ?_⟩ <;> rw [load_bk hq] <;> rfl
theorem TS_set (h : TM base H T o R P po B cT cP vr vb vo rs O t bs out) (hc : QV okc H vc l) (hq : l[t.pc.toNat]? = some q) (hpc : 0 ≤ t.pc ∧ t.pc < l.length ∧ l.length ≤ 600) (hop : q.op = 1) (hd : 0 ≤ q.dst ∧ q.dst < 12)
    (k : ∀ H', TM base H' T o R P po B (splice cT (o + 1) [.I (t.pc + 1)]) cP vr vb vo rs O ⟨t.regs.set q.dst.toNat q.n, t.pc + 1⟩ bs out → Only [T, R] H H' → K (.I 1) H') : CallF Cd f_iThread_step [.ptr T o, vc, vb, .ptr P po] H K w := by
  rw [CallF_eq e_iThread_step rfl]
  obtain ⟨b, oo, cap, e1, ob, hbn, l1⟩ := hc.at hq
  obtain ⟨h1, q1, st⟩ := TS_pre (q := q) h
  obtain ⟨g0, gd, ga, gb, gn⟩ := TS_ops (h1 := True) q1
  have e5 : (qC q).length = 5 := rfl
  subst e1
  obtain ⟨capR, H1, rfl, s1, m1, o1⟩ := h1.setReg hd q.n
  obtain ⟨H2, s2, m2, o2⟩ := m1.setPc (t.pc + 1)
  simp (disch := omega) [h.ldp, hpc.1, hpc.2.1, l1, e5, st, g0, gd, gn, h1.ldr, h1.ldp, hop, hd.1, hd.2, s1, s2]
  refine k H2 m2 (((Only.refl.push (b := H) (bs := [T, R])).trans (o1.mono (by simp))).trans (o2.mono (by simp)))
theorem TS_copy (h : TM base H T o R P po B cT cP vr vb vo rs O t bs out) (hc : QV okc H vc l) (hq : l[t.pc.toNat]? = some q) (hpc : 0 ≤ t.pc ∧ t.pc < l.length ∧ l.length ≤ 600) (hop : q.op = 2) (hd : 0 ≤ q.dst ∧ q.dst < 12) (ha : 0 ≤ q.a ∧ q.a < 12)
    (k : ∀ H', TM base H' T o R P po B (splice cT (o + 1) [.I (t.pc + 1)]) cP vr vb vo rs O ⟨t.regs.set q.dst.toNat (rg t q.a), t.pc + 1⟩ bs out → Only [T, R] H H' → K (.I 1) H') : CallF Cd f_iThread_step [.ptr T o, vc, vb, .ptr P po] H K w := by
  rw [CallF_eq e_iThread_step rfl]
  obtain ⟨b, oo, cap, e1, ob, hbn, l1⟩ := hc.at hq
  obtain ⟨h1, q1, st⟩ := TS_pre (q := q) h
  obtain ⟨g0, gd, ga, gb, gn⟩ := TS_ops (h1 := True) q1
  have e5 : (qC q).length = 5 := rfl
  subst e1
  obtain ⟨capR, rfl, nR, bR, hr⟩ := h1.vr_eq
  have hra := hr q.a ha.1 ha.2
  obtain ⟨_, H1, _, s1, m1, o1⟩ := h1.setReg hd (rg t q.a)
  obtain ⟨H2, s2, m2, o2⟩ := m1.setPc (t.pc + 1)
  unfold rg at s1
  simp (disch := omega) [h.ldp, hpc.1, hpc.2.1, l1, e5, st, g0, gd, ga, gb, gn, h1.ldr, h1.ldp, hop, hd.1, hd.2, ha.1, ha.2, hra, s1, s2]
  exact k H2 m2 (((Only.refl.push (b := H) (bs := [T, R])).trans (o1.mono (by simp))).trans (o2.mono (by simp)))
theorem TS_bin (h : TM base H T o R P po B cT cP vr vb vo rs O t bs out) (hc : QV okc H vc l) (hq : l[t.pc.toNat]? = some q) (hpc : 0 ≤ t.pc ∧ t.pc < l.length ∧ l.length ≤ 600) (hop : q.op = 3) (hd : 0 ≤ q.dst ∧ q.dst < 12) (ha : 0 ≤ q.a ∧ q.a < 12) (hb : 0 ≤ q.b ∧ q.b < 12) (wa : isW (rg t q.a) = true) (wb : isW (rg t q.b) = true)
    (k : ∀ H', TM base H' T o R P po B (splice cT (o + 1) [.I (t.pc + 1)]) cP vr vb vo rs O ⟨t.regs.set q.dst.toNat (applyM q.n (rg t q.a) (rg t q.b)), t.pc + 1⟩ bs out → Only [T, R] H H' → K (.I 1) H') : CallF Cd f_iThread_step [.ptr T o, vc, vb, .ptr P po] H K w := by
  rw [CallF_eq e_iThread_step rfl]
  obtain ⟨b, oo, cap, e1, ob, hbn, l1⟩ := hc.at hq
  obtain ⟨h1, q1, st⟩ := TS_pre (q := q) h
  obtain ⟨g0, gd, ga, gb, gn⟩ := TS_ops (h1 := True) q1
  have e5 : (qC q).length = 5 := rfl
  subst e1
  obtain ⟨capR, rfl, nR, bR, hr⟩ := h1.vr_eq
  have hra := hr q.a ha.1 ha.2
  have hrb := hr q.b hb.1 hb.2
  obtain ⟨_, H1, _, s1, m1, o1⟩ := h1.setReg hd (applyM q.n (rg t q.a) (rg t q.b))
  obtain ⟨H2, s2, m2, o2⟩ := m1.setPc (t.pc + 1)
  have wa' := isW_iff.1 wa
  have wb' := isW_iff.1 wb
  unfold rg at s1 wa' wb'
  simp (disch := omega) [h.ldp, hpc.1, hpc.2.1, l1, e5, st, g0, gd, ga, gb, gn, h1.ldr, h1.ldp, hop, hd.1, hd.2, ha.1, ha.2, hb.1, hb.2, hra, hrb, K_iapply wa' wb', s1, s2]
  exact k H2 m2 (((Only.refl.push (b := H) (bs := [T, R])).trans (o1.mono (by simp))).trans (o2.mono (by simp)))
theorem TS_jump (h : TM base H T o R P po B cT cP vr vb vo rs O t bs out) (hc : QV okc H vc l) (hq : l[t.pc.toNat]? = some q) (hpc : 0 ≤ t.pc ∧ t.pc < l.length ∧ l.length ≤ 600) (hop : q.op = 4)
    (k : ∀ H', TM base H' T o R P po B (splice cT (o + 1) [.I q.n]) cP vr vb vo rs O ⟨t.regs, q.n⟩ bs out → Only [T, R] H H' → K (.I 1) H') : CallF Cd f_iThread_step [.ptr T o, vc, vb, .ptr P po] H K w := by
  rw [CallF_eq e_iThread_step rfl]
  obtain ⟨b, oo, cap, e1, ob, hbn, l1⟩ := hc.at hq
  obtain ⟨h1, q1, st⟩ := TS_pre (q := q) h
  obtain ⟨g0, gd, ga, gb, gn⟩ := TS_ops (h1 := True) q1
  have e5 : (qC q).length = 5 := rfl
  subst e1
  obtain ⟨capR, rfl, nR, bR, hr⟩ := h1.vr_eq
  obtain ⟨H2, s2, m2, o2⟩ := h1.setPc q.n
  simp (disch := omega) [h.ldp, hpc.1, hpc.2.1, l1, e5, st, g0, gd, ga, gb, gn, h1.ldr, h1.ldp, hop, s2]
  exact k H2 m2 ((Only.refl.push (b := H) (bs := [T, R])).trans (o2.mono (by simp)))
theorem TS_zero (h : TM base H T o R P po B cT cP vr vb vo rs O t bs out) (hc : QV okc H vc l) (hq : l[t.pc.toNat]? = some q) (hpc : 0 ≤ t.pc ∧ t.pc < l.length ∧ l.length ≤ 600) (hop : q.op = 5) (ha : 0 ≤ q.a ∧ q.a < 12)
    (k : ∀ H', TM base H' T o R P po B (splice cT (o + 1) [.I (if rg t q.a = 0 then q.n else t.pc + 1)]) cP vr vb vo rs O ⟨t.regs, (if rg t q.a = 0 then q.n else t.pc + 1)⟩ bs out → Only [T, R] H H' → K (.I 1) H') : CallF Cd f_iThread_step [.ptr T o, vc, vb, .ptr P po] H K w := by
  rw [CallF_eq e_iThread_step rfl]
  obtain ⟨b, oo, cap, e1, ob, hbn, l1⟩ := hc.at hq
  obtain ⟨h1, q1, st⟩ := TS_pre (q := q) h
  obtain ⟨g0, gd, ga, gb, gn⟩ := TS_ops (h1 := True) q1
  have e5 : (qC q).length = 5 := rfl
  subst e1
  obtain ⟨capR, rfl, nR, bR, hr⟩ := h1.vr_eq
  have hra := hr q.a ha.1 ha.2
  obtain ⟨H2, s2, m2, o2⟩ := h1.setPc (if rg t q.a = 0 then q.n else t.pc + 1)
  have kk := k H2 m2 ((Only.refl.push (b := H) (bs := [T, R])).trans (o2.mono (by simp)))
  unfold rg at s2
  by_cases hz : (t.regs[q.a.toNat]?).getD 0 = 0
  · rw [if_pos hz] at s2
    simp (disch := omega) [h.ldp, hpc.1, hpc.2.1, l1, e5, st, g0, gd, ga, gb, gn, h1.ldr, h1.ldp, hop, ha.1, ha.2, hra, hz, s2]
    exact kk
  · rw [if_neg hz] at s2
    simp (disch := omega) [h.ldp, hpc.1, hpc.2.1, l1, e5, st, g0, gd, ga, gb, gn, h1.ldr, h1.ldp, hop, ha.1, ha.2, hra, hz, s2]
    exact kk
theorem TS_yield (h : TM base H T o R P po B cT cP vr vb vo rs O t bs out) (hc : QV okc H vc l) (hq : l[t.pc.toNat]? = some q) (hpc : 0 ≤ t.pc ∧ t.pc < l.length ∧ l.length ≤ 600) (hop : q.op = 8)
    (k : ∀ H', TM base H' T o R P po B (splice cT (o + 1) [.I (t.pc + 1)]) cP vr vb vo rs O ⟨t.regs, t.pc + 1⟩ bs out → Only [T, R] H H' → K (.I 2) H') : CallF Cd f_iThread_step [.ptr T o, vc, vb, .ptr P po] H K w := by
  rw [CallF_eq e_iThread_step rfl]
  obtain ⟨b, oo, cap, e1, ob, hbn, l1⟩ := hc.at hq
  obtain ⟨h1, q1, st⟩ := TS_pre (q := q) h
  obtain ⟨g0, gd, ga, gb, gn⟩ := TS_ops (h1 := True) q1
  have e5 : (qC q).length = 5 := rfl
  subst e1
  obtain ⟨capR, rfl, nR, bR, hr⟩ := h1.vr_eq
  obtain ⟨H2, s2, m2, o2⟩ := h1.setPc (t.pc + 1)
  simp (disch := omega) [h.ldp, hpc.1, hpc.2.1, l1, e5, st, g0, gd, ga, gb, gn, h1.ldr, h1.ldp, hop, s2]
  exact k H2 m2 ((Only.refl.push (b := H) (bs := [T, R])).trans (o2.mono (by simp)))
theorem TS_halt (h : TM base H T o R P po B cT cP vr vb vo rs O t bs out) (hc : QV okc H vc l) (hq : l[t.pc.toNat]? = some q) (hpc : 0 ≤ t.pc ∧ t.pc < l.length ∧ l.length ≤ 600) (hop : q.op = 10) (k : ∀ H', Ext H H' → K (.I 4) H') : CallF Cd f_iThread_step [.ptr T o, vc, vb, .ptr P po] H K w := by
  rw [CallF_eq e_iThread_step rfl]
  obtain ⟨b, oo, cap, e1, ob, hbn, l1⟩ := hc.at hq
  obtain ⟨h1, q1, st⟩ := TS_pre (q := q) h
  obtain ⟨g0, gd, ga, gb, gn⟩ := TS_ops (h1 := True) q1
  have e5 : (qC q).length = 5 := rfl
  subst e1
  obtain ⟨capR, rfl, nR, bR, hr⟩ := h1.vr_eq
  simp (disch := omega) [h.ldp, hpc.1, hpc.2.1, l1, e5, st, g0, gd, ga, gb, gn, h1.ldr, h1.ldp, hop]
  exact k _ (Ext.push H _)
theorem TM.setOut (h : TM base H T o R P po B cT cP vr vb vo rs O t bs out) {x : Int} (hol : out.length < 900000) :
    ∃ v' O' G' H', aapp H 1 vo 1 [.I x] = some (v', G') ∧ v'.flat = true ∧ G'.store P po [v'] = some H' ∧ TM base H' T o R P po B cT (splice cP po [v']) vr vb v' rs O' t bs (out ++ [x]) ∧ (∀ b ∈ grB v' O', b ∈ grB vo O ∨ H.n ≤ b) ∧ Only (P :: grB vo O) H H' := by
  have hpl := (List.getElem?_eq_some_iff.1 h.sP).1
  obtain ⟨v', G', O', a1, a2, a3, a4⟩ := h.gO.app h.hb (k := 1) (new := [.I x]) rfl (by omega)
  have a2' : GrS base G' v' (out ++ [x]).length 1 (Ints (out ++ [x])) O' := by simpa [Ints] using a2
  have bP := a4.bk h.nP h.g.2.2 h.bP
  have n4 := a4.1
  have oo : Only [P] G' (G'.put P (some ⟨splice cP po [v'], true⟩)) := Only.refl.put (by simp)
  have ot : Only (P :: grB vo O) H (G'.put P (some ⟨splice cP po [v'], true⟩)) := (a4.mono (fun b hb => .inl (by simp [hb]))).put (by simp)
  have hO : ∀ b ∈ grB v' O', b ∈ grB vo O ∨ H.n ≤ b := fun b hb => by
    rcases a3 with ⟨e, hm⟩ | e
    · rw [grB_sub hb, e]; exact .inl hm
    · rw [grB_sub hb, e]; exact .inr (Nat.le_refl _)
  have hP : P ∉ grB v' O' := fun hm => by rcases hO P hm with z | z; exact h.g.2.2 z; have := h.nP; omega
  have hR : R < H.n := by obtain ⟨_, _, z, _⟩ := h.vr_eq; exact z
  refine ⟨v', O', G', _, a1, a2.flat, store_bk bP (by simp; omega), ?_, hO, ot⟩
  have hd := h.d
  exact { bT := ot.bk h.nT (by simp; exact ⟨hd.2.1, h.g.1⟩) h.bT, sT := h.sT, nT := (by have := h.nT; simp; omega),
           gR := h.gR.only ot (fun b hb => .inr (fun e => by subst e; simp at hb; rcases hb with z | z; exact hd.2.2 z; exact h.g.2.1 z)),
           rb := h.rb.onlyA ot (fun b hb => .inr (fun hm => by simp at hb; rcases hb with z | z; subst z; exact h.f.2.2 hm; exact h.fg b z hm)),
           bP := put_same, sP := (by rw [splice_set hpl]; simp [hpl]), nP := (by have := h.nP; simp; omega),
           gO := a2'.onlyB oo (by simp; exact hP),
           hb := (by have := h.hb; simp; omega),
           d := hd, f := h.f,
           g := ⟨fun hm => (by rcases hO T hm with z | z; exact h.g.1 z; have := h.nT; omega), fun hm => (by rcases hO R hm with z | z; exact h.g.2.1 z; omega), hP⟩,
           fg := fun b hb hm => (by rcases hO b hb with z | z; exact h.fg b z hm; have := (h.rb.mem' hm).2; omega) }
theorem TS_print (h : TM base H T o R P po B cT cP vr vb vo rs O t bs out) (hc : QV okc H vc l) (hq : l[t.pc.toNat]? = some q) (hpc : 0 ≤ t.pc ∧ t.pc < l.length ∧ l.length ≤ 600) (hop : q.op = 9) (ha : 0 ≤ q.a ∧ q.a < 12) (hol : out.length < 900000)
    (k : ∀ vo' O' H', TM base H' T o R P po B (splice cT (o + 1) [.I (t.pc + 1)]) (splice cP po [vo']) vr vb vo' rs O' ⟨t.regs, t.pc + 1⟩ bs (out ++ [rg t q.a]) → (∀ b ∈ grB vo' O', b ∈ grB vo O ∨ H.n ≤ b) → Only (T :: P :: grB vo O) H H' → K (.I 1) H') : CallF Cd f_iThread_step [.ptr T o, vc, vb, .ptr P po] H K w := by
  rw [CallF_eq e_iThread_step rfl]
  obtain ⟨b, oo, cap, e1, ob, hbn, l1⟩ := hc.at hq
  obtain ⟨h1, q1, st⟩ := TS_pre (q := q) h
  obtain ⟨g0, gd, ga, gb, gn⟩ := TS_ops (h1 := True) q1
  have e5 : (qC q).length = 5 := rfl
  subst e1
  obtain ⟨capR, rfl, nR, bR, hr⟩ := h1.vr_eq
  have hra := hr q.a ha.1 ha.2
  obtain ⟨v', O', G', H1, a1, fv, s1, m1, hO, o1⟩ := (h1.ext (Ext.push _ [.I (rg t q.a)])).setOut (x := rg t q.a) hol
  obtain ⟨H2, s2, m2, o2⟩ := m1.setPc (t.pc + 1)
  unfold rg at a1
  simp (disch := omega) [h.ldp, hpc.1, hpc.2.1, l1, e5, st, g0, gd, ga, gb, gn, h1.ldr, h1.ldp, hop, ha.1, ha.2, hra, h1.ldo, (h1.ext (Ext.push _ [.I (rg t q.a)])).ldo, AM.elems, loadN_push, a1, flat_cells fv, flat_tup fv, s1, s2]
  refine k v' O' H2 m2 (fun b hb => (hO b hb).imp id (fun z => by simp at z; omega)) ((((Only.refl.push (b := H) (bs := T :: P :: grB vo O)).push).trans (o1.mono (fun b hb => .inl ?_))).trans (o2.mono (by simp)))
  simp at hb ⊢; rcases hb with z | z
  · exact .inr (.inl z)
  · exact .inr (.inr z)
theorem TM.setBox (h : TM base H T o R P po B cT cP vr vb vo rs O t bs out) {i : Nat} {x : Bx} {p : AV × Nat} (hx : bs[i]? = some x) (hp : rs[i]? = some p) {v' : AV} {I' : Nat} {l : List Int} {H1 H' : AH}
    (hi : ISl base H1 v' l I') (hI : (I' = p.2 ∧ p.2 ∈ grB p.1 p.2) ∨ H.n ≤ I') (ho : Only (grB p.1 p.2) H H1) (hst : H1.store B (i * 2 + 1) [v'] = some H') :
    TM base H' T o R P po B cT cP vr vb vo (rs.set i (v', I')) O t (bs.set i ⟨x.room, l⟩) out ∧ (∀ b ∈ fpB B (rs.set i (v', I')), b ∈ fpB B rs ∨ H.n ≤ b) ∧ Only (fpB B rs) H H' := by
  obtain ⟨u1, u2, u3⟩ := h.rb.upd hx hp hi hI h.hb ho hst
  have hR : R < H.n := by obtain ⟨_, _, z, _⟩ := h.vr_eq; exact z
  have hf : ∀ b ∈ fpB B (rs.set i (v', I')), b ∈ fpB B rs ∨ H.n ≤ b := fun b hb => by
    rcases fpB_set hb with z | z
    · exact .inl z
    · subst z
      rcases hI with y | y
      · refine .inl ?_
        rw [mem_fpB]
        exact .inr ⟨p, List.mem_of_getElem? hp, by rw [y.1]; exact y.2⟩
      · exact .inr y
  refine ⟨{ bT := u2.bk h.nT h.f.1 h.bT, sT := h.sT, nT := Nat.lt_of_lt_of_le h.nT u2.1,
            gR := h.gR.only u2 (fun b hb => .inr (fun e => h.f.2.1 (by rw [← e]; exact hb))),
            rb := u1,
            bP := u2.bk h.nP h.f.2.2 h.bP, sP := h.sP, nP := Nat.lt_of_lt_of_le h.nP u2.1,
            gO := h.gO.onlyB u2 (fun b hb hm => h.fg b hm hb),
            hb := Nat.le_trans h.hb u2.1,
            d := h.d,
            f := ⟨fun hm => (by rcases hf T hm with z | z; exact h.f.1 z; have := h.nT; omega), fun hm => (by rcases hf R hm with z | z; exact h.f.2.1 z; omega), fun hm => (by rcases hf P hm with z | z; exact h.f.2.2 z; have := h.nP; omega)⟩,
            g := h.g,
            fg := fun b hb hm => (by rcases hf b hm with z | z; exact h.fg b hb z; have := (h.gO.mem hb); omega) }, hf, u2⟩
theorem TS_send (h : TM base H T o R P po B cT cP vr vb vo rs O t bs out) (hc : QV okc H vc l) (hq : l[t.pc.toNat]? = some q) (hpc : 0 ≤ t.pc ∧ t.pc < l.length ∧ l.length ≤ 600) (hop : q.op = 6) (ha : 0 ≤ q.a ∧ q.a < 12) {bx : Bx} (hn : 0 ≤ q.n) (hbx : bs[q.n.toNat]? = some bx) (hroom : bx.items.length ≤ bx.room ∧ bx.room ≤ 100)
    (k1 : (bx.items.length : Int) = bx.room → ∀ H', Ext H H' → K (.I 3) H')
    (k : (bx.items.length : Int) < bx.room → ∀ rs' H', TM base H' T o R P po B (splice cT (o + 1) [.I (t.pc + 1)]) cP vr vb vo rs' O ⟨t.regs, t.pc + 1⟩ (bs.set q.n.toNat ⟨bx.room, bx.items ++ [rg t q.a]⟩) out → (∀ b ∈ fpB B rs', b ∈ fpB B rs ∨ H.n ≤ b) → Only (T :: fpB B rs) H H' → K (.I 1) H') : CallF Cd f_iThread_step [.ptr T o, vc, vb, .ptr P po] H K w := by
  rw [CallF_eq e_iThread_step rfl]
  obtain ⟨b, oo, cap, e1, ob, hbn, l1⟩ := hc.at hq
  obtain ⟨h1, q1, st⟩ := TS_pre (q := q) h
  obtain ⟨g0, gd, ga, gb, gn⟩ := TS_ops (h1 := True) q1
  have e5 : (qC q).length = 5 := rfl
  subst e1
  obtain ⟨capR, rfl, nR, bR, hr⟩ := h1.vr_eq
  have hra := hr q.a ha.1 ha.2
  obtain ⟨pr, bcap, f1, rfl, f3, f4, f5, f6, f7, f8⟩ := h1.rb.at hbx
  have hnl : q.n < bs.length := by have := (List.getElem?_eq_some_iff.1 hbx).1; omega
  simp (disch := omega) [h.ldp, hpc.1, hpc.2.1, l1, e5, st, g0, gd, ga, gb, gn, h1.ldr, h1.ldp, hop, ha.1, ha.2, hra, hn, hnl]
  refine K_iBox_put f5 f4 f6 f7 h1.hb f8 hroom (fun hq => ?_) (fun hlt v' I' H2 H3 i1 i2 i3 i4 i5 i6 i7 => ?_)
  · simp
    exact k1 hq _ (Ext.push H _)
  · obtain ⟨m1, hf, o1⟩ := h1.setBox hbx f1 i1 i2 i3 i6
    obtain ⟨H4, s2, m2, o2⟩ := m1.setPc (t.pc + 1)
    simp [s2]
    refine k hlt _ H4 m2 (fun b hb => (hf b hb).imp id (fun z => by simp at z; omega)) (((Only.refl.push (b := H) (bs := T :: fpB B rs)).trans (o1.mono (fun b hb => .inl (by simp [hb])))).trans (o2.mono (by simp)))
theorem TS_recv (h : TM base H T o R P po B cT cP vr vb vo rs O t bs out) (hc : QV okc H vc l) (hq : l[t.pc.toNat]? = some q) (hpc : 0 ≤ t.pc ∧ t.pc < l.length ∧ l.length ≤ 600) (hop : q.op = 7) (hd : 0 ≤ q.dst ∧ q.dst < 12) {bx : Bx} (hn : 0 ≤ q.n) (hbx : bs[q.n.toNat]? = some bx)
    (k1 : bx.items = [] → ∀ H', Ext H H' → K (.I 3) H')
    (k : ∀ y r, bx.items = y :: r → ∀ rs' H', TM base H' T o R P po B (splice cT (o + 1) [.I (t.pc + 1)]) cP vr vb vo rs' O ⟨t.regs.set q.dst.toNat y, t.pc + 1⟩ (bs.set q.n.toNat ⟨bx.room, r⟩) out → (∀ b ∈ fpB B rs', b ∈ fpB B rs ∨ H.n ≤ b) → Only (T :: R :: fpB B rs) H H' → K (.I 1) H') : CallF Cd f_iThread_step [.ptr T o, vc, vb, .ptr P po] H K w := by
  rw [CallF_eq e_iThread_step rfl]
  obtain ⟨b, oo, cap, e1, ob, hbn, l1⟩ := hc.at hq
  obtain ⟨h1, q1, st⟩ := TS_pre (q := q) h
  obtain ⟨g0, gd, ga, gb, gn⟩ := TS_ops (h1 := True) q1
  have e5 : (qC q).length = 5 := rfl
  subst e1
  obtain ⟨capR, rfl, nR, bR, hr⟩ := h1.vr_eq
  obtain ⟨pr, bcap, f1, rfl, f3, f4, f5, f6, f7, f8⟩ := h1.rb.at hbx
  have hnl : q.n < bs.length := by have := (List.getElem?_eq_some_iff.1 hbx).1; omega
  simp (disch := omega) [h.ldp, hpc.1, hpc.2.1, l1, e5, st, g0, gd, ga, gb, gn, h1.ldr, h1.ldp, hop, hn, hnl]
  refine K_iBox_take f5 f4 f6 f7 f8 (fun hq => ?_) (fun y r hyr v' H2 H3 i1 i3 i4 i5 i6 i7 => ?_)
  · simp
    exact k1 hq _ (Ext.push H _)
  · have i3' : Only (grB pr.1 pr.2) (H.push (qC q)) H2 := by rw [i4]; exact i3
    obtain ⟨m1, hf, o1⟩ := h1.setBox hbx f1 i1 (.inl ⟨rfl, by rw [i4]; simp⟩) i3' i6
    obtain ⟨_, H4, _, s4, m4, o4⟩ := m1.setReg hd y
    obtain ⟨H5, s5, m5, o5⟩ := m4.setPc (t.pc + 1)
    have q3 : H3.bk H.n = some ⟨qC q, true⟩ := o1.bk (by simp) (fun hm => by have := (h.rb.mem' hm).2; omega) q1
    obtain ⟨g0', gd', ga', gb', gn'⟩ := TS_ops (h1 := True) q3
    simp (disch := omega) [m1.ldr, gd', hd.1, hd.2, s4, s5]
    refine k y r hyr _ H5 m5 (fun b hb => (hf b hb).imp id (fun z => by simp at z; omega)) ((((Only.refl.push (b := H) (bs := T :: R :: fpB B rs)).trans (o1.mono (fun b hb => .inl (by simp [hb])))).trans (o4.mono (by simp))).trans (o5.mono (by simp)))
end
end Go.Proofs.YtmecbehegmgbhaaGreat.AM
namespace Go.Proofs.YtmecbehegmgbhaaGreat.AM
set_option linter.unusedSimpArgs false
set_option linter.unusedVariables false
set_option maxRecDepth 100000
set_option maxHeartbeats 4000000
open Go
attribute [-simp] AM.elems
theorem reg_iff {r : Int} : reg r = true ↔ 0 ≤ r ∧ r < 12 := by unfold reg; simp
theorem quV_cases {many : Int} {q : Qd} (h : quV many q = true) :
    (q.op = 1 ∧ (0 ≤ q.dst ∧ q.dst < 12) ∧ isW q.n = true) ∨ (q.op = 2 ∧ (0 ≤ q.dst ∧ q.dst < 12) ∧ (0 ≤ q.a ∧ q.a < 12)) ∨ (q.op = 3 ∧ (0 ≤ q.dst ∧ q.dst < 12) ∧ (0 ≤ q.a ∧ q.a < 12) ∧ (0 ≤ q.b ∧ q.b < 12)) ∨
    (q.op = 4 ∧ 0 ≤ q.n ∧ q.n < many) ∨ (q.op = 5 ∧ (0 ≤ q.a ∧ q.a < 12) ∧ 0 ≤ q.n ∧ q.n < many) ∨ (q.op = 6 ∧ (0 ≤ q.a ∧ q.a < 12) ∧ 0 ≤ q.n ∧ q.n < 3) ∨ (q.op = 7 ∧ (0 ≤ q.dst ∧ q.dst < 12) ∧ 0 ≤ q.n ∧ q.n < 3) ∨ q.op = 8 ∨ (q.op = 9 ∧ (0 ≤ q.a ∧ q.a < 12)) ∨ q.op = 10 := by
  unfold quV at h
  by_cases h1 : q.op = 1
  · rw [if_pos h1] at h; simp only [Bool.and_eq_true, decide_eq_true_eq, reg_iff] at h; exact .inl ⟨h1, h.1.2, h.2⟩
  rw [if_neg h1] at h
  refine .inr ?_
  by_cases h2 : q.op = 2
  · rw [if_pos h2] at h; simp only [Bool.and_eq_true, decide_eq_true_eq, reg_iff] at h; exact .inl ⟨h2, h.1.2, h.2⟩
  rw [if_neg h2] at h
  refine .inr ?_
  by_cases h3 : q.op = 3
  · rw [if_pos h3] at h; simp only [Bool.and_eq_true, decide_eq_true_eq, reg_iff] at h; exact .inl ⟨h3, h.1.1.1, h.1.1.2, h.1.2⟩
  rw [if_neg h3] at h
  refine .inr ?_
  by_cases h4 : q.op = 4
  · rw [if_pos h4] at h; simp only [Bool.and_eq_true, decide_eq_true_eq, reg_iff] at h; exact .inl ⟨h4, h.2⟩
  rw [if_neg h4] at h
  refine .inr ?_
  by_cases h5 : q.op = 5
  · rw [if_pos h5] at h; simp only [Bool.and_eq_true, decide_eq_true_eq, reg_iff] at h; exact .inl ⟨h5, h.1.2, h.2⟩
  rw [if_neg h5] at h
  refine .inr ?_
  by_cases h6 : q.op = 6
  · rw [if_pos h6] at h; simp only [Bool.and_eq_true, decide_eq_true_eq, reg_iff] at h; exact .inl ⟨h6, h.1.2, h.2⟩
  rw [if_neg h6] at h
  refine .inr ?_
  by_cases h7 : q.op = 7
  · rw [if_pos h7] at h; simp only [Bool.and_eq_true, decide_eq_true_eq, reg_iff] at h; exact .inl ⟨h7, h.1.2, h.2⟩
  rw [if_neg h7] at h
  refine .inr ?_
  by_cases h9 : q.op = 9
  · rw [if_pos h9] at h; simp only [Bool.and_eq_true, decide_eq_true_eq, reg_iff] at h; exact .inr (.inl ⟨h9, h.2⟩)
  rw [if_neg h9] at h
  by_cases h8 : q.op = 8 ∨ q.op = 10
  · rcases h8 with h8 | h8
    · exact .inl h8
    · exact .inr (.inr h8)
  · rw [if_neg h8] at h; cases h
theorem rg_W {t : Th} (h : t.regs.all isW = true) (r : Int) : isW (rg t r) = true := by
  unfold rg
  cases hx : t.regs[r.toNat]? with
  | none => rfl
  | some x => exact List.all_eq_true.1 h x (List.mem_of_getElem? hx)
theorem thFit_iff {t : Th} {many : Nat} : thFit t many = true ↔ t.regs.length = 12 ∧ t.regs.all isW = true ∧ 0 ≤ t.pc ∧ t.pc < many := by
  unfold thFit; simp only [Bool.and_eq_true, decide_eq_true_eq]; exact and_assoc
theorem codeV_facts {l : List Qd} (h : codeV l = true) : 1 ≤ l.length ∧ l.length ≤ 600 ∧ (∀ q ∈ l, quV l.length q = true) ∧ (∀ q, l[l.length - 1]? = some q → q.op = 10 ∨ q.op = 4) := by
  unfold codeV at h
  simp only [Bool.and_eq_true, decide_eq_true_eq] at h
  refine ⟨h.1.1.1, h.1.1.2, List.all_eq_true.1 h.1.2, fun q hq => ?_⟩
  have h2 := h.2
  unfold lastOp at h2
  rw [List.getLast?_eq_getElem?, hq] at h2
  simpa using h2
theorem stepQ_keeps {l : List Qd} {q : Qd} {t : Th} {bs : List Bx} (hl : codeV l = true) (hq : l[t.pc.toNat]? = some q) (ht : thFit t l.length = true) (hb : vaBs bs = true) :
    thFit (stepQ q t bs).1 l.length = true ∧ vaBs (stepQ q t bs).2.1 = true ∧ (stepQ q t bs).2.1.length = bs.length ∧ (stepQ q t bs).2.1.map (·.room) = bs.map (·.room) ∧ (stepQ q t bs).2.2.1.all isW = true ∧ (stepQ q t bs).2.2.1.length ≤ 1 ∧ (1 ≤ (stepQ q t bs).2.2.2 ∧ (stepQ q t bs).2.2.2 ≤ 4) := by
  obtain ⟨c1, c2, c3, c4⟩ := codeV_facts hl
  obtain ⟨t1, t2, t3, t4⟩ := thFit_iff.1 ht
  have hv := c3 q (List.mem_of_getElem? hq)
  have hnx : q.op ≠ 4 → q.op ≠ 10 → t.pc + 1 < l.length := fun h4 h10 => by
    by_cases he : t.pc.toNat = l.length - 1
    · rw [he] at hq
      rcases c4 q hq with z | z
      · exact absurd z h10
      · exact absurd z h4
    · omega
  have stay : thFit t l.length = true ∧ vaBs bs = true ∧ bs.length = bs.length ∧ bs.map (·.room) = bs.map (·.room) ∧ ([] : List Int).all isW = true ∧ ([] : List Int).length ≤ 1 ∧ ((1 : Int) ≤ 3 ∧ (3 : Int) ≤ 4) := ⟨ht, hb, rfl, rfl, rfl, by simp, by omega⟩
  have hset : ∀ (d x : Int), isW x = true → q.op ≠ 4 → q.op ≠ 10 → thFit ⟨t.regs.set d.toNat x, t.pc + 1⟩ l.length = true := fun d x hx h4 h10 => thFit_iff.2 ⟨by simpa using t1, all_set t2 hx, by simp only; omega, hnx h4 h10⟩
  have hgo : q.op ≠ 4 → q.op ≠ 10 → thFit ⟨t.regs, t.pc + 1⟩ l.length = true := fun h4 h10 => thFit_iff.2 ⟨t1, t2, by simp only; omega, hnx h4 h10⟩
  rcases quV_cases hv with ⟨h, _, hw⟩ | ⟨h, _⟩ | ⟨h, _⟩ | ⟨h, hn⟩ | ⟨h, _, hn⟩ | ⟨h, _, hn⟩ | ⟨h, _, hn⟩ | h | ⟨h, _⟩ | h
  · have e : stepQ q t bs = (⟨t.regs.set q.dst.toNat q.n, t.pc + 1⟩, bs, [], 1) := by unfold stepQ; rw [if_pos h]
    rw [e]; exact ⟨hset _ _ hw (by omega) (by omega), hb, rfl, rfl, rfl, by simp, by simp⟩
  · have e : stepQ q t bs = (⟨t.regs.set q.dst.toNat (rg t q.a), t.pc + 1⟩, bs, [], 1) := by unfold stepQ; rw [if_neg (by omega), if_pos h]
    rw [e]; exact ⟨hset _ _ (rg_W t2 _) (by omega) (by omega), hb, rfl, rfl, rfl, by simp, by simp⟩
  · have e : stepQ q t bs = (⟨t.regs.set q.dst.toNat (applyM q.n (rg t q.a) (rg t q.b)), t.pc + 1⟩, bs, [], 1) := by unfold stepQ; rw [if_neg (by omega), if_neg (by omega), if_pos h]
    rw [e]; exact ⟨hset _ _ (isW_iff.2 (apply_W (isW_iff.1 (rg_W t2 _)) (isW_iff.1 (rg_W t2 _)))) (by omega) (by omega), hb, rfl, rfl, rfl, by simp, by simp⟩
  · have e : stepQ q t bs = (⟨t.regs, q.n⟩, bs, [], 1) := by unfold stepQ; rw [if_neg (by omega), if_neg (by omega), if_neg (by omega), if_pos h]
    rw [e]; exact ⟨thFit_iff.2 ⟨t1, t2, hn.1, hn.2⟩, hb, rfl, rfl, rfl, by simp, by simp⟩
  · have e : stepQ q t bs = (⟨t.regs, if rg t q.a = 0 then q.n else t.pc + 1⟩, bs, [], 1) := by unfold stepQ; rw [if_neg (by omega), if_neg (by omega), if_neg (by omega), if_neg (by omega), if_pos h]
    rw [e]
    refine ⟨thFit_iff.2 ⟨t1, t2, ?_⟩, hb, rfl, rfl, rfl, by simp, by simp⟩
    have := hnx (by omega) (by omega)
    simp only
    split <;> omega
  · have e : stepQ q t bs = match bs[q.n.toNat]? with
        | none => (t, bs, [], 3)
        | some bx => if (bx.items.length : Int) < bx.room then (⟨t.regs, t.pc + 1⟩, bs.set q.n.toNat ⟨bx.room, bx.items ++ [rg t q.a]⟩, [], 1) else (t, bs, [], 3) := by
      unfold stepQ; rw [if_neg (by omega), if_neg (by omega), if_neg (by omega), if_neg (by omega), if_neg (by omega), if_pos h]
      all_goals (cases bs[q.n.toNat]? <;> rfl)
    rw [e]
    cases hbx : bs[q.n.toNat]? with
    | none => exact stay
    | some bx =>
      simp only
      have hbv := (vaBs_facts hb).2 bx (List.mem_of_getElem? hbx)
      split
      · rename_i hr
        refine ⟨hgo (by omega) (by omega), vaBs_set hb ?_, by simp, rooms_set hbx, rfl, by simp, by simp⟩
        unfold vaB
        simp only [Bool.and_eq_true, decide_eq_true_eq, List.length_append, List.length_singleton, List.all_append, List.all_cons, List.all_nil, Bool.and_true]
        exact ⟨by omega, hbv.2.2.2, rg_W t2 _⟩
      · exact stay
  · have e : stepQ q t bs = match bs[q.n.toNat]? with
        | none => (t, bs, [], 3)
        | some bx =>
          match bx.items with
          | [] => (t, bs, [], 3)
          | y :: r => (⟨t.regs.set q.dst.toNat y, t.pc + 1⟩, bs.set q.n.toNat ⟨bx.room, r⟩, [], 1) := by
      unfold stepQ; rw [if_neg (by omega), if_neg (by omega), if_neg (by omega), if_neg (by omega), if_neg (by omega), if_neg (by omega), if_pos h]
      all_goals (rcases bs[q.n.toNat]? with _ | ⟨_, _ | _⟩ <;> rfl)
    rw [e]
    cases hbx : bs[q.n.toNat]? with
    | none => exact stay
    | some bx =>
      simp only
      have hbv := (vaBs_facts hb).2 bx (List.mem_of_getElem? hbx)
      cases hi : bx.items with
      | nil => exact stay
      | cons y r =>
        rw [hi] at hbv
        simp only [List.all_cons, Bool.and_eq_true, List.length_cons] at hbv
        refine ⟨hset _ _ hbv.2.2.2.1 (by omega) (by omega), vaBs_set hb ?_, by simp, rooms_set hbx, rfl, by simp, by simp⟩
        unfold vaB
        simp only [Bool.and_eq_true, decide_eq_true_eq]
        exact ⟨by omega, hbv.2.2.2.2⟩
  · have e : stepQ q t bs = (⟨t.regs, t.pc + 1⟩, bs, [], 2) := by unfold stepQ; rw [if_neg (by omega), if_neg (by omega), if_neg (by omega), if_neg (by omega), if_neg (by omega), if_neg (by omega), if_neg (by omega), if_pos h]
    rw [e]; exact ⟨hgo (by omega) (by omega), hb, rfl, rfl, rfl, by simp, by simp⟩
  · have e : stepQ q t bs = (⟨t.regs, t.pc + 1⟩, bs, [rg t q.a], 1) := by unfold stepQ; rw [if_neg (by omega), if_neg (by omega), if_neg (by omega), if_neg (by omega), if_neg (by omega), if_neg (by omega), if_neg (by omega), if_neg (by omega), if_pos h]
    rw [e]; exact ⟨hgo (by omega) (by omega), hb, rfl, rfl, by simp [rg_W t2], by simp, by simp⟩
  · have e : stepQ q t bs = (t, bs, [], 4) := by unfold stepQ; rw [if_neg (by omega), if_neg (by omega), if_neg (by omega), if_neg (by omega), if_neg (by omega), if_neg (by omega), if_neg (by omega), if_neg (by omega), if_neg (by omega)]
    rw [e]; exact ⟨ht, hb, rfl, rfl, rfl, by simp, by simp⟩
section
variable {base : Nat} {H : AH} {K : AV → AH → Prop} {w : Fk K} {T o R P po B : Nat} {cT cP : List AV} {vr vb vo vc : AV} {rs : List (AV × Nat)} {O : Nat} {t : Th} {bs : List Bx} {out : List Int} {okc : Nat → Prop} {l : List Qd} {q : Qd}
theorem TM.spl (h : TM base H T o R P po B cT cP vr vb vo rs O t bs out) : splice cT (o + 1) [.I t.pc] = cT ∧ splice cP po [vo] = cP := ⟨splice_id (seg_one h.sT).2, splice_id h.sP⟩
theorem K_iThread_step (h : TM base H T o R P po B cT cP vr vb vo rs O t bs out) (hc : QV okc H vc l) (hq : l[t.pc.toNat]? = some q) (hl : codeV l = true) (ht : thFit t l.length = true) (hb : vaBs bs = true) (hbx : boxQ bs.length q = true) (hol : out.length < 900000)
    (k : ∀ vo' rs' O' H', TM base H' T o R P po B (splice cT (o + 1) [.I (stepQ q t bs).1.pc]) (splice cP po [vo']) vr vb vo' rs' O' (stepQ q t bs).1 (stepQ q t bs).2.1 (out ++ (stepQ q t bs).2.2.1) →
      (∀ b ∈ fpB B rs', b ∈ fpB B rs ∨ H.n ≤ b) → (∀ b ∈ grB vo' O', b ∈ grB vo O ∨ H.n ≤ b) → Only (T :: R :: P :: (fpB B rs ++ grB vo O)) H H' → K (.I (stepQ q t bs).2.2.2) H') :
    CallF Cd f_iThread_step [.ptr T o, vc, vb, .ptr P po] H K w := by
  obtain ⟨c1, c2, c3, c4⟩ := codeV_facts hl
  obtain ⟨t1, t2, t3, t4⟩ := thFit_iff.1 ht
  have hv := c3 q (List.mem_of_getElem? hq)
  have hpc : 0 ≤ t.pc ∧ t.pc < l.length ∧ l.length ≤ 600 := ⟨t3, t4, c2⟩
  obtain ⟨sp1, sp2⟩ := h.spl
  have still : ∀ c : Int, stepQ q t bs = (t, bs, [], c) → ∀ H', Ext H H' → K (.I c) H' := fun c e H' x => by
    rw [e] at k
    refine k vo rs O H' ?_ (fun b hb => .inl hb) (fun b hb => .inl hb) x.only
    simp only [sp1, sp2, List.append_nil]
    exact h.ext x
  rcases quV_cases hv with ⟨h0, hd, hw⟩ | ⟨h0, hd, ha⟩ | ⟨h0, hd, ha, hbb⟩ | ⟨h0, hn⟩ | ⟨h0, ha, hn⟩ | ⟨h0, ha, hn⟩ | ⟨h0, hd, hn⟩ | h0 | ⟨h0, ha⟩ | h0
  · have e : stepQ q t bs = (⟨t.regs.set q.dst.toNat q.n, t.pc + 1⟩, bs, [], 1) := by unfold stepQ; rw [if_pos h0]
    rw [e] at k
    refine TS_set h hc hq hpc h0 hd fun H' m oo => k vo rs O H' (by simp only [sp2, List.append_nil]; exact m) (fun b hb => .inl hb) (fun b hb => .inl hb) (oo.mono (fun b hb => .inl ?_))
    simp at hb ⊢; rcases hb with z | z <;> simp [z]
  · have e : stepQ q t bs = (⟨t.regs.set q.dst.toNat (rg t q.a), t.pc + 1⟩, bs, [], 1) := by unfold stepQ; rw [if_neg (by omega), if_pos h0]
    rw [e] at k
    refine TS_copy h hc hq hpc h0 hd ha fun H' m oo => k vo rs O H' (by simp only [sp2, List.append_nil]; exact m) (fun b hb => .inl hb) (fun b hb => .inl hb) (oo.mono (fun b hb => .inl ?_))
    simp at hb ⊢; rcases hb with z | z <;> simp [z]
  · have e : stepQ q t bs = (⟨t.regs.set q.dst.toNat (applyM q.n (rg t q.a) (rg t q.b)), t.pc + 1⟩, bs, [], 1) := by unfold stepQ; rw [if_neg (by omega), if_neg (by omega), if_pos h0]
    rw [e] at k
    refine TS_bin h hc hq hpc h0 hd ha hbb (rg_W t2 _) (rg_W t2 _) fun H' m oo => k vo rs O H' (by simp only [sp2, List.append_nil]; exact m) (fun b hb => .inl hb) (fun b hb => .inl hb) (oo.mono (fun b hb => .inl ?_))
    simp at hb ⊢; rcases hb with z | z <;> simp [z]
  · have e : stepQ q t bs = (⟨t.regs, q.n⟩, bs, [], 1) := by unfold stepQ; rw [if_neg (by omega), if_neg (by omega), if_neg (by omega), if_pos h0]
    rw [e] at k
    refine TS_jump h hc hq hpc h0 fun H' m oo => k vo rs O H' (by simp only [sp2, List.append_nil]; exact m) (fun b hb => .inl hb) (fun b hb => .inl hb) (oo.mono (fun b hb => .inl ?_))
    simp at hb ⊢; rcases hb with z | z <;> simp [z]
  · have e : stepQ q t bs = (⟨t.regs, if rg t q.a = 0 then q.n else t.pc + 1⟩, bs, [], 1) := by unfold stepQ; rw [if_neg (by omega), if_neg (by omega), if_neg (by omega), if_neg (by omega), if_pos h0]
    rw [e] at k
    refine TS_zero h hc hq hpc h0 ha fun H' m oo => k vo rs O H' (by simp only [sp2, List.append_nil]; exact m) (fun b hb => .inl hb) (fun b hb => .inl hb) (oo.mono (fun b hb => .inl ?_))
    simp at hb ⊢; rcases hb with z | z <;> simp [z]
  · have hlt : q.n < bs.length := by unfold boxQ at hbx; simp only [decide_eq_true_eq] at hbx; exact hbx (.inl h0)
    obtain ⟨bx, hx⟩ : ∃ x, bs[q.n.toNat]? = some x := ⟨_, List.getElem?_eq_getElem (by omega)⟩
    have hbv := (vaBs_facts hb).2 bx (List.mem_of_getElem? hx)
    have e : stepQ q t bs = if (bx.items.length : Int) < bx.room then (⟨t.regs, t.pc + 1⟩, bs.set q.n.toNat ⟨bx.room, bx.items ++ [rg t q.a]⟩, [], 1) else (t, bs, [], 3) := by
      unfold stepQ; rw [if_neg (by omega), if_neg (by omega), if_neg (by omega), if_neg (by omega), if_neg (by omega), if_pos h0, hx]
    refine TS_send h hc hq hpc h0 ha hn.1 hx (by omega) (fun he H' x => still 3 (by rw [e, if_neg (by omega)]) H' x) (fun hr rs' H' m hf oo => ?_)
    rw [e, if_pos hr] at k
    refine k vo rs' O H' (by simp only [sp2, List.append_nil]; exact m) hf (fun b hb => .inl hb) (oo.mono (fun b hb => .inl ?_))
    simp at hb ⊢; rcases hb with z | z <;> simp [z]
  · have hlt : q.n < bs.length := by unfold boxQ at hbx; simp only [decide_eq_true_eq] at hbx; exact hbx (.inr h0)
    obtain ⟨bx, hx⟩ : ∃ x, bs[q.n.toNat]? = some x := ⟨_, List.getElem?_eq_getElem (by omega)⟩
    have e : stepQ q t bs = match bx.items with
          | [] => (t, bs, [], 3)
          | y :: r => (⟨t.regs.set q.dst.toNat y, t.pc + 1⟩, bs.set q.n.toNat ⟨bx.room, r⟩, [], 1) := by
      unfold stepQ; rw [if_neg (by omega), if_neg (by omega), if_neg (by omega), if_neg (by omega), if_neg (by omega), if_neg (by omega), if_pos h0, hx]
      all_goals (rcases bx with ⟨_, _ | _⟩ <;> rfl)
    refine TS_recv h hc hq hpc h0 hd hn.1 hx (fun he H' x => still 3 (by rw [e, he]) H' x) (fun y r hr rs' H' m hf oo => ?_)
    rw [e, hr] at k
    refine k vo rs' O H' (by simp only [sp2, List.append_nil]; exact m) hf (fun b hb => .inl hb) (oo.mono (fun b hb => .inl ?_))
    simp at hb ⊢; rcases hb with z | z | z <;> simp [z]
  · have e : stepQ q t bs = (⟨t.regs, t.pc + 1⟩, bs, [], 2) := by unfold stepQ; rw [if_neg (by omega), if_neg (by omega), if_neg (by omega), if_neg (by omega), if_neg (by omega), if_neg (by omega), if_neg (by omega), if_pos h0]
    rw [e] at k
    refine TS_yield h hc hq hpc h0 fun H' m oo => k vo rs O H' (by simp only [sp2, List.append_nil]; exact m) (fun b hb => .inl hb) (fun b hb => .inl hb) (oo.mono (fun b hb => .inl ?_))
    simp at hb ⊢; rcases hb with z | z <;> simp [z]
  · have e : stepQ q t bs = (⟨t.regs, t.pc + 1⟩, bs, [rg t q.a], 1) := by unfold stepQ; rw [if_neg (by omega), if_neg (by omega), if_neg (by omega), if_neg (by omega), if_neg (by omega), if_neg (by omega), if_neg (by omega), if_neg (by omega), if_pos h0]
    rw [e] at k
    refine TS_print h hc hq hpc h0 ha hol fun vo' O' H' m hO oo => k vo' rs O' H' m (fun b hb => .inl hb) hO (oo.mono (fun b hb => .inl ?_))
    simp at hb ⊢; rcases hb with z | z | z <;> simp [z]
  · have e : stepQ q t bs = (t, bs, [], 4) := by unfold stepQ; rw [if_neg (by omega), if_neg (by omega), if_neg (by omega), if_neg (by omega), if_neg (by omega), if_neg (by omega), if_neg (by omega), if_neg (by omega), if_neg (by omega)]
    exact TS_halt h hc hq hpc h0 fun H' x => still 4 e H' x
end
end Go.Proofs.YtmecbehegmgbhaaGreat.AM
namespace Go.Proofs.YtmecbehegmgbhaaGreat.AM
set_option linter.unusedSimpArgs false
set_option linter.unusedVariables false
set_option maxRecDepth 100000
set_option maxHeartbeats 4000000
open Go
attribute [-simp] AM.elems
def CLc (ok : Nat → Prop) (H : AH) (c : List AV) (l : List Qd) : Prop := ∃ v, c = [v] ∧ QV ok H v l
theorem CLc.mono {ok ok' : Nat → Prop} {H H' c t} (h : CLc ok H c t) (hn : H.n ≤ H'.n) (hk : ∀ b, ok b → b < H.n → H'.bk b = H.bk b) (ho : ∀ b, ok b → b < H.n → ok' b) : CLc ok' H' c t := by
  obtain ⟨v, e, h⟩ := h; exact ⟨v, e, h.mono hn hk ho⟩
def CLV (ok : Nat → Prop) (H : AH) (v : AV) (l : List (List Qd)) : Prop := ∃ ca, SlC ok H v l.length 1 ca ∧ LF 1 (CLc ok H) l ca
theorem CLV.mono {ok ok' : Nat → Prop} {H H' v l} (h : CLV ok H v l) (hn : H.n ≤ H'.n) (hk : ∀ b, ok b → b < H.n → H'.bk b = H.bk b) (ho : ∀ b, ok b → b < H.n → ok' b) : CLV ok' H' v l := by
  obtain ⟨ca, h1, h2⟩ := h
  exact ⟨ca, h1.mono hn hk ho, h2.imp fun c a h => h.mono hn hk ho⟩
theorem CLV.ext {ok H H' c t} (h : CLV ok H c t) (k : Ext H H') : CLV ok H' c t := h.mono k.1 (fun b _ hb => k.2 b hb) (fun _ h _ => h)
theorem CLV.alen {ok H v l} (h : CLV ok H v l) : alen v = some l.length := h.choose_spec.1.alen
theorem CLV.flat {ok H v l} (h : CLV ok H v l) : v.flat = true := h.choose_spec.1.flat
theorem CLV.big {ok H v l} (h : CLV ok H v l) : l.length ≤ 8589934592 := h.choose_spec.1.1
theorem CLV.at {ok H v l} (h : CLV ok H v l) {i : Nat} {x : List Qd} (hi : l[i]? = some x) : ∃ b o cap vc, v = .sl b o l.length cap ∧ ok b ∧ b < H.n ∧ H.load b (o + i) = some vc ∧ QV ok H vc x := by
  obtain ⟨ca, h1, h2⟩ := h
  have hl := (List.getElem?_eq_some_iff.1 hi).1
  obtain ⟨b, o, cap, e, ob, hb, hs⟩ := h1.at hl
  obtain ⟨c, hc, vc, rfl, i1⟩ := h2.get hi
  have l1 : H.loadN b (o + i * 1) 1 = some [vc] := by rw [hs _ _ (by omega)]; exact hc
  have l2 := loadN_get l1 (i := 0) (by omega)
  rw [Nat.mul_one] at l2
  exact ⟨b, o, cap, vc, e, ob, hb, by simpa using l2, i1⟩
def ThV (ok : Nat → Prop) (H : AH) (v : AV) (l : List Th) : Prop := ∃ ca, SlC ok H v l.length 2 ca ∧ LF 2 (ThC ok H) l ca
theorem ThV.mono {ok ok' : Nat → Prop} {H H' v l} (h : ThV ok H v l) (hn : H.n ≤ H'.n) (hk : ∀ b, ok b → b < H.n → H'.bk b = H.bk b) (ho : ∀ b, ok b → b < H.n → ok' b) : ThV ok' H' v l := by
  obtain ⟨ca, h1, h2⟩ := h
  exact ⟨ca, h1.mono hn hk ho, h2.imp fun c a h => h.mono hn hk ho⟩
theorem ThV.ext {ok H H' c t} (h : ThV ok H c t) (k : Ext H H') : ThV ok H' c t := h.mono k.1 (fun b _ hb => k.2 b hb) (fun _ h _ => h)
theorem ThV.alen {ok H v l} (h : ThV ok H v l) : alen v = some l.length := h.choose_spec.1.alen
theorem ThV.flat {ok H v l} (h : ThV ok H v l) : v.flat = true := h.choose_spec.1.flat
theorem ThV.big {ok H v l} (h : ThV ok H v l) : l.length ≤ 8589934592 := h.choose_spec.1.1
theorem ThV.at {ok H v l} (h : ThV ok H v l) {i : Nat} {x : Th} (hi : l[i]? = some x) : ∃ b o cap vr, v = .sl b o l.length cap ∧ ok b ∧ b < H.n ∧ H.loadN b (o + i * 2) 2 = some [vr, .I x.pc] ∧ IV ok H vr x.regs := by
  obtain ⟨ca, h1, h2⟩ := h
  have hl := (List.getElem?_eq_some_iff.1 hi).1
  obtain ⟨b, o, cap, e, ob, hb, hs⟩ := h1.at hl
  obtain ⟨c, hc, vr, rfl, i1⟩ := h2.get hi
  exact ⟨b, o, cap, vr, e, ob, hb, by rw [hs _ _ (by omega)]; exact hc, i1⟩
structure Cw where
  codes : List (List Qd)
  threads : List Th
  boxes : List Bx
  turn : Int
  idle : Int
  out : List Int
deriving DecidableEq, Inhabited
def CwC (ok : Nat → Prop) (H : AH) (c : List AV) (w : Cw) : Prop := ∃ vc vt vb vo, c = [vc, vt, vb, .I w.turn, .I w.idle, vo] ∧ CLV ok H vc w.codes ∧ ThV ok H vt w.threads ∧ BV ok H vb w.boxes ∧ IV ok H vo w.out
theorem CwC.mono {ok ok' : Nat → Prop} {H H' c t} (h : CwC ok H c t) (hn : H.n ≤ H'.n) (hk : ∀ b, ok b → b < H.n → H'.bk b = H.bk b) (ho : ∀ b, ok b → b < H.n → ok' b) : CwC ok' H' c t := by
  obtain ⟨vc, vt, vb, vo, e, h0, h1, h2, h3⟩ := h
  exact ⟨vc, vt, vb, vo, e, h0.mono hn hk ho, h1.mono hn hk ho, h2.mono hn hk ho, h3.mono hn hk ho⟩
theorem CwC.ext {ok H H' c t} (h : CwC ok H c t) (k : Ext H H') : CwC ok H' c t := h.mono k.1 (fun b _ hb => k.2 b hb) (fun _ h _ => h)
def vaTh (many : Int) (p : List Qd × Th) : Bool := codeV p.1 && thFit p.2 p.1.length && p.1.all (boxQ many)
def vaCw (w : Cw) : Bool := decide (1 ≤ w.codes.length ∧ w.codes.length ≤ 3 ∧ 0 ≤ w.turn ∧ w.turn < w.codes.length ∧ 0 ≤ w.idle ∧ w.idle ≤ w.codes.length) && w.out.all isW && decide (w.threads.length = w.codes.length) && vaBs w.boxes && (w.codes.zip w.threads).all (vaTh w.boxes.length)
section
variable {ok : Nat → Prop} {H : AH} {K : AV → AH → Prop} {wf : Fk K} {v : AV} {l : List Qd}
theorem K_iCrewValid_l1 {many : Nat} {vt vb vcs x0 x3 x4 x5 : AV} {P : Nat} {mv iv : AV} {Q : Out → Env → AH → Prop} (h2 : ∀ e H, Q .ret e H = bindO (get e 2) fun v => K v H) (hvb : alen vb = some many) (hmb : many ≤ 100) (m i : Nat) (hm : i + m = l.length) (h : QV ok H v l) (hP : P < H.n) (gP : H.bk P = some ⟨[x0, vt, vb, x3, x4, x5], true⟩)
    (hbad : (l.drop i).all (boxQ many) = false → ∀ H', Ext H H' → K (.b false) H')
    (hQ : (l.drop i).all (boxQ many) = true → ∀ e H', Ext H H' → get e 1 = some (.ptr P 0) → get e 34 = some vcs → get e 35 = some mv → get e 36 = some iv → Q (.brk 2) e H') :
    W Cd (.loop c_iCrewValid_l1) [(1, .ptr P 0), (34, vcs), (35, mv), (36, iv), (49, v), (50, .I l.length), (51, .I i)] H Q := by
  have hbig := h.big
  induction m generalizing i H with
  | zero =>
    rw [W_loop_as c_iCrewValid_l1.eq_1]
    have : i = l.length := by omega
    subst this
    simp
    exact hQ (by simp) _ H (Ext.refl _) rfl rfl rfl rfl
  | succ m ih =>
    rw [W_loop_as c_iCrewValid_l1.eq_1]
    have hlt : i < l.length := by omega
    have hlt' : (i : Int) < l.length := by omega
    obtain ⟨q, hq⟩ : ∃ q, l[i]? = some q := ⟨_, List.getElem?_eq_getElem hlt⟩
    obtain ⟨b, o, cap, e1, ob, hbn, l1⟩ := h.at hq
    have h0 := h
    subst e1
    have st : (H.push [.I 0, .I 0, .I 0, .I 0, .I 0]).store H.n 0 (qC q) = some (H.push (qC q)) := by
      rw [store_bk push_new (by simp [qC]), push_put]; rfl
    have q1 : (H.push (qC q)).loadN H.n 0 5 = some (qC q) := by rw [loadN_bk push_new]; rfl
    have x1 := Ext.push H (qC q)
    have e5 : (qC q).length = 5 := rfl
    have gP1 := (x1.2 P hP).trans gP
    simp (disch := omega) [hlt', l1, st, q1, e5, load_bk gP1, hvb]
    refine K_iboxThere fun H2 x2 => ?_
    rw [all_dropB hq] at hbad hQ
    cases hv : boxQ many q with
    | false =>
      simp [h2]
      exact hbad (by rw [hv]; rfl) _ (x1.trans x2)
    | true =>
      rw [hv] at hbad hQ
      simp (disch := omega)
      have := ih (i + 1) (by omega) (H := H2) (h0.ext (x1.trans x2)) (by have := (x1.trans x2).1; omega) (((x1.trans x2).2 P hP).trans gP) (fun hb H' x => hbad (by simpa using hb) H' ((x1.trans x2).trans x)) (fun hb e H' x a1 a2 a3 a4 => hQ (by simpa using hb) e H' ((x1.trans x2).trans x) a1 a2 a3 a4)
      simpa using this
theorem zip_get {α β : Type} {a : List α} {b : List β} {i : Nat} {x : α} {y : β} (ha : a[i]? = some x) (hb : b[i]? = some y) : (a.zip b)[i]? = some (x, y) := by
  rw [List.getElem?_zip_eq_some]; exact ⟨ha, hb⟩
theorem K_iCrewValid_l0 {w : Cw} {vc vt vb x3 x4 x5 : AV} {P : Nat} {Q : Out → Env → AH → Prop} (h1 : ∀ e G, Q (.brk 0) e G = K (.b true) G) (h2 : ∀ e H, Q .ret e H = bindO (get e 2) fun v => K v H) (hvb : alen vb = some w.boxes.length) (hmb : w.boxes.length ≤ 100) (hlen : w.threads.length = w.codes.length)
    (m i : Nat) (hm : i + m = w.codes.length) (hP : P < H.n) (gP : H.bk P = some ⟨[vc, vt, vb, x3, x4, x5], true⟩) (hc : CLV ok H vc w.codes) (ht : ThV ok H vt w.threads)
    (k : ∀ H', Ext H H' → K (.b (((w.codes.zip w.threads).drop i).all (vaTh w.boxes.length))) H') :
    W Cd (.loop c_iCrewValid_l0) [(1, .ptr P 0), (34, vc), (35, .I w.codes.length), (36, .I i)] H Q := by
  have hbig := hc.big
  induction m generalizing i H with
  | zero =>
    rw [W_loop_as c_iCrewValid_l0.eq_1]
    have : i = w.codes.length := by omega
    subst this
    simp [h1]
    have := k H (Ext.refl _)
    rwa [List.drop_eq_nil_of_le (by simp; omega)] at this
  | succ m ih =>
    rw [W_loop_as c_iCrewValid_l0.eq_1]
    have hlt : i < w.codes.length := by omega
    have hlt' : (i : Int) < w.codes.length := by omega
    have hlt2 : (i : Int) < w.threads.length := by omega
    obtain ⟨l, hl⟩ : ∃ l, w.codes[i]? = some l := ⟨_, List.getElem?_eq_getElem hlt⟩
    obtain ⟨t, htt⟩ : ∃ t, w.threads[i]? = some t := ⟨_, List.getElem?_eq_getElem (by omega)⟩
    obtain ⟨b, o, cap, vl, e1, ob, hbn, l1, q1⟩ := hc.at hl
    obtain ⟨b', o', cap', vr, e2, ob', hbn', l2, i2⟩ := ht.at htt
    have hc0 := hc
    have ht0 := ht
    subst e1
    subst e2
    simp (disch := omega) [hlt', hlt2, l1, load_bk gP, l2]
    refine K_iThreadValid (t := t) ⟨vr, rfl, i2⟩ q1 fun H2 x2 => ?_
    have gP2 := (x2.2 P hP).trans gP
    have hP2 : P < H2.n := by have := x2.1; omega
    rw [all_dropB (zip_get hl htt)] at k
    rw [show vaTh w.boxes.length (l, t) = (codeV l && thFit t l.length && l.all (boxQ w.boxes.length)) from rfl] at k
    cases hv : codeV l && thFit t l.length with
    | false =>
      simp [h2]
      have := k H2 x2
      rw [hv] at this
      simpa using this
    | true =>
      rw [hv] at k
      have ql := q1.ext x2
      simp (disch := omega) [ql.alen]
      have := K_iCrewValid_l1 (K := K) (many := w.boxes.length) (vcs := .sl b o w.codes.length cap) (mv := .I w.codes.length) (iv := .I i) (Q := ?_) ?_ hvb hmb l.length 0 (by omega) ql hP2 gP2 (fun hb H' x => by
        have := k H' (x2.trans x)
        simp only [List.drop_zero] at hb
        rw [hb] at this
        simpa using this) ?_
      · simpa using this
      · intro e G; simp [h2]
      · intro hb e G x a1 a2 a3 a4
        simp only [List.drop_zero] at hb
        rw [hb] at k
        simp (disch := omega) [a1, a2, a3, a4]
        have := ih (i + 1) (by omega) (H := G) (by have := x.1; omega) ((x.2 P hP2).trans gP2) (hc0.ext (x2.trans x)) (ht0.ext (x2.trans x)) (fun H' x' => by
          have := k H' ((x2.trans x).trans x')
          simpa using this)
        simpa using this
theorem K_iCrewValid {c : List AV} {w : Cw} (h : CwC ok H c w) (hbl : w.boxes.length ≤ 100) (k : ∀ H', Ext H H' → K (.b (vaCw w)) H') : CallF Cd f_iCrewValid [.agg c] H K wf := by
  obtain ⟨vc, vt, vb, vo, rfl, h0, h1, h2, h3⟩ := h
  rw [CallF_eq e_iCrewValid rfl]
  have x0 := Ext.push H [vc, vt, vb, .I w.turn, .I w.idle, vo]
  have q0 : (H.push [vc, vt, vb, .I w.turn, .I w.idle, vo]).bk H.n = some ⟨[vc, vt, vb, .I w.turn, .I w.idle, vo], true⟩ := push_new
  have hbig := h0.big
  have hbig1 := h1.big
  simp [load_bk q0, h0.alen, h1.alen]
  refine K_iturnsValid (h3.ext x0).sees ?_
  have e2 : decide (1 ≤ w.codes.length ∧ w.codes.length ≤ 3 ∧ 0 ≤ w.turn ∧ w.turn < w.codes.length ∧ 0 ≤ w.idle ∧ w.idle ≤ w.codes.length) = decide (1 ≤ (w.codes.length : Int) ∧ (w.codes.length : Int) ≤ 3 ∧ 0 ≤ w.turn ∧ w.turn < w.codes.length ∧ 0 ≤ w.idle ∧ w.idle ≤ w.codes.length) := by
    apply decide_eq_decide.2; omega
  unfold vaCw at k
  rw [e2] at k
  cases hv : (decide (1 ≤ (w.codes.length : Int) ∧ (w.codes.length : Int) ≤ 3 ∧ 0 ≤ w.turn ∧ w.turn < w.codes.length ∧ 0 ≤ w.idle ∧ w.idle ≤ w.codes.length) && w.out.all isW) with
  | false =>
    simp
    have := k _ x0
    rw [hv] at this
    simpa using this
  | true =>
    rw [hv] at k
    by_cases hlen : w.threads.length = w.codes.length
    case neg =>
      have hlen' : ¬ (w.threads.length : Int) = w.codes.length := by omega
      simp [load_bk q0, h0.alen, h1.alen, hlen']
      have := k _ x0
      rw [decide_eq_false hlen] at this
      simpa using this
    rw [decide_eq_true hlen] at k
    have hlen' : (w.threads.length : Int) = w.codes.length := by omega
    simp [load_bk q0, h0.alen, h1.alen, hlen']
    refine K_iboxesValid (h2.ext x0) fun H1 x1 => ?_
    have y1 := x0.trans x1
    have q1 := (x1.2 _ (by simp)).trans q0
    cases hb : vaBs w.boxes with
    | false =>
      simp
      have := k _ y1
      rw [hb] at this
      simpa using this
    | true =>
      rw [hb] at k
      simp [load_bk q1, h0.alen]
      have := K_iCrewValid_l0 (K := K) (w := w) (Q := ?_) ?_ ?_ h2.alen hbl hlen w.codes.length 0 (by omega) (by have := x1.1; simp at this; omega) q1 (h0.ext y1) (h1.ext y1) (fun H' x' => by
        have := k H' (y1.trans x')
        simpa using this)
      · simpa using this
      · intro e G; simp
      · intro e G; simp
end
end Go.Proofs.YtmecbehegmgbhaaGreat.AM
namespace Go.Proofs.YtmecbehegmgbhaaGreat.AM
set_option linter.unusedSimpArgs false
set_option linter.unusedVariables false
set_option maxRecDepth 100000
set_option maxHeartbeats 4000000
open Go
attribute [-simp] AM.elems
theorem GrS.qv {base G v l B} (h : GrS base G v l.length 5 (qCs l) B) : QV (fun b => base ≤ b) G v l := h.slc
theorem GrS.qvB {base G v B} {l : List Qd} (h : GrS base G v l.length 5 (qCs l) B) {ok : Nat → Prop} (hok : base ≤ B → B < G.n → ok B) : QV ok G v l := h.ivB hok
section
variable {ok : Nat → Prop} {H : AH} {K : AV → AH → Prop} {w : Fk K} {v : AV}
theorem K_cloneQ {l : List Qd} (h : QV ok H v l) (hl : l.length ≤ 1000000) (k : ∀ v' H' B, GrS H.n H' v' l.length 5 (qCs l) B → Ext H H' → K v' H') : CallF Cd f_slices_Clone_iQuad_iQuad [v] H K w := by
  rw [CallF_eq e_slices_Clone_iQuad_iQuad rfl]
  have h1 := h.ext (Ext.push H [])
  have e1 := h1.elems
  have e2 := h1.alen
  have hg : GrS H.n (H.push []) (.sl H.n 0 0 (.ex 0)) 0 5 [] H.n := ⟨by omega, by simp, .inr ⟨Nat.le_refl _, Nat.lt_succ_self _, .inl ⟨rfl, push_new⟩⟩⟩
  obtain ⟨v', H', B, a1, a2, a3, a4⟩ := hg.app (by simp) (k := l.length) (new := qCs l) qCs_len (by omega)
  rw [Nat.zero_add, List.nil_append] at a2
  have x : Ext H H' := ⟨by have := a4.1; simp at this; omega, fun b hb => (a4.2 b (by simp; omega) (by simp [grB]; omega)).trans (push_old hb rfl)⟩
  obtain ⟨h0, hc, ⟨h2, h3⟩ | ⟨b, o, cap, rfl, h4⟩⟩ := id h
  · have hl0 : l = [] := List.eq_nil_of_length_eq_zero h2
    subst hl0
    rcases h3 with rfl | ⟨b, o, cap, rfl⟩
    · simp
      exact k _ H 0 GrS.nils (Ext.refl _)
    · simp only [List.length_nil] at a1
      simp [-AM.elems, e1, e2, a1]
      exact k _ _ B a2 x
  · simp [-AM.elems, e1, e2, a1]
    exact k _ _ B a2 x
theorem K_icodesCopy_l {l : List (List Qd)} (hll : l.length ≤ 1000) (hit : ∀ x ∈ l, x.length ≤ 1000000) {base : Nat} {v : AV}
    {Q : Out → Env → AH → Prop} (m i : Nat) (him : i + m = l.length) {G : AH} {g : AV} {cs : List AV} {B : Nat} (hb : base ≤ G.n) (hv : CLV (fun b => b < base) G v l) (hg : GrS base G g i 1 cs B)
    (he : LF 1 (CLc (fun b => base ≤ b ∧ b ≠ B) G) (l.take i) cs)
    (hQ : ∀ e G' g' cs' B', GrS base G' g' l.length 1 cs' B' → LF 1 (CLc (fun b => base ≤ b ∧ b ≠ B') G') l cs' → (∀ b, b < base → G'.bk b = G.bk b) → G.n ≤ G'.n → get e 3 = some g' → Q (.brk 0) e G') :
    W Cd (.loop c_icodesCopy_l0) [(3, g), (6, v), (7, .I l.length), (8, .I i)] G Q := by
  induction m generalizing i G g cs B with
  | zero =>
    rw [W_loop_as c_icodesCopy_l0.eq_1]
    have hi : i = l.length := by omega
    subst hi
    simp
    rw [List.take_length] at he
    exact hQ _ G g cs B hg he (fun _ _ => rfl) (Nat.le_refl _) rfl
  | succ m ihm =>
    rw [W_loop_as c_icodesCopy_l0.eq_1]
    have hi : i < l.length := by omega
    obtain ⟨s, hs⟩ : ∃ s, l[i]? = some s := ⟨_, List.getElem?_eq_getElem hi⟩
    have hmem := List.mem_of_getElem? hs
    obtain ⟨b, o, cap, vc, rfl, ob, hbn, l1, qv⟩ := hv.at hs
    generalize hL : l.length = L at *
    have hlt : (i : Int) < L := by omega
    simp (disch := omega) [hlt, l1]
    refine K_cloneQ qv (hit s hmem) fun vi' H1 B1 g1 x1 => ?_
    have f1 := g1.flat
    have x7 := Ext.push H1 [vi']
    obtain ⟨g', G', B', a1, a2, a3, a4, a5, a6⟩ := LF.snoc (E := CLc) (fun h => h.mono) hs hg he hb (x1.trans x7) rfl
      (show CLc (fun b => G.n ≤ b) (H1.push [vi']) [vi'] s from ⟨vi', rfl, g1.qv.ext x7⟩) (by omega)
    have n1 := x1.1
    simp only [push_n] at n1 a5
    simp (disch := omega) [x1, flat_cells f1, flat_tup f1, AM.elems, loadN_push, a1]
    have := ihm (i + 1) (by omega) (G := G') (by omega) (hv.mono (by omega) (fun b hb' _ => a4 b hb') (fun _ h _ => h)) a2 a3 (fun e G2 g2 cs2 B2 u1 u2 u3 u4 u5 => hQ e G2 g2 cs2 B2 u1 u2 (fun b hb' => (u3 b hb').trans (a4 b hb')) (by omega) u5)
    simpa using this
theorem K_icodesCopy {l : List (List Qd)} (h : CLV ok H v l) (hl : l.length ≤ 1000) (hit : ∀ x ∈ l, x.length ≤ 1000000) (k : ∀ v' H', CLV (fun b => H.n ≤ b) H' v' l → Ext H H' → v'.flat = true → K v' H') : CallF Cd f_icodesCopy [v] H K w := by
  rw [CallF_eq e_icodesCopy rfl]
  have hbig := h.big
  simp (disch := omega) [h.alen]
  have := K_icodesCopy_l hl hit (Q := ?_) l.length 0 (by omega) (base := H.n) (G := H) (g := .nils) (cs := []) (B := H.n) (v := v) (Nat.le_refl _)
    (h.mono (Nat.le_refl _) (fun b _ hb => rfl) (fun b _ hb => hb)) GrS.nils rfl ?_
  · simpa using this
  · intro e G g cs B u1 u2 u3 u4 u5
    simp [u5]
    exact k g G ⟨cs, u1.slc, u2.imp fun c a h => h.mono (Nat.le_refl _) (fun _ _ _ => rfl) (fun b hb _ => hb.1)⟩ ⟨u4, u3⟩ u1.flat
end
end Go.Proofs.YtmecbehegmgbhaaGreat.AM
namespace Go.Proofs.YtmecbehegmgbhaaGreat.AM
set_option linter.unusedSimpArgs false
set_option linter.unusedVariables false
set_option maxRecDepth 100000
set_option maxHeartbeats 4000000
open Go
attribute [-simp] AM.elems
def cellsT : List Th → List (AV × Nat) → List AV
  | t :: ts, q :: qs => q.1 :: .I t.pc :: cellsT ts qs
  | _, _ => []
theorem cellsT_app : ∀ {l : List Th} {r : List (AV × Nat)} {t : Th} {q : AV × Nat}, r.length = l.length → cellsT (l ++ [t]) (r ++ [q]) = cellsT l r ++ [q.1, .I t.pc]
  | [], [], _, _, _ => rfl
  | [], q :: r, _, _, h => by simp at h
  | t :: l, [], _, _, h => by simp at h
  | t :: l, q :: r, _, _, h => by
    have := cellsT_app (l := l) (r := r) (t := ‹Th›) (q := ‹AV × Nat›) (by simpa using h)
    simp [cellsT, this]
theorem cellsT_get : ∀ {l : List Th} {r : List (AV × Nat)} {i : Nat} {x : Th} {p : AV × Nat} {ex : List AV}, l[i]? = some x → r[i]? = some p → seg (cellsT l r ++ ex) (i * 2) 2 = some [p.1, .I x.pc]
  | [], _, i, x, p, ex, h, _ => by simp at h
  | t :: l, [], i, x, p, ex, _, h => by simp at h
  | t :: l, q :: r, 0, x, p, ex, h1, h2 => by
    simp at h1 h2
    subst h1; subst h2
    unfold seg
    rw [if_pos (by simp [cellsT])]
    simp [cellsT]
  | t :: l, q :: r, i + 1, x, p, ex, h1, h2 => by
    have := cellsT_get (l := l) (r := r) (i := i) (x := x) (p := p) (ex := ex) (by simpa using h1) (by simpa using h2)
    rw [← this]
    unfold seg
    have e : (i + 1) * 2 = i * 2 + 2 := by omega
    have hl : (cellsT (t :: l) (q :: r) ++ ex).length = (cellsT l r ++ ex).length + 2 := by simp [cellsT]
    rw [e, hl]
    have e2 : (cellsT (t :: l) (q :: r) ++ ex).drop (i * 2 + 2) = (cellsT l r ++ ex).drop (i * 2) := by simp [cellsT]
    rw [e2]
    by_cases hq : i * 2 + 2 ≤ (cellsT l r ++ ex).length
    · rw [if_pos hq, if_pos (by omega)]
    · rw [if_neg hq, if_neg (by omega)]
def RgT (lo : Nat) (G : AH) (ths : List Th) (qs : List (AV × Nat)) (bad : List Nat) : Prop :=
  (∀ (i : Nat) (t : Th) (q : AV × Nat), ths[i]? = some t → qs[i]? = some q → GrS lo G q.1 12 1 (Ints t.regs) q.2 ∧ q.2 ∉ bad ∧ q.2 < G.n ∧ lo ≤ q.2) ∧
  (∀ (i j : Nat) (q q' : AV × Nat), i ≠ j → qs[i]? = some q → qs[j]? = some q' → q.2 ≠ q'.2)
theorem RgT.only {lo G G' ths qs bad cs} (h : RgT lo G ths qs bad) (k : Only cs G G') (hlen : qs.length = ths.length) (hc : ∀ b ∈ cs, b ∈ bad ∨ b < lo ∨ G.n ≤ b) : RgT lo G' ths qs bad :=
  ⟨fun i t q ht hq => by
    obtain ⟨a1, a2, a3, a4⟩ := h.1 i t q ht hq
    exact ⟨a1.only k (fun b hb => by
      rcases hc b hb with z | z | z
      · exact .inr (fun e => a2 (by rw [← e]; exact z))
      · exact .inl z
      · exact .inr (by omega)), a2, Nat.lt_of_lt_of_le a3 k.1, a4⟩, h.2⟩
theorem RgT.bad {lo G ths qs bad bad'} (h : RgT lo G ths qs bad) (hb : ∀ b ∈ bad', b ∈ bad ∨ G.n ≤ b) : RgT lo G ths qs bad' :=
  ⟨fun i t q ht hq => by
    obtain ⟨a1, a2, a3, a4⟩ := h.1 i t q ht hq
    exact ⟨a1, fun hm => by rcases hb _ hm with z | z; exact a2 z; omega, a3, a4⟩, h.2⟩
theorem GrS.real {base G v n sz cs B} (h : GrS base G v n sz cs B) (hn : 0 < n) : base ≤ B ∧ B < G.n ∧ grB v B = [B] := by
  obtain ⟨_, _, ⟨_, h0⟩ | ⟨h1, h2, ⟨rfl, _⟩ | ⟨c, ex, rfl, _⟩⟩⟩ := h
  · omega
  · exact ⟨h1, h2, rfl⟩
  · exact ⟨h1, h2, rfl⟩
section
variable {K : AV → AH → Prop}
theorem K_iCrewRun_l0 {ths : List Th} (h12 : ∀ t ∈ ths, t.regs.length = 12) (hl3 : ths.length ≤ 3) {vts vc vb vo : AV} {Pc P4 P6 base lo : Nat} {nn : AV} {Q : Out → Env → AH → Prop} (hbl : base ≤ lo) (h6 : base ≤ P6 ∧ P6 < lo)
    (m i : Nat) (hm : i + m = ths.length) {G : AH} {g : AV} {qs : List (AV × Nat)} {T : Nat} (hlo : lo ≤ G.n) (hv : ThV (fun b => b < base) G vts ths) (g6 : G.bk P6 = some ⟨[vc, g, vb, .I 0, .I 0, vo], true⟩)
    (hql : qs.length = i) (hg : GrS lo G g i 2 (cellsT (ths.take i) qs) T) (hr : RgT lo G (ths.take i) qs (grB g T))
    (hQ : ∀ e G' g' qs' T', qs'.length = ths.length → GrS lo G' g' ths.length 2 (cellsT ths qs') T' → RgT lo G' ths qs' (grB g' T') → G'.bk P6 = some ⟨[vc, g', vb, .I 0, .I 0, vo], true⟩ → (∀ b, b < lo → b ≠ P6 → G'.bk b = G.bk b) → G.n ≤ G'.n →
      get e 1 = some nn → get e 2 = some (.ptr Pc 0) → get e 4 = some (.ptr P4 0) → get e 6 = some (.ptr P6 0) → Q (.brk 0) e G') :
    W Cd (.loop c_iCrewRun_l0) [(1, nn), (2, .ptr Pc 0), (4, .ptr P4 0), (6, .ptr P6 0), (32, vts), (33, .I ths.length), (34, .I i)] G Q := by
  induction m generalizing i G g qs T with
  | zero =>
    rw [W_loop_as c_iCrewRun_l0.eq_1]
    have : i = ths.length := by omega
    subst this
    simp
    rw [List.take_length] at hg hr
    exact hQ _ G g qs T hql hg hr g6 (fun _ _ _ => rfl) (Nat.le_refl _) rfl rfl rfl rfl
  | succ m ih =>
    rw [W_loop_as c_iCrewRun_l0.eq_1]
    have hlt : i < ths.length := by omega
    have hlt' : (i : Int) < ths.length := by omega
    obtain ⟨t, htt⟩ : ∃ t, ths[i]? = some t := ⟨_, List.getElem?_eq_getElem hlt⟩
    obtain ⟨b, o, cap, vr, e1, ob, hbn, l1, iv⟩ := hv.at htt
    have hv0 := hv
    subst e1
    have x0 := Ext.push G [vr, .I t.pc]
    have st0 : (G.push [.nils, .I 0]).store G.n 0 [vr, .I t.pc] = some (G.push [vr, .I t.pc]) := by rw [store_bk push_new (by simp), push_put]; rfl
    have q0 : (G.push [vr, .I t.pc]).bk G.n = some ⟨[vr, .I t.pc], true⟩ := push_new
    have g60 := (x0.2 P6 (by omega)).trans g6
    have ht12 := h12 t (List.mem_of_getElem? htt)
    simp (disch := omega) [hlt', l1, st0, load_bk q0, load_bk g60]
    refine K_cloneG (iv.ext x0).src (by omega) fun vr' H1 R g1 x1 => ?_
    have n1 := x1.1
    simp only [push_n] at n1
    have f1 := g1.flat
    rw [ht12] at g1
    obtain ⟨R1, R2, R3⟩ := g1.real (by omega)
    simp only [push_n] at R1
    have x2 := (x0.trans x1).trans (Ext.push H1 [vr', .I t.pc])
    have q1 : H1.bk G.n = some ⟨[vr, .I t.pc], true⟩ := (x1.2 _ (by simp)).trans q0
    obtain ⟨g', G', T', a1, a2, a3, a4⟩ := (hg.ext x2).app (k := 1) (new := [vr', .I t.pc]) (by simp; omega) rfl (by omega)
    have hgm : ∀ b, b ∈ grB g T → b = T ∧ lo ≤ T ∧ T < G.n := fun b hb => hg.mem hb
    have fg := a2.flat
    have g6' : G'.bk P6 = some ⟨[vc, g, vb, .I 0, .I 0, vo], true⟩ := (a4.2 P6 (by simp; omega) (fun hm => by have := hgm _ hm; omega)).trans ((x2.2 P6 (by omega)).trans g6)
    have st := store_cell (v := g') g6' (o := 1) (by simp)
    simp only [List.set_cons_zero, List.set_cons_succ] at st
    have n4 := a4.1
    simp only [push_n] at n4 a3
    have gg : ∀ b, b < G.n → b ∉ grB g T → b ≠ P6 → (G'.put P6 (some ⟨[vc, g', vb, .I 0, .I 0, vo], true⟩)).bk b = G.bk b := fun b hb h1 h2 => by
      rw [put_bk, if_neg h2, a4.2 b (by simp; omega) h1, x2.2 b hb]
    have o6 : Only [P6] G' (G'.put P6 (some ⟨[vc, g', vb, .I 0, .I 0, vo], true⟩)) := Only.refl.put (by simp)
    have wall : Only (P6 :: grB g T) G (G'.put P6 (some ⟨[vc, g', vb, .I 0, .I 0, vo], true⟩)) := ⟨by simp; omega, fun b hb hm => by simp at hm; exact gg b hb hm.2 hm.1⟩
    simp (disch := omega) [x1, load_bk q1, flat_cells f1, flat_tup f1, AM.elems, loadN_push, a1, flat_cells fg, flat_tup fg, st]
    have htake : ths.take (i + 1) = ths.take i ++ [t] := by rw [List.take_add_one, htt]; rfl
    have hlen : qs.length = (ths.take i).length := by rw [List.length_take]; omega
    have hT' : ∀ b ∈ grB g' T', b ∈ grB g T ∨ H1.n + 1 ≤ b := fun b hb => by
      have := grB_sub hb
      rcases a3 with ⟨z1, z2⟩ | z
      · exact .inl (by rw [this, z1]; exact z2)
      · exact .inr (by omega)
    have hge : (vr', R).2 = R := rfl
    have := ih (i + 1) (by omega) (G := G'.put P6 (some ⟨[vc, g', vb, .I 0, .I 0, vo], true⟩)) (g := g') (qs := qs ++ [(vr', R)]) (T := T') (by simp; omega)
      (hv0.mono (by simp; omega) (fun b hb hn => gg b hn (fun hm => by have := hgm _ hm; omega) (by omega)) (fun _ h _ => h)) put_same (by simp [hql])
      (by rw [htake, cellsT_app hlen]; exact a2.only o6 (fun b hb => .inl (by simp at hb; omega)))
      (by
        rw [htake]
        have s0 : RgT lo G (ths.take i) qs (grB g T ++ grB g' T') := hr.bad (fun b hb => by
          rcases List.mem_append.1 hb with z | z
          · exact .inl z
          · rcases hT' b z with y | y
            · exact .inl y
            · exact .inr (by omega))
        have s1 : RgT lo (G'.put P6 (some ⟨[vc, g', vb, .I 0, .I 0, vo], true⟩)) (ths.take i) qs (grB g' T') :=
          (s0.only wall hlen (fun b hb => by
            rcases List.mem_cons.1 hb with z | z
            · exact .inr (.inl (by omega))
            · exact .inl (List.mem_append_left _ z))).bad (fun b hb => .inl (List.mem_append_right _ hb))
        have gR : GrS lo (G'.put P6 (some ⟨[vc, g', vb, .I 0, .I 0, vo], true⟩)) vr' 12 1 (Ints t.regs) R :=
          (((g1.up (by simp; omega)).ext (Ext.push H1 [vr', .I t.pc])).only a4 (fun b hb => .inr (fun e => by have := hgm b hb; omega))).only o6 (fun b hb => .inl (by simp at hb; omega))
        refine ⟨fun j t' q' hj hq => ?_, fun j k q q' hjk hj hk => ?_⟩
        · by_cases hji : j < (ths.take i).length
          · rw [List.getElem?_append_left hji] at hj
            rw [List.getElem?_append_left (by omega)] at hq
            exact s1.1 j t' q' hj hq
          · rw [List.getElem?_append_right (by omega)] at hj
            rw [List.getElem?_append_right (by omega), hlen] at hq
            have h0 : j - (ths.take i).length = 0 := by
              have := (List.getElem?_eq_some_iff.1 hj).1
              simp only [List.length_singleton] at this
              omega
            rw [h0] at hj hq
            simp at hj hq
            subst hj; subst hq
            exact ⟨gR, fun hm => by rcases hT' _ hm with z | z; have := hgm _ z; simp only at *; omega; simp only at *; omega, by simp; omega, by simp only; omega⟩
        · have key : ∀ j q, (qs ++ [(vr', R)])[j]? = some q → (j < qs.length ∧ q.2 < G.n ∧ qs[j]? = some q) ∨ (j = qs.length ∧ q.2 = R) := fun j q hj => by
            by_cases hji : j < qs.length
            · rw [List.getElem?_append_left hji] at hj
              obtain ⟨y, hy⟩ : ∃ y, (ths.take i)[j]? = some y := ⟨_, List.getElem?_eq_getElem (by omega)⟩
              exact .inl ⟨hji, (hr.1 j y q hy hj).2.2.1, hj⟩
            · rw [List.getElem?_append_right (by omega)] at hj
              have h0 : j - qs.length = 0 := by
                have := (List.getElem?_eq_some_iff.1 hj).1
                simp only [List.length_singleton] at this
                omega
              rw [h0] at hj
              simp at hj
              exact .inr ⟨by omega, by rw [← hj]⟩
          rcases key j q hj with ⟨u1, u2, u3⟩ | ⟨u1, u2⟩ <;> rcases key k q' hk with ⟨v1, v2, v3⟩ | ⟨v1, v2⟩
          · exact hr.2 j k q q' hjk u3 v3
          · omega
          · omega
          · omega)
      (fun e G2 g2 qs2 T2 z1 z2 z3 z4 z5 z6 w1 w2 w3 w4 => hQ e G2 g2 qs2 T2 z1 z2 z3 z4 (fun b hb h2 => (z5 b hb h2).trans (gg b (by omega) (fun hm => by have := hgm _ hm; omega) h2)) (by simp at z6; omega) w1 w2 w3 w4)
    simpa using this
end
end Go.Proofs.YtmecbehegmgbhaaGreat.AM
namespace Go.Proofs.YtmecbehegmgbhaaGreat.AM
set_option linter.unusedSimpArgs false
set_option linter.unusedVariables false
set_option maxRecDepth 100000
set_option maxHeartbeats 4000000
open Go
attribute [-simp] AM.elems
def qAt (codes : List (List Qd)) (ths : List Th) (t : Int) : Option (Qd × Th) :=
  match ths[t.toNat]?, codes[t.toNat]? with
  | some x, some l => (l[x.pc.toNat]?).map fun q => (q, x)
  | _, _ => none
def stepC (c : Cw) : Cw :=
  match qAt c.codes c.threads c.turn with
  | none => c
  | some (q, x) => ⟨c.codes, c.threads.set c.turn.toNat (stepQ q x c.boxes).1, (stepQ q x c.boxes).2.1, (nextT c.threads.length c.turn c.idle (stepQ q x c.boxes).2.2.2).1, (nextT c.threads.length c.turn c.idle (stepQ q x c.boxes).2.2.2).2, c.out ++ (stepQ q x c.boxes).2.2.1⟩
def runC : Nat → Cw → Cw
  | 0, c => c
  | n + 1, c => if c.idle < c.threads.length then runC n (stepC c) else c
theorem zip_all {α β : Type} {f : α × β → Bool} : ∀ {a : List α} {b : List β}, (a.zip b).all f = true ↔ ∀ (i : Nat) (x : α) (y : β), a[i]? = some x → b[i]? = some y → f (x, y) = true
  | [], b => by simp
  | x :: a, [] => by simp
  | x :: a, y :: b => by
    simp only [List.zip_cons_cons, List.all_cons, Bool.and_eq_true, zip_all (a := a) (b := b)]
    constructor
    · intro h i u v hu hv
      cases i with
      | zero => simp at hu hv; subst hu; subst hv; exact h.1
      | succ i => exact h.2 i u v (by simpa using hu) (by simpa using hv)
    · intro h
      exact ⟨h 0 x y rfl rfl, fun i u v hu hv => h (i + 1) u v (by simpa using hu) (by simpa using hv)⟩
theorem vaTh_iff {many : Int} {l : List Qd} {t : Th} : vaTh many (l, t) = true ↔ codeV l = true ∧ thFit t l.length = true ∧ l.all (boxQ many) = true := by
  unfold vaTh; simp only [Bool.and_eq_true]; exact and_assoc
theorem vaCw_iff {w : Cw} : vaCw w = true ↔ (1 ≤ w.codes.length ∧ w.codes.length ≤ 3 ∧ 0 ≤ w.turn ∧ w.turn < w.codes.length ∧ 0 ≤ w.idle ∧ w.idle ≤ w.codes.length) ∧ w.out.all isW = true ∧ w.threads.length = w.codes.length ∧ vaBs w.boxes = true ∧
    ∀ (i : Nat) (l : List Qd) (t : Th), w.codes[i]? = some l → w.threads[i]? = some t → vaTh w.boxes.length (l, t) = true := by
  unfold vaCw
  simp only [Bool.and_eq_true, decide_eq_true_eq, zip_all, and_assoc]
theorem qAt_some {codes : List (List Qd)} {ths : List Th} {t many : Int} (hl : ths.length = codes.length) (ht : 0 ≤ t ∧ t < codes.length) (hv : ∀ (i : Nat) (l : List Qd) (t : Th), codes[i]? = some l → ths[i]? = some t → vaTh many (l, t) = true) :
    ∃ q x l, qAt codes ths t = some (q, x) ∧ ths[t.toNat]? = some x ∧ codes[t.toNat]? = some l ∧ l[x.pc.toNat]? = some q ∧ codeV l = true ∧ thFit x l.length = true ∧ l.all (boxQ many) = true ∧ boxQ many q = true := by
  obtain ⟨x, hx⟩ : ∃ x, ths[t.toNat]? = some x := ⟨_, List.getElem?_eq_getElem (by omega)⟩
  obtain ⟨l, hl⟩ : ∃ l, codes[t.toNat]? = some l := ⟨_, List.getElem?_eq_getElem (by omega)⟩
  obtain ⟨h1, h2, h3⟩ := vaTh_iff.1 (hv _ l x hl hx)
  obtain ⟨_, _, h4, h5⟩ := thFit_iff.1 h2
  obtain ⟨q, hq⟩ : ∃ q, l[x.pc.toNat]? = some q := ⟨_, List.getElem?_eq_getElem (by omega)⟩
  exact ⟨q, x, l, by unfold qAt; simp [hx, hl, hq], hx, hl, hq, h1, h2, h3, List.all_eq_true.1 h3 q (List.mem_of_getElem? hq)⟩
theorem stepC_keeps {w : Cw} (h : vaCw w = true) (hi : w.idle < w.threads.length) : vaCw (stepC w) = true ∧ (stepC w).codes = w.codes ∧ (stepC w).threads.length = w.threads.length ∧ (stepC w).boxes.length = w.boxes.length ∧ (stepC w).boxes.map (·.room) = w.boxes.map (·.room) ∧ (∃ p, (stepC w).out = w.out ++ p ∧ p.length ≤ 1) := by
  obtain ⟨h1, h2, h3, h4, h5⟩ := vaCw_iff.1 h
  obtain ⟨q, x, l, e, hx, hl, hq, c1, c2, c3, c4⟩ := qAt_some (t := w.turn) h3 (by omega) h5
  obtain ⟨u1, u2, u3, u4, u5, u6, u7⟩ := stepQ_keeps (bs := w.boxes) c1 hq c2 h4
  have hn := nextT_ok (many := w.threads.length) (t := w.turn) (i := w.idle) (c := (stepQ q x w.boxes).2.2.2) (by omega) (by omega) (by omega)
  have es : stepC w = ⟨w.codes, w.threads.set w.turn.toNat (stepQ q x w.boxes).1, (stepQ q x w.boxes).2.1, (nextT w.threads.length w.turn w.idle (stepQ q x w.boxes).2.2.2).1, (nextT w.threads.length w.turn w.idle (stepQ q x w.boxes).2.2.2).2, w.out ++ (stepQ q x w.boxes).2.2.1⟩ := by
    unfold stepC; rw [e]
  rw [es]
  refine ⟨vaCw_iff.2 ⟨by simp only; omega, ?_, by simpa using h3, u2, fun i l' t' hl' ht' => ?_⟩, rfl, by simp, u3, u4, ⟨_, rfl, u6⟩⟩
  · simp only [List.all_append, Bool.and_eq_true]; exact ⟨h2, u5⟩
  · simp only at hl' ht'
    rw [u3]
    by_cases hit : i = w.turn.toNat
    · subst hit
      rw [List.getElem?_set_self (by omega)] at ht'
      cases ht'
      rw [hl] at hl'; cases hl'
      exact vaTh_iff.2 ⟨c1, u1, c3⟩
    · rw [List.getElem?_set_ne (Ne.symm hit)] at ht'
      exact h5 i l' t' hl' ht'
abbrev CSt := List Th × List Bx × List Int
def nxC (codes : List (List Qd)) (s : CSt) (t : Int) : CSt :=
  match qAt codes s.1 t with
  | none => s
  | some (q, x) => (s.1.set t.toNat (stepQ q x s.2.1).1, (stepQ q x s.2.1).2.1, s.2.2 ++ (stepQ q x s.2.1).2.2.1)
def cdC (codes : List (List Qd)) (s : CSt) (t : Int) : Int :=
  match qAt codes s.1 t with
  | none => 1
  | some (q, x) => (stepQ q x s.2.1).2.2.2
theorem turnsC_run (n : Nat) : ∀ {w : Cw} (h : vaCw w = true),
    turnsF w.threads.length (nxC w.codes) (cdC w.codes) n (w.threads, w.boxes, w.out) w.turn w.idle = (((runC n w).threads, (runC n w).boxes, (runC n w).out), (runC n w).turn, (runC n w).idle) := by
  induction n with
  | zero => intro w h; simp [turnsF, runC]
  | succ n ih =>
    intro w h
    unfold turnsF runC
    by_cases hi : w.idle < (w.threads.length : Int)
    · rw [if_pos hi, if_pos hi]
      obtain ⟨k1, k2, k3, _⟩ := stepC_keeps h hi
      obtain ⟨h1, h2, h3, h4, h5⟩ := vaCw_iff.1 h
      obtain ⟨q, x, l, e, hx, hl, hq, c1, c2, c3, c4⟩ := qAt_some (t := w.turn) h3 (by omega) h5
      have es : stepC w = ⟨w.codes, w.threads.set w.turn.toNat (stepQ q x w.boxes).1, (stepQ q x w.boxes).2.1, (nextT w.threads.length w.turn w.idle (stepQ q x w.boxes).2.2.2).1, (nextT w.threads.length w.turn w.idle (stepQ q x w.boxes).2.2.2).2, w.out ++ (stepQ q x w.boxes).2.2.1⟩ := by
        unfold stepC; rw [e]
      have e1 : nxC w.codes (w.threads, w.boxes, w.out) w.turn = ((stepC w).threads, (stepC w).boxes, (stepC w).out) := by
        rw [es]; unfold nxC; simp only [e]
      have e2 : (nextT w.threads.length w.turn w.idle (cdC w.codes (w.threads, w.boxes, w.out) w.turn)) = ((stepC w).turn, (stepC w).idle) := by
        rw [es]; unfold cdC; simp only [e]
      rw [e1, e2]
      have := ih k1
      rw [k3, k2] at this
      exact this
    · rw [if_neg hi, if_neg hi]
theorem cellsT_set : ∀ {l : List Th} {r : List (AV × Nat)} {i : Nat} {x : Th}, i < l.length → r.length = l.length → splice (cellsT l r) (i * 2 + 1) [.I x.pc] = cellsT (l.set i x) r
  | [], _, i, _, h, _ => by simp at h
  | t :: l, [], _, _, _, h => by simp at h
  | t :: l, q :: r, 0, x, _, _ => by simp [cellsT, splice]
  | t :: l, q :: r, i + 1, x, h, hr => by
    have := cellsT_set (l := l) (r := r) (i := i) (x := x) (by simpa using h) (by simpa using hr)
    have e : (i + 1) * 2 + 1 = (i * 2 + 1) + 2 := by omega
    rw [e]
    simp only [List.set_cons_succ, cellsT]
    rw [← this]
    unfold splice
    simp
theorem GrS.spl {base G G' v n sz cs T cT o c} (h : GrS base G v n sz cs T) (hT : G.bk T = some ⟨cT, true⟩) (hT' : G'.bk T = some ⟨splice cT o c, true⟩) (ho : o + c.length ≤ n * sz) (hc : 0 < c.length) (hn : T < G'.n) : GrS base G' v n sz (splice cs o c) T := by
  obtain ⟨h1, h2, h3⟩ := h
  have hl : (splice cs o c).length = n * sz := by unfold splice; rw [List.length_append, List.length_append, List.length_take, List.length_drop, h2]; omega
  rcases h3 with ⟨rfl, rfl⟩ | ⟨h4, h5, ⟨rfl, h6⟩ | ⟨cc, ex, rfl, h7, h8, h9⟩⟩
  · rw [Nat.zero_mul] at ho; omega
  · rw [hT] at h6; cases h6
    exact ⟨h1, hl, .inr ⟨h4, hn, .inl ⟨rfl, hT'⟩⟩⟩
  · rw [hT] at h9; cases h9
    refine ⟨h1, hl, .inr ⟨h4, hn, .inr ⟨cc, ex, rfl, h7, h8, ?_⟩⟩⟩
    rw [hT']
    have : splice (cs ++ ex) o c = splice cs o c ++ ex := by
      unfold splice
      rw [List.take_append_of_le_length (by omega), List.drop_append_of_le_length (by omega)]; simp
    rw [this]
theorem GrS.blk {base G v n sz cs B} (h : GrS base G v n sz cs B) (hn : 0 < n) : ∃ cap ex, v = .sl B 0 n cap ∧ base ≤ B ∧ B < G.n ∧ G.bk B = some ⟨cs ++ ex, true⟩ := by
  obtain ⟨h1, h2, ⟨_, h0⟩ | ⟨h4, h5, ⟨rfl, h6⟩ | ⟨cc, ex, rfl, h7, h8, h9⟩⟩⟩ := h
  · omega
  · exact ⟨_, [], rfl, h4, h5, by rw [List.append_nil]; exact h6⟩
  · exact ⟨_, ex, rfl, h4, h5, h9⟩
def RunC (lo : Nat) (G0 : AH) (P : Nat) (vc : AV) (codes : List (List Qd)) (m : Nat) (s : CSt) (H : AH) : Prop :=
  ∃ (vt vb vo : AV) (T : Nat) (cT : List AV) (B : Nat) (rs : List (AV × Nat)) (O : Nat) (qs : List (AV × Nat)),
    (∀ (i : Nat) (t : Th) (q : AV × Nat), s.1[i]? = some t → qs[i]? = some q → TM lo H T (i * 2) q.2 P 5 B cT [vc, vt, vb, .I 0, .I 0, vo] q.1 vb vo rs O t s.2.1 s.2.2) ∧
    (qs.length = s.1.length ∧ s.1.length = codes.length ∧ 1 ≤ codes.length ∧ codes.length ≤ 3) ∧
    (∀ (i j : Nat) (q q' : AV × Nat), i ≠ j → qs[i]? = some q → qs[j]? = some q' → q.2 ≠ q'.2) ∧
    GrS lo H vt s.1.length 2 (cellsT s.1 qs) T ∧ CLV (fun b => b < lo) H vc codes ∧
    ((∀ (i : Nat) (l : List Qd) (t : Th), codes[i]? = some l → s.1[i]? = some t → vaTh s.2.1.length (l, t) = true) ∧ vaBs s.2.1 = true ∧ s.2.2.length + m ≤ 890000) ∧
    (lo ≤ P ∧ lo ≤ H.n ∧ ∀ b, b < lo → H.bk b = G0.bk b)
theorem runC_code {lo : Nat} {G0 : AH} {P : Nat} {vc : AV} {codes : List (List Qd)} {m : Nat} {s : CSt} {H : AH} (h : RunC lo G0 P vc codes m s H) {t : Int} (ht : 0 ≤ t ∧ t < codes.length) : 1 ≤ cdC codes s t ∧ cdC codes s t ≤ 4 := by
  obtain ⟨vt, vb, vo, T, cT, B, rs, O, qs, tm, ⟨h1, h2, h3, h4⟩, dis, gT, cl, ⟨va, vb3, ho⟩, _⟩ := h
  obtain ⟨q, x, l, e, hx, hl, hq, c1, c2, c3, c4⟩ := qAt_some h2 ht va
  unfold cdC
  rw [e]
  exact (stepQ_keeps c1 hq c2 vb3).2.2.2.2.2.2
theorem runC_step {lo : Nat} {G0 : AH} {P : Nat} {vc : AV} {codes : List (List Qd)} {m : Nat} {s : CSt} {H : AH} {K : AV → AH → Prop} {w : Fk K} {t : Int} (h : RunC lo G0 P vc codes (m + 1) s H) (ht : 0 ≤ t ∧ t < codes.length)
    (k : ∀ H', RunC lo G0 P vc codes m (nxC codes s t) H' → K (.I (cdC codes s t)) H') : CallF Cd f_iCrewRun_1 [.I t, .ptr P 0] H K w := by
  obtain ⟨vt, vb, vo, T, cT, B, rs, O, qs, tm, ⟨h1, h2, h3, h4⟩, dis, gT, cl, ⟨va, vb3, ho⟩, ⟨hP, hlo, fr⟩⟩ := h
  obtain ⟨q, x, l, e, hx, hl, hq, c1, c2, c3, c4⟩ := qAt_some h2 ht va
  have e1 : nxC codes s t = (s.1.set t.toNat (stepQ q x s.2.1).1, (stepQ q x s.2.1).2.1, s.2.2 ++ (stepQ q x s.2.1).2.2.1) := by unfold nxC; simp only [e]
  have e2 : cdC codes s t = (stepQ q x s.2.1).2.2.2 := by unfold cdC; simp only [e]
  rw [e1, e2] at k
  obtain ⟨u1, u2, u3, u4, u5, u6, u7⟩ := stepQ_keeps (bs := s.2.1) c1 hq c2 vb3
  obtain ⟨p, hp⟩ : ∃ p, qs[t.toNat]? = some p := ⟨_, List.getElem?_eq_getElem (by omega)⟩
  have tmi := tm _ x p hx hp
  obtain ⟨capT, ex, evt, t1, t2, t3⟩ := gT.blk (by omega)
  obtain ⟨b, o, cap, vl, ec, ob, hbn, l1, q1⟩ := cl.at hl
  have cl0 := cl
  have gP := tmi.bP
  rw [CallF_eq e_iCrewRun_1 rfl]
  have g1 : t < (s.1.length : Int) := by omega
  have g2 : t < (codes.length : Int) := by omega
  have gP0 : H.load P 0 = some vc := by rw [load_bk gP]; rfl
  have gP1 : H.load P 1 = some (.sl T 0 s.1.length capT) := by rw [load_bk gP, ← evt]; rfl
  have gP2 : H.load P 2 = some vb := by rw [load_bk gP]; rfl
  rw [ec] at gP0
  simp (disch := omega) [gP0, gP1, gP2, ht.1, g1, g2, l1]
  refine K_iThread_step tmi q1 hq c1 c2 vb3 c4 (by omega) fun vo' rs' O' H' tm' hf hO oo => ?_
  simp
  have n1 := oo.1
  have hRp : lo ≤ p.2 ∧ p.2 < H.n := by obtain ⟨_, _, z, y, _⟩ := tmi.vr_eq; exact ⟨y, z⟩
  have wl : ∀ b, b < lo → H'.bk b = H.bk b := fun b hb => oo.2 b (by omega) (fun hm => by
    simp at hm
    rcases hm with z | z | z | z | z
    · omega
    · omega
    · omega
    · have := (tmi.rb.mem' z).1; omega
    · have := (tmi.gO.mem z); omega)
  refine k H' ⟨vt, vb, vo', T, splice cT (t.toNat * 2 + 1) [.I (stepQ q x s.2.1).1.pc], B, rs', O', qs, fun i y r hy hr => ?_, ⟨by simpa using h1, by simpa using h2, h3, h4⟩, dis, ?_, cl0.mono n1 (fun b hb _ => wl b hb) (fun _ h _ => h), ⟨fun i l' y hl' hy => ?_, u2, by simp only [List.length_append]; omega⟩, ⟨hP, by omega, fun b hb => (wl b hb).trans (fr b hb)⟩⟩
  · simp only at hy
    by_cases hit : i = t.toNat
    · subst hit
      rw [List.getElem?_set_self (by omega)] at hy
      rw [hp] at hr
      cases hy; cases hr
      exact tm'
    · rw [List.getElem?_set_ne (Ne.symm hit)] at hy
      have tmj := tm i y r hy hr
      have hRj : r.2 < H.n := by obtain ⟨_, _, z, _⟩ := tmj.vr_eq; exact z
      have hd := tmj.d
      have hne := dis i t.toNat r p hit hr hp
      have hnF : r.2 ∉ T :: p.2 :: P :: (fpB B rs ++ grB vo O) := fun hm => by
        simp at hm
        rcases hm with z | z | z | z | z
        · exact hd.1 z.symm
        · exact hne z
        · exact hd.2.2 z
        · exact tmj.f.2.1 z
        · exact tmj.g.2.1 z
      have hj2 : i * 2 ≠ t.toNat * 2 := by omega
      refine { bT := tm'.bT, sT := ?_, nT := tm'.nT, gR := tmj.gR.only oo (fun b hb => .inr (fun e => hnF (by rw [← e]; exact hb))), rb := tm'.rb, bP := tm'.bP, sP := tm'.sP, nP := tm'.nP, gO := tm'.gO, hb := tm'.hb, d := hd, f := ⟨tm'.f.1, fun hm => ?_, tm'.f.2.2⟩, g := ⟨tm'.g.1, fun hm => ?_, tm'.g.2.2⟩, fg := tm'.fg }
      · have hs := tmj.sT
        have hl1 := seg_len hs
        have hl2 := seg_len tmi.sT
        rw [splice_set (by omega)]
        rw [← hs]
        unfold seg
        rw [if_pos (by simp; omega), if_pos hl1]
        congr 1
        apply List.ext_getElem?
        intro k
        by_cases hk : k < 2
        · rw [List.getElem?_take_of_lt hk, List.getElem?_take_of_lt hk, List.getElem?_drop, List.getElem?_drop, List.getElem?_set_ne (by omega)]
        · rw [List.getElem?_eq_none (by simp; omega), List.getElem?_eq_none (by simp; omega)]
      · rcases hf _ hm with z | z
        · exact tmj.f.2.1 z
        · omega
      · rcases hO _ hm with z | z
        · exact tmj.g.2.1 z
        · omega
  · rw [← cellsT_set (by omega) h1]
    simp only [List.length_set]
    exact gT.spl tmi.bT tm'.bT (by simp; omega) (by simp) tm'.nT
  · simp only at hy ⊢
    rw [u3]
    by_cases hit : i = t.toNat
    · subst hit
      rw [List.getElem?_set_self (by omega)] at hy
      cases hy
      rw [hl] at hl'; cases hl'
      exact vaTh_iff.2 ⟨c1, u1, c3⟩
    · rw [List.getElem?_set_ne (Ne.symm hit)] at hy
      exact va i l' y hl' hy
end Go.Proofs.YtmecbehegmgbhaaGreat.AM
namespace Go.Proofs.YtmecbehegmgbhaaGreat.AM
set_option linter.unusedSimpArgs false
set_option linter.unusedVariables false
set_option maxRecDepth 100000
set_option maxHeartbeats 4000000
open Go
attribute [-simp] AM.elems
abbrev zeroK : Cw := ⟨[], [], [], 0, 0, []⟩
abbrev zK : List AV := [.nils, .nils, .nils, .I 0, .I 0, .nils]
theorem CLV.nil {ok H v} (h : v = .nils ∨ v = .esl) : CLV ok H v [] := ⟨[], ⟨by simp, rfl, .inl ⟨rfl, h⟩⟩, rfl⟩
theorem ThV.nil {ok H v} (h : v = .nils ∨ v = .esl) : ThV ok H v [] := ⟨[], ⟨by simp, rfl, .inl ⟨rfl, h⟩⟩, rfl⟩
theorem zero_CwC {ok H} : CwC ok H zK zeroK := ⟨_, _, _, _, rfl, CLV.nil (.inl rfl), ThV.nil (.inl rfl), BV.nil (.inl rfl), IV.nilp (.inl rfl)⟩
theorem store_six {H : AH} {b : Nat} {cs l : List AV} (h : H.bk b = some ⟨cs, true⟩) (hc : cs.length = 6) (hl : l.length = 6) : H.store b 0 l = some (H.put b (some ⟨l, true⟩)) := by
  rw [store_bk h (by omega)]
  congr 3
  unfold splice
  simp; omega
theorem stepC_codes {w : Cw} : (stepC w).codes = w.codes := by
  unfold stepC
  cases qAt w.codes w.threads w.turn with
  | none => rfl
  | some p => rfl
theorem stepC_thl {w : Cw} : (stepC w).threads.length = w.threads.length := by
  unfold stepC
  cases qAt w.codes w.threads w.turn with
  | none => rfl
  | some p => simp
theorem runC_codes (n : Nat) : ∀ {w : Cw}, (runC n w).codes = w.codes ∧ (runC n w).threads.length = w.threads.length := by
  induction n with
  | zero => intro w; exact ⟨rfl, rfl⟩
  | succ n ih =>
    intro w
    unfold runC
    split
    · rw [ih.1, ih.2, stepC_codes, stepC_thl]; exact ⟨rfl, rfl⟩
    · exact ⟨rfl, rfl⟩
theorem cellsT_LF {ok : Nat → Prop} {H : AH} : ∀ {l : List Th} {r : List (AV × Nat)}, r.length = l.length → (∀ (i : Nat) (t : Th) (q : AV × Nat), l[i]? = some t → r[i]? = some q → IV ok H q.1 t.regs) → LF 2 (ThC ok H) l (cellsT l r)
  | [], [], _, _ => rfl
  | [], q :: r, h, _ => by simp at h
  | t :: l, [], h, _ => by simp at h
  | t :: l, q :: r, h, k => by
    have := cellsT_LF (ok := ok) (H := H) (l := l) (r := r) (by simpa using h) (fun i t q a b => k (i + 1) t q (by simpa using a) (by simpa using b))
    exact ⟨[q.1, .I t.pc], cellsT l r, rfl, rfl, ⟨q.1, rfl, k 0 t q rfl rfl⟩, this⟩
def runK (n : Int) (w : Cw) : Cw × Bool := if vaCw w = true ∧ 0 ≤ n ∧ n ≤ 100000 then (runC n.toNat w, true) else (zeroK, false)
section
variable {ok : Nat → Prop} {H : AH} {K : AV → AH → Prop} {wf : Fk K} {c : List AV} {w : Cw} {n : Int}
theorem K_iCrewRun (h : CwC ok H c w) (hbl : w.boxes.length ≤ 100) (hol : w.out.length ≤ 700000)
    (k : ∀ c' H', CwC (fun b => H.n ≤ b) H' c' (runK n w).1 → Ext H H' → K (.tup [.agg c', .b (runK n w).2]) H') : CallF Cd f_iCrewRun [.agg c, .I n] H K wf := by
  have h' := h
  obtain ⟨vc, vt, vb, vo, rfl, h0, h1, h2, h3⟩ := h'
  rw [CallF_eq e_iCrewRun rfl]
  have x0 := (Ext.push H [vc, vt, vb, .I w.turn, .I w.idle, vo]).trans (Ext.push _ zK)
  have q0 : ((H.push [vc, vt, vb, .I w.turn, .I w.idle, vo]).push zK).bk H.n = some ⟨[vc, vt, vb, .I w.turn, .I w.idle, vo], true⟩ := push_old (by simp) push_new
  simp [loadN_bk q0]
  refine K_iCrewValid (h.ext x0) hbl fun H1 x1 => ?_
  have n1 := x1.1
  simp only [push_n] at n1
  have y1 := x0.trans x1
  have q1 := (x1.2 H.n (by simp <;> omega)).trans q0
  have qR1 : H1.bk (H.n + 1) = some ⟨zK, true⟩ := (x1.2 _ (by simp)).trans push_new
  have stb := store_six qR1 (l := zK) rfl rfl
  have bad : ¬ (vaCw w = true ∧ 0 ≤ n ∧ n ≤ 100000) → K (.tup [.agg zK, .b false]) (H1.put (H.n + 1) (some ⟨zK, true⟩)) := fun hb => by
    have e : runK n w = (zeroK, false) := by unfold runK; rw [if_neg hb]
    rw [e] at k
    exact k zK _ zero_CwC (y1.put (by omega))
  cases hv : vaCw w with
  | false =>
    simp [stb, loadN_bk put_same]
    exact bad (by rw [hv]; simp)
  | true =>
  by_cases hn0 : n < 0
  · simp [hn0, stb, loadN_bk put_same]
    exact bad (fun hh => by omega)
  by_cases hn1 : 100000 < n
  · simp [hn0, hn1, stb, loadN_bk put_same]
    exact bad (fun hh => by omega)
  have hF : runK n w = (runC n.toNat w, true) := by unfold runK; rw [if_pos ⟨hv, by omega, by omega⟩]
  rw [hF] at k
  have en : n = (n.toNat : Int) := by omega
  generalize n.toNat = N at *
  subst en
  obtain ⟨v1, v2, v3, v4, v5⟩ := vaCw_iff.1 hv
  have hb3 := vaBs_facts v4
  have hcl : ∀ l ∈ w.codes, l.length ≤ 600 := fun l hl => by
    obtain ⟨i, hi⟩ := List.mem_iff_getElem?.1 hl
    obtain ⟨t, ht⟩ : ∃ t, w.threads[i]? = some t := ⟨_, List.getElem?_eq_getElem (by have := (List.getElem?_eq_some_iff.1 hi).1; omega)⟩
    exact (codeV_facts (vaTh_iff.1 (v5 i l t hi ht)).1).2.1
  have h12 : ∀ t ∈ w.threads, t.regs.length = 12 := fun t ht => by
    obtain ⟨i, hi⟩ := List.mem_iff_getElem?.1 ht
    obtain ⟨l, hl⟩ : ∃ l, w.codes[i]? = some l := ⟨_, List.getElem?_eq_getElem (by have := (List.getElem?_eq_some_iff.1 hi).1; omega)⟩
    exact (thFit_iff.1 (vaTh_iff.1 (v5 i l t hl hi)).2.1).1
  simp [hn0, hn1, load_bk q1]
  refine K_icodesCopy (h0.ext y1) (by omega) (fun x hx => by have := hcl x hx; omega) fun vc' H2 cl x2 fc => ?_
  have n2 := x2.1
  have q2 := (x2.2 H.n (by omega)).trans q1
  simp [x2, load_bk q2]
  refine R_iboxesCopy (h2.ext (y1.trans x2)) (by omega) (fun x hx => by have := hb3.2 x hx; omega) fun vb' B rs H3 rb x3 => ?_
  have n3 := x3.1
  have q3 := (x3.2 H.n (by omega)).trans q2
  simp [x3, load_bk q3]
  refine K_cloneG (h3.ext ((y1.trans x2).trans x3)).src (by omega) fun vo' H4 O og x4 => ?_
  have n4 := x4.1
  have q4 := (x4.2 H.n (by omega)).trans q3
  have fb := rb.bv.flat
  have fo := og.flat
  have x5 := Ext.push H4 [vc', .nils, vb', .I 0, .I 0, vo']
  have q5 := (x5.2 H.n (by omega)).trans q4
  have st5 : (H4.push zK).store H4.n 0 [vc', .nils, vb', .I 0, .I 0, vo'] = some (H4.push [vc', .nils, vb', .I 0, .I 0, vo']) := by
    rw [store_bk push_new (by simp), push_put]; rfl
  have y5 := (((y1.trans x2).trans x3).trans x4).trans x5
  simp [x4, flat_cells fb, flat_tup fb, flat_cells fo, flat_tup fo, flat_cells fc, flat_tup fc, st5, load_bk q5, h1.alen]
  have hth3 : w.threads.length ≤ 3 := by omega
  have := K_iCrewRun_l0 (ths := w.threads) h12 hth3 (vts := vt) (vc := vc') (vb := vb') (vo := vo') (Pc := H.n) (P4 := H.n + 1) (P6 := H4.n) (base := H.n) (lo := H4.n + 1) (nn := .I N) (by omega) (by omega) w.threads.length 0 (by omega)
    (G := H4.push [vc', .nils, vb', .I 0, .I 0, vo']) (g := .nils) (qs := []) (T := 0) (by simp) (h1.mono (by simp; omega) (fun b _ hb => y5.2 b hb) (fun b _ hb => hb)) push_new rfl
    GrS.nils ⟨by simp, by simp⟩ (Q := ?_) ?_
  · simpa using this
  · intro e G g qs T hql gT hr g6 fr nG e1 e2 e4 e6
    simp only [push_n] at nG
    have keep : ∀ b, b < H4.n → G.bk b = H4.bk b := fun b hb => (fr b (by omega) (by omega)).trans (x5.2 b hb)
    have qG := (keep H.n (by omega)).trans q4
    have qRG : G.bk (H.n + 1) = some ⟨zK, true⟩ := (keep _ (by omega)).trans ((x4.2 _ (by omega)).trans ((x3.2 _ (by omega)).trans ((x2.2 _ (by omega)).trans qR1)))
    have gTr := gT.real (by omega)
    have ga := gT.alen
    simp [e1, e2, e4, e6, load_bk g6, load_bk qG, ga]
    have oG : Only [] H4 G := ⟨by omega, fun b hb _ => keep b hb⟩
    have rbG : RB H2.n G vb' w.boxes B rs := ((rb.onlyA (cs := []) x4.only (by simp))).onlyA (cs := []) oG (by simp)
    have ogG : GrS H2.n G vo' w.out.length 1 (Ints w.out) O := (og.up (by omega)).onlyB (bs := []) oG (by simp)
    have hfp : ∀ b ∈ fpB B rs, H2.n ≤ b ∧ b < H3.n := fun b hb => rb.mem hb
    have hO : ∀ b ∈ grB vo' O, H3.n ≤ b ∧ b < H4.n := fun b hb => by have := og.mem hb; omega
    obtain ⟨capT, ex, evt, T1, T2, T3⟩ := gT.blk (by omega)
    have S0 : RunC H2.n G H4.n vc' w.codes N (w.threads, w.boxes, w.out) G := by
      refine ⟨g, vb', vo', T, cellsT w.threads qs ++ ex, B, rs, O, qs, fun i t q hi hq => ?_, ⟨hql, v3, v1.1, v1.2.1⟩, hr.2, gT.up (by omega), cl.mono (by omega) (fun b _ hb => (keep b (by omega)).trans ((x4.2 b (by omega)).trans (x3.2 b hb))) (fun b _ hb => hb), ⟨v5, v4, by simp only; omega⟩, ⟨by omega, by omega, fun _ _ => rfl⟩⟩
      obtain ⟨r1, r2, r3, r4⟩ := hr.1 i t q hi hq
      rw [gTr.2.2] at r2
      exact { bT := T3, sT := cellsT_get hi hq, nT := T2, gR := r1.up (by omega), rb := rbG, bP := g6, sP := rfl, nP := by omega, gO := ogG, hb := by omega,
              d := ⟨fun e => r2 (by simp [e]), by omega, by omega⟩,
              f := ⟨fun hm => (by have := hfp _ hm; omega), fun hm => (by have := hfp _ hm; omega), fun hm => (by have := hfp _ hm; omega)⟩,
              g := ⟨fun hm => (by have := hO _ hm; omega), fun hm => (by have := hO _ hm; omega), fun hm => (by have := hO _ hm; omega)⟩,
              fg := fun b hb hm => (by have := hO _ hb; have := hfp _ hm; omega) }
    refine K_itakeTurns (many := w.threads.length) (by omega) (RunC H2.n G H4.n vc' w.codes) (nxC w.codes) (cdC w.codes)
      (fun m s t H K wf hS ht kk => runC_step hS (by omega) kk) (fun m s t H hS ht => runC_code hS (by omega)) (by omega) S0 (by omega) (by omega) fun m H6 hS => ?_
    rw [turnsC_run N hv] at hS ⊢
    obtain ⟨rc1, rc2⟩ := runC_codes N (w := w)
    obtain ⟨vt2, vb2, vo2, T', cT, B', rs', O', qs', tm, ⟨m1, m2, m3, m4⟩, dis, gT', cl', ⟨va', vb3', ho'⟩, ⟨hP, hlo, fr'⟩⟩ := hS
    simp only at tm m1 m2 gT' va' vb3' ho'
    obtain ⟨t0, ht0⟩ : ∃ t, (runC N w).threads[0]? = some t := ⟨_, List.getElem?_eq_getElem (by omega)⟩
    obtain ⟨p0, hp0⟩ : ∃ t, qs'[0]? = some t := ⟨_, List.getElem?_eq_getElem (by omega)⟩
    have tm0 := tm 0 t0 p0 ht0 hp0
    have gP := tm0.bP
    have nP := tm0.nP
    have st1 := store_cell (v := .I (runC N w).turn) gP (o := 3) (by simp)
    have st2 := store_cell (v := .I (runC N w).idle) (put_same (H := H6) (b := H4.n) (o := some ⟨[vc', vt2, vb2, .I 0, .I 0, vo2].set 3 (.I (runC N w).turn), true⟩)) (o := 4) (by simp)
    simp only [List.set_cons_zero, List.set_cons_succ] at st1 st2
    have qR6 : H6.bk (H.n + 1) = some ⟨zK, true⟩ := (fr' _ (by omega)).trans qRG
    have hne : H.n + 1 ≠ H4.n := by omega
    have st3 := store_six (H := (H6.put H4.n (some ⟨[vc', vt2, vb2, .I (runC N w).turn, .I 0, vo2], true⟩)).put H4.n (some ⟨[vc', vt2, vb2, .I (runC N w).turn, .I (runC N w).idle, vo2], true⟩)) (b := H.n + 1) (cs := zK) (l := [vc', vt2, vb2, .I (runC N w).turn, .I (runC N w).idle, vo2]) (by simp only [put_bk, if_neg hne]; exact qR6) rfl rfl
    simp [st1, st2, st3, loadN_bk put_same]
    generalize hF : (((H6.put H4.n (some ⟨[vc', vt2, vb2, .I (runC N w).turn, .I 0, vo2], true⟩)).put H4.n (some ⟨[vc', vt2, vb2, .I (runC N w).turn, .I (runC N w).idle, vo2], true⟩)).put (H.n + 1) (some ⟨[vc', vt2, vb2, .I (runC N w).turn, .I (runC N w).idle, vo2], true⟩)) = F
    have nF : F.n = H6.n := by rw [← hF]; simp
    have kF : ∀ b, b ≠ H4.n → b ≠ H.n + 1 → F.bk b = H6.bk b := fun b h1 h2 => by rw [← hF]; simp only [put_bk, if_neg h1, if_neg h2]
    have oF : Only [H4.n, H.n + 1] H6 F := ⟨by omega, fun b _ hm => by simp at hm; exact kF b hm.1 hm.2⟩
    refine k _ F ⟨_, _, _, _, rfl, ?_, ?_, ?_, ?_⟩ ⟨by omega, fun b hb => ?_⟩
    · rw [rc1]
      exact cl.mono (by omega) (fun b hb hn => by rw [kF b (by omega) (by omega), fr' b hn, keep b (by omega), x4.2 b (by omega), x3.2 b hn]) (fun b hb _ => by omega)
    · refine ⟨_, (gT'.only oF (fun b hb => ?_)).slc.mono (Nat.le_refl _) (fun _ _ _ => rfl) (fun b hb _ => by omega), cellsT_LF m1 fun i t q hi hq => ?_⟩
      · have := tm0.d
        simp at hb
        rcases hb with z | z
        · exact .inr (by omega)
        · exact .inl (by omega)
      · have tmi := tm i t q hi hq
        have hl := tmi.regs
        have gg := tmi.gR.only oF (fun b hb => by
          have := tmi.d
          simp at hb
          rcases hb with z | z
          · exact .inr (by omega)
          · exact .inl (by omega))
        have gg' : GrS H2.n F q.1 t.regs.length 1 (Ints t.regs) q.2 := by rw [hl]; exact gg
        exact gg'.iv.mono (Nat.le_refl _) (fun _ _ _ => rfl) (fun b hb _ => by omega)
    · refine (tm0.rb.onlyA oF (fun b hb => ?_)).bv.mono (Nat.le_refl _) (fun _ _ _ => rfl) (fun b hb _ => by omega)
      simp at hb
      rcases hb with z | z
      · exact .inr (by rw [z]; exact tm0.f.2.2)
      · exact .inl (by omega)
    · refine (tm0.gO.onlyB oF (fun b hb hm => ?_)).iv.mono (Nat.le_refl _) (fun _ _ _ => rfl) (fun b hb _ => by omega)
      simp at hb
      rcases hb with z | z
      · exact tm0.g.2.2 (by rw [← z]; exact hm)
      · have := tm0.gO.mem hm; omega
    · rw [kF b (by omega) (by omega), fr' b (by omega), keep b (by omega)]
      exact (((y1.trans x2).trans x3).trans x4).2 b hb
end
end Go.Proofs.YtmecbehegmgbhaaGreat.AM
namespace Go.Proofs.YtmecbehegmgbhaaGreat.AM
set_option linter.unusedSimpArgs false
set_option linter.unusedVariables false
set_option maxRecDepth 100000
set_option maxHeartbeats 4000000
open Go
attribute [-simp] AM.elems
abbrev z12 : List Int := [0, 0, 0, 0, 0, 0, 0, 0, 0, 0, 0, 0]
abbrev zz12 : List AV := [.I 0, .I 0, .I 0, .I 0, .I 0, .I 0, .I 0, .I 0, .I 0, .I 0, .I 0, .I 0]
def newK (rooms : List Int) (codes : List (List Qd)) : Cw := ⟨codes, codes.map fun _ => ⟨z12, 0⟩, rooms.map fun x => ⟨x, []⟩, 0, 0, []⟩
theorem K_iCrewNew_l0 {N : Nat} (hN : N ≤ 1000) {vr vc vb vo : AV} {P4 P6 lo : Nat} {Q : Out → Env → AH → Prop} (hP6 : P6 < lo)
    (m i : Nat) (hm : i + m = N) {G : AH} {g : AV} {cs : List AV} {B : Nat} (hlo : lo ≤ G.n) (g6 : G.bk P6 = some ⟨[vc, g, vb, .I 0, .I 0, vo], true⟩)
    (hg : GrS lo G g i 2 cs B) (he : LF 2 (ThC (fun b => lo ≤ b ∧ b ≠ B) G) ((List.replicate N (⟨z12, 0⟩ : Th)).take i) cs)
    (hQ : ∀ e G' g' cs' B', GrS lo G' g' N 2 cs' B' → LF 2 (ThC (fun b => lo ≤ b ∧ b ≠ B') G') (List.replicate N ⟨z12, 0⟩) cs' → G'.bk P6 = some ⟨[vc, g', vb, .I 0, .I 0, vo], true⟩ → (∀ b, b < lo → b ≠ P6 → G'.bk b = G.bk b) → G.n ≤ G'.n → get e 0 = some vr → get e 4 = some (.ptr P4 0) → get e 6 = some (.ptr P6 0) → Q (.brk 0) e G') :
    W Cd (.loop c_iCrewNew_l0) [(0, vr), (4, .ptr P4 0), (6, .ptr P6 0), (13, .I N), (14, .I i)] G Q := by
  induction m generalizing i G g cs B with
  | zero =>
    rw [W_loop_as c_iCrewNew_l0.eq_1]
    have : i = N := by omega
    subst this
    simp
    have e : (List.replicate i (⟨z12, 0⟩ : Th)).take i = List.replicate i ⟨z12, 0⟩ := by simp
    rw [e] at he
    exact hQ _ G g cs B hg he g6 (fun _ _ _ => rfl) (Nat.le_refl _) rfl rfl rfl
  | succ m ih =>
    rw [W_loop_as c_iCrewNew_l0.eq_1]
    have hlt' : (i : Int) < N := by omega
    have e12 : (List.replicate (12 : Int).toNat [AV.I 0]).flatten = zz12 := rfl
    have x2 := (Ext.push G (zz12)).trans (Ext.push _ [.sl G.n 0 12 (.ex 12), .I 0])
    have q1 : (G.push (zz12)).bk G.n = some ⟨zz12, true⟩ := push_new
    have q2 := ((Ext.push (G.push (zz12)) [.sl G.n 0 12 (.ex 12), .I 0]).2 G.n (by simp)).trans q1
    have tc : ThC (fun b => G.n ≤ b) ((G.push (zz12)).push [.sl G.n 0 12 (.ex 12), .I 0]) [.sl G.n 0 12 (.ex 12), .I 0] ⟨z12, 0⟩ :=
      ⟨_, rfl, ⟨by simp, rfl, .inr ⟨G.n, 0, _, rfl, ⟨Nat.le_refl _, by simp [capOk]⟩, by simp; omega, by rw [loadN_bk q2]; rfl⟩⟩⟩
    obtain ⟨g', G', B', a1, a2, a3, a4, a5, a6⟩ := LF.snoc2 (E := ThC) (l := List.replicate N (⟨z12, 0⟩ : Th)) (x := ⟨z12, 0⟩) (i := i) (fun h => h.mono) (by rw [List.getElem?_replicate, if_pos (by omega)]) hg he hlo hlo x2 (c := [.sl G.n 0 12 (.ex 12), .I 0]) rfl tc (by omega)
    have hgm : ∀ b, b ∈ grB g B → b = B ∧ lo ≤ B ∧ B < G.n := fun b hb => hg.mem hb
    have gg0 : ∀ b, b < G.n → b ∉ grB g B → G'.bk b = G.bk b := fun b hb hm => (a4.2 b (by simp; omega) hm).trans (x2.2 b hb)
    have g6' := (gg0 P6 (by omega) (fun hm => by have := hgm _ hm; omega)).trans g6
    have g60 : ((G.push (zz12))).bk P6 = some ⟨[vc, g, vb, .I 0, .I 0, vo], true⟩ := push_old (by omega) g6
    have st := store_cell (v := g') g6' (o := 1) (by simp)
    simp only [List.set_cons_zero, List.set_cons_succ] at st
    have n4 := a4.1
    simp only [push_n] at n4
    simp (disch := omega) [hlt', load_bk g6, e12, AM.elems, loadN_push, a1, flat_cells a6, flat_tup a6, st]
    have gg : ∀ b, b < G.n → b ∉ grB g B → b ≠ P6 → (G'.put P6 (some ⟨[vc, g', vb, .I 0, .I 0, vo], true⟩)).bk b = G.bk b := fun b hb h1 h2 => by
      rw [put_bk, if_neg h2, gg0 b hb h1]
    have := ih (i + 1) (by omega) (G := G'.put P6 (some ⟨[vc, g', vb, .I 0, .I 0, vo], true⟩)) (g := g') (cs := cs ++ [.sl G.n 0 12 (.ex 12), .I 0]) (B := B') (by simp; omega) put_same
      (a2.only (bs := [P6]) (Only.refl.put (by simp)) (fun b hb => .inl (by simp at hb; omega)))
      (a3.imp fun c a h => h.mono (by simp) (fun b hb _ => by rw [put_bk, if_neg (by omega)]) (fun _ h _ => h))
      (fun e G2 g2 cs2 B2 z1 z2 z3 z4 z5 z6 z7 z8 => hQ e G2 g2 cs2 B2 z1 z2 z3 (fun b hb h2 => (z4 b hb h2).trans (gg b (by omega) (fun hm => by have := hgm _ hm; omega) h2)) (by simp at z5; omega) z6 z7 z8)
    simpa using this
section
variable {ok ok2 : Nat → Prop} {H : AH} {K : AV → AH → Prop} {wf : Fk K} {c : List AV}
theorem K_iCrewNew {vr vc : AV} {rooms : List Int} {codes : List (List Qd)} (hr : IV ok2 H vr rooms) (hc : CLV ok H vc codes) (hrl : rooms.length ≤ 100) (hcl : codes.length ≤ 1000) (hit : ∀ l ∈ codes, l.length ≤ 1000000)
    (k : ∀ c' H', CwC (fun b => H.n ≤ b) H' c' (if (vaRm rooms && vaCw (newK rooms codes)) = true then newK rooms codes else zeroK) → Ext H H' → K (.tup [.agg c', .b (vaRm rooms && vaCw (newK rooms codes))]) H') : CallF Cd f_iCrewNew [vr, vc] H K wf := by
  rw [CallF_eq e_iCrewNew rfl]
  have x0 := Ext.push H zK
  have hbig := hc.big
  simp
  refine K_icodesCopy (hc.ext x0) hcl hit fun vc' H2 cl x2 fc => ?_
  have n2 := x2.1
  simp only [push_n] at n2
  simp [x2]
  refine K_iboxesNew (hr.ext (x0.trans x2)) (by omega) fun vb' H3 bv x3 fb => ?_
  have n3 := x3.1
  have x5 := Ext.push H3 [vc', .nils, vb', .I 0, .I 0, .nils]
  have st5 : (H3.push zK).store H3.n 0 [vc', .nils, vb', .I 0, .I 0, .nils] = some (H3.push [vc', .nils, vb', .I 0, .I 0, .nils]) := by
    rw [store_bk push_new (by simp), push_put]; rfl
  have y5 := ((x0.trans x2).trans x3).trans x5
  simp [x3, flat_cells fb, flat_tup fb, flat_cells fc, flat_tup fc, st5, hc.alen]
  have := K_iCrewNew_l0 (N := codes.length) hcl (vr := vr) (vc := vc') (vb := vb') (vo := .nils) (P4 := H.n) (P6 := H3.n) (lo := H3.n + 1) (by omega) codes.length 0 (by omega)
    (G := H3.push [vc', .nils, vb', .I 0, .I 0, .nils]) (g := .nils) (cs := []) (B := 0) (by simp) push_new GrS.nils (by simp [LF]) (Q := ?_) ?_
  · simpa using this
  · intro e G g cs B gg lf g6 fr nG e0 e4 e6
    simp only [push_n] at nG
    have keep : ∀ b, b < H3.n → G.bk b = H3.bk b := fun b hb => (fr b (by omega) (by omega)).trans (x5.2 b hb)
    have oG : Ext H G := ⟨by omega, fun b hb => (keep b (by omega)).trans (((x0.trans x2).trans x3).2 b hb)⟩
    have qR : G.bk H.n = some ⟨zK, true⟩ := (keep H.n (by omega)).trans ((x3.2 H.n (by omega)).trans ((x2.2 H.n (Nat.lt_succ_self _)).trans push_new))
    have emp : codes.map (fun _ => (⟨z12, 0⟩ : Th)) = List.replicate codes.length ⟨z12, 0⟩ := List.map_const' ..
    have cw : CwC (fun b => H.n < b) G [vc', g, vb', .I 0, .I 0, .nils] (newK rooms codes) := by
      refine ⟨_, _, _, _, rfl, cl.mono (by omega) (fun b _ hb => (keep b (by omega)).trans (x3.2 b hb)) (fun b hb _ => by simp at hb; omega), ?_, bv.mono (by omega) (fun b _ hb => keep b hb) (fun b hb _ => by omega), IV.nilp (.inl rfl)⟩
      show ThV _ G g (codes.map fun _ => ⟨z12, 0⟩)
      rw [emp]
      exact ⟨cs, by rw [List.length_replicate]; exact gg.slc.mono (Nat.le_refl _) (fun _ _ _ => rfl) (fun b hb _ => by omega), lf.imp fun c a h => h.mono (Nat.le_refl _) (fun _ _ _ => rfl) (fun b hb _ => by omega)⟩
    simp [e0, e4, e6]
    have stb := store_six qR (l := zK) rfl rfl
    refine K_iroomsValid (hr.ext oG).sees ?_
    have bad : (vaRm rooms && vaCw (newK rooms codes)) = false → ∀ G', Ext G G' → G'.bk H.n = some ⟨zK, true⟩ → K (.tup [.agg zK, .b false]) (G'.put H.n (some ⟨zK, true⟩)) := fun hb G' x q => by
      rw [hb, if_neg (by simp)] at k
      exact k zK _ zero_CwC ((oG.trans x).put (Nat.le_refl _))
    cases hvr : vaRm rooms with
    | false =>
      simp [stb, loadN_bk put_same]
      exact bad (by rw [hvr]; rfl) G (Ext.refl _) qR
    | true =>
      simp [loadN_bk g6]
      refine K_iCrewValid cw (by simp [newK]; omega) fun G2 xx => ?_
      have n5 := xx.1
      have qR2 := (xx.2 H.n (by omega)).trans qR
      have g62 := (xx.2 H3.n (by omega)).trans g6
      have stb2 := store_six qR2 (l := zK) rfl rfl
      cases hvc : vaCw (newK rooms codes) with
      | false =>
        simp [stb2, loadN_bk put_same]
        exact bad (by rw [hvc]; simp) G2 xx qR2
      | true =>
        rw [hvr, hvc, if_pos (by simp)] at k
        have stc := store_six qR2 (l := [vc', g, vb', .I 0, .I 0, .nils]) rfl rfl
        simp [loadN_bk g62, stc, loadN_bk put_same]
        exact k _ _ (cw.mono (by simp; omega) (fun b hb hn => by rw [put_bk, if_neg (by omega)]; exact xx.2 b hn) (fun b hb _ => by omega)) ((oG.trans xx).put (Nat.le_refl _))
end
end Go.Proofs.YtmecbehegmgbhaaGreat.AM
namespace Go.Proofs.YtmecbehegmgbhaaGreat.AM
set_option linter.unusedSimpArgs false
set_option linter.unusedVariables false
set_option maxRecDepth 100000
set_option maxHeartbeats 4000000
open Go
attribute [-simp] AM.elems
def endK (p : List Qd × Th) : Bool := match p.1[p.2.pc.toNat]? with | some q => decide (q.op = 10) | none => false
def outK (w : Cw) : Oc := ⟨w.out, w.boxes.map (·.items), (w.codes.zip w.threads).map endK, decide (w.idle = w.threads.length)⟩
theorem K_iCrewOutcome_l {w : Cw} (hv : vaCw w = true) {base P1 P2 P3 : Nat} (h3 : P3 < base) (h1 : P1 < P3) {vc vt vb vo v1 v2 : AV} {rest : Bool} {Q : Out → Env → AH → Prop} (m i : Nat) (hm : i + m = w.threads.length) {G : AH} {g : AV} {B : Nat} (hb : base ≤ G.n)
    (hc : CLV (fun b => b < P3) G vc w.codes) (ht : ThV (fun b => b < P3) G vt w.threads) (g1 : G.bk P1 = some ⟨[vc, vt, vb, .I w.turn, .I w.idle, vo], true⟩) (g3 : G.bk P3 = some ⟨[v1, v2, g, .b rest], true⟩)
    (hg : GrS base G g i 1 (Bls (((w.codes.zip w.threads).take i).map endK)) B)
    (hQ : ∀ e G' g' B', GrS base G' g' w.threads.length 1 (Bls ((w.codes.zip w.threads).map endK)) B' → G'.bk P3 = some ⟨[v1, v2, g', .b rest], true⟩ → (∀ b, b < base → b ≠ P3 → G'.bk b = G.bk b) → G.n ≤ G'.n → get e 2 = some (.ptr P2 0) → get e 3 = some (.ptr P3 0) → Q (.brk 0) e G') :
    W Cd (.loop c_iCrewOutcome_l0) [(1, .ptr P1 0), (2, .ptr P2 0), (3, .ptr P3 0), (22, vt), (23, .I w.threads.length), (24, .I i)] G Q := by
  obtain ⟨w1, w2, w3, w4, w5⟩ := vaCw_iff.1 hv
  have hzl : (w.codes.zip w.threads).length = w.threads.length := by simp; omega
  induction m generalizing i G g B with
  | zero =>
    rw [W_loop_as c_iCrewOutcome_l0.eq_1]
    have : i = w.threads.length := by omega
    subst this
    simp
    rw [List.take_of_length_le (by omega)] at hg
    exact hQ _ G g B hg g3 (fun _ _ _ => rfl) (Nat.le_refl _) rfl rfl
  | succ m ih =>
    rw [W_loop_as c_iCrewOutcome_l0.eq_1]
    have hlt : i < w.threads.length := by omega
    have hlt' : (i : Int) < w.threads.length := by omega
    have hltc : (i : Int) < w.codes.length := by omega
    obtain ⟨x, hx⟩ : ∃ x, w.threads[i]? = some x := ⟨_, List.getElem?_eq_getElem hlt⟩
    obtain ⟨l, hl⟩ : ∃ x, w.codes[i]? = some x := ⟨_, List.getElem?_eq_getElem (by omega)⟩
    obtain ⟨va1, va2, va3⟩ := vaTh_iff.1 (w5 i l x hl hx)
    obtain ⟨_, _, pc0, pc1⟩ := thFit_iff.1 va2
    obtain ⟨q, hq⟩ : ∃ q, l[x.pc.toNat]? = some q := ⟨_, List.getElem?_eq_getElem (by omega)⟩
    obtain ⟨b, o, cap, vr, e1, ob, hbn, l1, iv⟩ := ht.at hx
    obtain ⟨b', o', cap', vl, e2, ob', hbn', l2, qv⟩ := hc.at hl
    obtain ⟨b3, o3, cap3, e3, ob3, hbn3, l3⟩ := qv.at hq
    have hc0 := hc
    have ht0 := ht
    subst e1
    subst e2
    subst e3
    have st : (G.push [.nils, .I 0]).store G.n 0 [vr, .I x.pc] = some (G.push [vr, .I x.pc]) := by rw [store_bk push_new (by simp), push_put]; rfl
    have x1 := Ext.push G [vr, .I x.pc]
    have q1 : (G.push [vr, .I x.pc]).bk G.n = some ⟨[vr, .I x.pc], true⟩ := push_new
    have g31 := (x1.2 P3 (by omega)).trans g3
    have g11 := (x1.2 P1 (by omega)).trans g1
    have l2' : (G.push [vr, .I x.pc]).load b' (o' + i) = some (.sl b3 o3 l.length cap3) := by rw [load_ext x1 hbn']; exact l2
    have l3' : (G.push [vr, .I x.pc]).load b3 (o3 + x.pc.toNat * 5) = some (.I q.op) := by
      rw [load_ext x1 hbn3]; simpa [qC] using loadN_get l3 (i := 0) (by omega)
    obtain ⟨D, hD⟩ : ∃ D : Bool, D = decide (q.op = 10) := ⟨_, rfl⟩
    have hE : endK (l, x) = D := by unfold endK; simp only [hq]; exact hD.symm
    have htk : (w.codes.zip w.threads).take (i + 1) = (w.codes.zip w.threads).take i ++ [(l, x)] := by rw [List.take_add_one, zip_get hl hx]; rfl
    obtain ⟨g', G', B', a1, a2, a3, a4⟩ := ((hg.ext x1).ext (Ext.push _ [.b D])).app (k := 1) (new := [.b D]) (by simp; omega) rfl (by omega)
    have hgm : ∀ b, b ∈ grB g B → b = B ∧ base ≤ B ∧ B < G.n := fun b hb => hg.mem hb
    have n4 := a4.1
    simp only [push_n] at n4
    have kk : ∀ b, b < base → G'.bk b = G.bk b := fun b hb2 => by
      rw [a4.2 b (by simp; omega) (fun hq => by have := hgm b hq; omega), push_old (by simp; omega) rfl, x1.2 b (by omega)]
    have e8 : Bls (((w.codes.zip w.threads).take i).map endK) ++ [.b D] = Bls (((w.codes.zip w.threads).take (i + 1)).map endK) := by rw [htk, ← hE]; simp [Bls]
    rw [e8] at a2
    have g3' := (kk P3 h3).trans g3
    have st2 := store_cell (v := g') g3' (o := 2) (by simp)
    simp only [List.set_cons_succ, List.set_cons_zero] at st2
    have f4 := a2.flat
    simp (disch := omega) [hlt', hltc, pc0, pc1, l1, st, load_bk g31, load_bk g11, load_bk q1, l2', l3', ← hD, AM.elems, loadN_push, a1, flat_cells f4, flat_tup f4, st2]
    have := ih (i + 1) (by omega) (G := G'.put P3 (some ⟨[v1, v2, g', .b rest], true⟩)) (g := g') (B := B') (by simp; omega)
      (hc0.mono (by simp; omega) (fun b hb _ => by rw [put_bk, if_neg (by omega), kk b (by omega)]) (fun _ h _ => h))
      (ht0.mono (by simp; omega) (fun b hb _ => by rw [put_bk, if_neg (by omega), kk b (by omega)]) (fun _ h _ => h)) (by rw [put_bk, if_neg (by omega), kk P1 (by omega)]; exact g1) put_same
      (a2.keep1 (by simp) (fun hb1 _ => by rw [put_bk, if_neg (by omega)]))
      (fun e G2 g2 B2 z1 z3 z4 z5 z6 z7 => hQ e G2 g2 B2 z1 z3 (fun b hb h2 => by rw [z4 b hb h2, put_bk, if_neg h2, kk b hb]) (by simp at z5; omega) z6 z7)
    simpa using this
section
variable {ok ok2 : Nat → Prop} {H : AH} {K : AV → AH → Prop} {wf : Fk K} {c : List AV} {w : Cw}
theorem K_iCrewOutcome (h : CwC ok H c w) (hv : vaCw w = true) (hol : w.out.length ≤ 1000000)
    (k : ∀ c' H', OC (fun b => H.n ≤ b) H' c' (outK w) → Ext H H' → K (.agg c') H') : CallF Cd f_iCrewOutcome [.agg c] H K wf := by
  have h' := h
  obtain ⟨vc, vt, vb, vo, rfl, h0, h1, h2, h3⟩ := h'
  rw [CallF_eq e_iCrewOutcome rfl]
  obtain ⟨g1, g2, g5, g3, g4⟩ := vaCw_iff.1 hv
  have hb3 := vaBs_facts g3
  have x0 := (Ext.push H [vc, vt, vb, .I w.turn, .I w.idle, vo]).trans (Ext.push _ [.nils, .nils, .nils, .b false])
  have q0 : ((H.push [vc, vt, vb, .I w.turn, .I w.idle, vo]).push [.nils, .nils, .nils, .b false]).bk H.n = some ⟨[vc, vt, vb, .I w.turn, .I w.idle, vo], true⟩ := push_old (by simp) push_new
  simp [loadN_bk q0]
  refine K_iCrewValid (h.ext x0) (by omega) fun H1 x1 => ?_
  have n1 := x1.1
  simp only [push_n] at n1
  have y1 := x0.trans x1
  have q1 := (x1.2 H.n (by simp <;> omega)).trans q0
  have qR1 : H1.bk (H.n + 1) = some ⟨[.nils, .nils, .nils, .b false], true⟩ := (x1.2 _ (by simp)).trans push_new
  rw [hv]
  have hlb : w.threads.length ≤ 3 := by omega
  simp [load_bk q1, h1.alen]
  have hre : decide (w.idle = (w.threads.length : Int)) = (outK w).rest := rfl
  rw [hre]
  refine K_ioutcomeOf (by omega) (fun x hx => by have := hb3.2 x hx; omega) (h3.ext y1) hol (h2.ext y1) fun v1 v2 H2 i1 i2 f1 f2 x2 => ?_
  have n2 := x2.1
  have x3 := Ext.push H2 [v1, v2, .nils, .b (outK w).rest]
  have q2 := (x3.2 H.n (by omega)).trans ((x2.2 _ (by omega)).trans q1)
  have y3 := (y1.trans x2).trans x3
  simp [x2, flat_cells f1, flat_tup f1, flat_cells f2, flat_tup f2, store_push4, load_bk q2, h1.alen]
  have := K_iCrewOutcome_l hv (base := H2.n + 1) (P1 := H.n) (P2 := H.n + 1) (P3 := H2.n) (by omega) (by omega) (vc := vc) (vt := vt) (vb := vb) (vo := vo) (v1 := v1) (v2 := v2) (rest := (outK w).rest) (Q := ?_) w.threads.length 0 (by omega) (G := H2.push [v1, v2, .nils, .b (outK w).rest]) (g := .nils) (B := 0) (by simp)
    ((h0.mono (ok' := fun b => b < H.n) (Nat.le_refl _) (fun _ _ _ => rfl) (fun b _ hb => hb)).mono (by simp; omega) (fun b hb _ => y3.2 b hb) (fun b hb _ => by omega))
    ((h1.mono (ok' := fun b => b < H.n) (Nat.le_refl _) (fun _ _ _ => rfl) (fun b _ hb => hb)).mono (by simp; omega) (fun b hb _ => y3.2 b hb) (fun b hb _ => by omega)) q2 push_new GrS.nils ?_
  · simpa using this
  · intro e G g B2 z1 z3 z4 z5 z6 z7
    simp only [push_n] at z5
    have qR2 := (z4 (H.n + 1) (by omega) (by omega)).trans ((x3.2 _ (by omega)).trans ((x2.2 _ (by omega)).trans qR1))
    have fg := z1.flat
    have st : G.store (H.n + 1) 0 [v1, v2, g, .b (outK w).rest] = some (G.put (H.n + 1) (some ⟨[v1, v2, g, .b (outK w).rest], true⟩)) := store_bk qR2 (by simp)
    simp [z6, z7, loadN_bk z3, st, loadN_bk put_same]
    have hk : ∀ b, b ≠ H.n + 1 → (G.put (H.n + 1) (some ⟨[v1, v2, g, .b (outK w).rest], true⟩)).bk b = G.bk b := fun b hb => by rw [put_bk, if_neg hb]
    have hkk : ∀ b, H1.n ≤ b → b < H2.n → (G.put (H.n + 1) (some ⟨[v1, v2, g, .b (outK w).rest], true⟩)).bk b = H2.bk b := fun b hb hb2 => by rw [hk b (by omega), z4 b (by omega) (by omega), x3.2 b hb2]
    have hl2 : (outK w).ended.length = w.threads.length := by simp [outK]; omega
    refine k _ _ ⟨v1, v2, g, rfl, i1.mono (by simp; omega) hkk (fun b hb _ => by omega), i2.mono (by simp; omega) hkk (fun b hb _ => by omega), ?_⟩ ⟨by simp; omega, fun b hb => by rw [hk b (by omega), z4 b (by omega) (by omega), x3.2 b (by omega), x2.2 b (by omega)]; exact y1.2 b hb⟩
    unfold FlV
    rw [hl2]
    exact z1.slc.mono (by simp) (fun b hb _ => hk b (by omega)) (fun b hb _ => by omega)
theorem stepC_out {w : Cw} (h : vaCw w = true) (hi : w.idle < w.threads.length) : (stepC w).out.length ≤ w.out.length + 1 := by
  obtain ⟨_, _, _, _, _, p, e, hp⟩ := stepC_keeps h hi
  rw [e, List.length_append]; omega
theorem runC_keeps (n : Nat) : ∀ {w : Cw}, vaCw w = true → vaCw (runC n w) = true ∧ (runC n w).out.length ≤ w.out.length + n ∧ ∃ p, (runC n w).out = w.out ++ p := by
  induction n with
  | zero => intro w h; exact ⟨h, by simp [runC], [], by simp [runC]⟩
  | succ n ih =>
    intro w h
    unfold runC
    split
    · rename_i hi
      obtain ⟨a, b, p, e⟩ := ih (stepC_keeps h hi).1
      have := stepC_out h hi
      obtain ⟨_, _, _, _, _, p', e', hp⟩ := stepC_keeps h hi
      exact ⟨a, by omega, p' ++ p, by rw [e, e', List.append_assoc]⟩
    · exact ⟨h, by omega, [], by simp⟩
theorem K_wcrewOf {vr vc : AV} {rooms : List Int} {codes : List (List Qd)} {n : Int} (hr : IV ok2 H vr rooms) (hc : CLV ok H vc codes) (hv : vaRm rooms = true) (hv2 : vaCw (newK rooms codes) = true) (hn : 0 ≤ n ∧ n ≤ 100000)
    (k : ∀ c' H', CwC (fun b => H.n ≤ b) H' c' (runC n.toNat (newK rooms codes)) → Ext H H' → K (.agg c') H') : CallF Cd f_wcrewOf [vr, vc, .I n] H K wf := by
  obtain ⟨w1, w2, w3, w4, w5⟩ := vaCw_iff.1 hv2
  have hb3 := vaBs_facts w4
  have hrl : rooms.length ≤ 3 := by have := hb3.1; simpa [newK] using this
  have hcl : codes.length ≤ 3 := w1.2.1
  have hit : ∀ l ∈ codes, l.length ≤ 1000000 := fun l hl => by
    obtain ⟨i, hi⟩ := List.mem_iff_getElem?.1 hl
    obtain ⟨t, ht⟩ : ∃ t, (newK rooms codes).threads[i]? = some t := ⟨_, List.getElem?_eq_getElem (by have := (List.getElem?_eq_some_iff.1 hi).1; simp [newK]; omega)⟩
    have := (codeV_facts (vaTh_iff.1 (w5 i l t hi ht)).1).2.1
    omega
  rw [CallF_eq e_wcrewOf rfl]
  have x0 := Ext.push H zK
  simp
  refine K_iCrewNew (hr.ext x0) (hc.ext x0) (by omega) (by omega) hit fun c2 H2 cw2 x2 => ?_
  rw [hv, hv2, if_pos (by simp)] at cw2
  rw [hv, hv2]
  obtain ⟨vc2, vt2, vb2, vo2, rfl, _⟩ := id cw2
  have n2 := x2.1
  simp only [push_n] at n2
  have x3 := Ext.push H2 [vc2, vt2, vb2, .I (newK rooms codes).turn, .I (newK rooms codes).idle, vo2]
  have st3 : (H2.push zK).store H2.n 0 [vc2, vt2, vb2, .I (newK rooms codes).turn, .I (newK rooms codes).idle, vo2] = some (H2.push [vc2, vt2, vb2, .I (newK rooms codes).turn, .I (newK rooms codes).idle, vo2]) := by
    rw [store_bk push_new (by simp), push_put]; rfl
  simp [st3, loadN_push]
  have e1 : runK n (newK rooms codes) = (runC n.toNat (newK rooms codes), true) := by unfold runK; rw [if_pos ⟨hv2, hn⟩]
  refine K_iCrewRun (cw2.ext x3) (by have := hb3.1; omega) (by simp [newK]) fun c4 H4 cw4 x4 => ?_
  rw [e1] at cw4 ⊢
  simp only at cw4 ⊢
  generalize runC n.toNat (newK rooms codes) = fin at *
  obtain ⟨vc4, vt4, vb4, vo4, rfl, _⟩ := id cw4
  have n4 := x4.1
  simp only [push_n] at n4
  have st5 : (H4.push zK).store H4.n 0 [vc4, vt4, vb4, .I fin.turn, .I fin.idle, vo4] = some (H4.push [vc4, vt4, vb4, .I fin.turn, .I fin.idle, vo4]) := by
    rw [store_bk push_new (by simp), push_put]; rfl
  have x5 := Ext.push H4 [vc4, vt4, vb4, .I fin.turn, .I fin.idle, vo4]
  have y5 := (((x0.trans x2).trans x3).trans x4).trans x5
  have qR : (H4.push [vc4, vt4, vb4, .I fin.turn, .I fin.idle, vo4]).bk H.n = some ⟨zK, true⟩ := (x5.2 H.n (by omega)).trans ((x4.2 H.n (by simp; omega)).trans ((x3.2 H.n (by omega)).trans ((x2.2 H.n (Nat.lt_succ_self _)).trans push_new)))
  have st6 := store_six qR (l := [vc4, vt4, vb4, .I fin.turn, .I fin.idle, vo4]) rfl rfl
  simp [st5, loadN_push, st6, loadN_bk put_same]
  exact k _ _ ((cw4.ext x5).mono (by simp) (fun b hb hn => by simp at hb; rw [put_bk, if_neg (by omega)]) (fun b hb _ => by simp at hb; omega)) (y5.put (Nat.le_refl _))
end
end Go.Proofs.YtmecbehegmgbhaaGreat.AM
namespace Go.Proofs.YtmecbehegmgbhaaGreat.AM
set_option linter.unusedSimpArgs false
set_option linter.unusedVariables false
set_option maxRecDepth 100000
set_option maxHeartbeats 4000000
open Go
attribute [-simp] AM.elems
def cE1 (at_ op n : Int) (sub : List Qd) : List Qd :=
  if op = 0 then [⟨1, at_, 0, 0, n⟩] else if op = 13 then [⟨2, at_, n, 0, 0⟩] else sub ++ [⟨3, at_, at_, at_ + 1, op⟩]
def compF : Exs → Int → List Qd
  | .nil, _ => []
  | .cons op n a r, at_ => cE1 at_ op n (compF a at_) ++ compF r (at_ + 1)
def compE (at_ : Int) (e : Ex) : List Qd := cE1 at_ e.op e.n (compF e.args at_)
theorem compF_two {a : Exs} {x y : Ex} (h : a.list = [x, y]) (at_ : Int) : compF a at_ = compE at_ x ++ compE (at_ + 1) y := by
  cases a with
  | nil => simp at h
  | cons op n a r =>
    cases r with
    | nil => simp at h
    | cons op' n' a' r' =>
      cases r' with
      | nil =>
        simp at h
        obtain ⟨rfl, rfl⟩ := h
        simp [compF, compE]
      | cons _ _ _ _ => simp at h
def CS (base : Nat) (H H' : AH) (v : AV) (B : Nat) (v' : AV) (B' : Nat) (L' : List Qd) : Prop :=
  GrS base H' v' L'.length 5 (qCs L') B' ∧ Only (grB v B) H H' ∧ (∀ b ∈ grB v' B', b ∈ grB v B ∨ H.n ≤ b)
theorem CS.trans {base H H1 H2 v B v1 B1 v2 B2 L1 L2} (h : CS base H H1 v B v1 B1 L1) (k : CS base H1 H2 v1 B1 v2 B2 L2) : CS base H H2 v B v2 B2 L2 := by
  obtain ⟨a1, a2, a3⟩ := h
  obtain ⟨b1, b2, b3⟩ := k
  have n1 := a2.1
  have n2 := b2.1
  refine ⟨b1, ⟨by omega, fun b hb hm => ?_⟩, fun b hb => ?_⟩
  · rw [b2.2 b (by omega) (fun hm1 => by rcases a3 b hm1 with z | z; exact hm z; omega), a2.2 b hb hm]
  · rcases b3 b hb with z | z
    · exact a3 b z
    · exact .inr (by omega)
theorem CS.pre {base H0 H H' v B v' B' L'} (x : Ext H0 H) (h : CS base H H' v B v' B' L') (hb : ∀ b ∈ grB v B, b < H0.n) : CS base H0 H' v B v' B' L' := by
  obtain ⟨a1, a2, a3⟩ := h
  have n1 := a2.1
  have n0 := x.1
  exact ⟨a1, ⟨by omega, fun b hb' hm => by rw [a2.2 b (by omega) hm, x.2 b hb']⟩, fun b hb' => (a3 b hb').imp id (fun z => by omega)⟩
theorem CS.post {base H H1 H2 v B v' B' L'} (h : CS base H H1 v B v' B' L') (x : Ext H1 H2) : CS base H H2 v B v' B' L' := by
  obtain ⟨a1, a2, a3⟩ := h
  exact ⟨a1.ext x, ⟨Nat.le_trans a2.1 x.1, fun b hb hm => by rw [x.2 b (Nat.lt_of_lt_of_le hb a2.1), a2.2 b hb hm]⟩, a3⟩
theorem CS.app {base H v B} {L : List Qd} (h : GrS base H v L.length 5 (qCs L) B) (hb : base ≤ H.n) (q : Qd) (hl : L.length < 1000000) :
    ∃ v' H' B', aapp (H.push (qC q)) 5 v 1 (qC q) = some (v', H') ∧ CS base H H' v B v' B' (L ++ [q]) ∧ v'.flat = true := by
  obtain ⟨v', H', B', a1, a2, a3, a4⟩ := (h.ext (Ext.push H (qC q))).app (by simp; omega) (k := 1) (new := qC q) rfl (by omega)
  have a2' : GrS base H' v' (L ++ [q]).length 5 (qCs (L ++ [q])) B' := by rw [qCs_app]; simpa [qCs] using a2
  refine ⟨v', H', B', a1, ⟨a2', ?_, fun b hb => ?_⟩, a2.flat⟩
  · have n4 := a4.1
    simp at n4
    exact ⟨by omega, fun b hb hm => (a4.2 b (by simp; omega) hm).trans (push_old hb rfl)⟩
  · rcases a3 with ⟨z1, z2⟩ | z
    · exact .inl (by rw [grB_sub hb, z1]; exact z2)
    · exact .inr (by rw [grB_sub hb, z]; simp)
theorem CS.le {base H H' v B v' B' L'} (h : CS base H H' v B v' B' L') : H.n ≤ H'.n := h.2.1.1
theorem CS.keep {base H H' v B v' B' L'} {P : Nat} {x} (h : CS base H H' v B v' B' L') (hP : P < H.n) (hm : P ∉ grB v B) (e : H.bk P = x) : H'.bk P = x := (h.2.1.2 P hP hm).trans e
theorem CS.nm {base H H' v B v' B' L'} {P : Nat} (h : CS base H H' v B v' B' L') (hP : P < H.n) (hm : P ∉ grB v B) : P ∉ grB v' B' := fun hm' => by rcases h.2.2 P hm' with z | z; exact hm z; omega
theorem K_icompileExpr (a : Exs) : ∀ {base : Nat} {H : AH} {K : AV → AH → Prop} {w : Fk K} {op n d at_ : Int} {va v : AV} {L : List Qd} {B : Nat}, EV (fun b => b < base) H va a → GrS base H v L.length 5 (qCs L) B → base ≤ H.n → okE1 d op n a.list.length (okF (d - 1) a) = true → (0 ≤ at_ ∧ at_ + d ≤ 100) → L.length + (cE1 at_ op n (compF a at_)).length ≤ 1000000 →
    (∀ v' B' H', CS base H H' v B v' B' (L ++ cE1 at_ op n (compF a at_)) → K v' H') → CallF Cd f_icompileExpr [.agg [.I op, .I n, va], .I at_, v] H K w := by
  induction a using Exs.ind with
  | h a ih =>
  intro base H K w op n d at_ va v L B h hg hb hok hat hL k
  have hf := hg.flat
  have x1 := Ext.push H [.I op, .I n, va]
  have q1 : (H.push [.I op, .I n, va]).bk H.n = some ⟨[.I op, .I n, va], true⟩ := push_new
  have hgb : ∀ b ∈ grB v B, b < H.n := fun b hb => (hg.mem hb).2.2 |> fun z => by have := (hg.mem hb).1; omega
  rw [CallF_eq e_icompileExpr rfl]
  by_cases h0 : op = 0
  · subst h0
    have e : cE1 at_ 0 n (compF a at_) = [⟨1, at_, 0, 0, n⟩] := by unfold cE1; rw [if_pos rfl]
    rw [e] at k hL
    obtain ⟨v', H', B', a1, a2, a3⟩ := CS.app (hg.ext x1) (by simp; omega) ⟨1, at_, 0, 0, n⟩ (by simp at hL; omega)
    simp only [qC] at a1
    simp [load_bk q1, AM.elems, loadN_push, a1]
    exact k _ B' _ (a2.pre x1 hgb)
  by_cases h13 : op = 13
  · subst h13
    have e : cE1 at_ 13 n (compF a at_) = [⟨2, at_, n, 0, 0⟩] := by unfold cE1; rw [if_neg (by omega), if_pos rfl]
    rw [e] at k hL
    obtain ⟨v', H', B', a1, a2, a3⟩ := CS.app (hg.ext x1) (by simp; omega) ⟨2, at_, n, 0, 0⟩ (by simp at hL; omega)
    simp only [qC] at a1
    simp [load_bk q1, AM.elems, loadN_push, a1]
    exact k _ B' _ (a2.pre x1 hgb)
  obtain ⟨c0, c1, c2, c3⟩ := okE1_op hok h0 h13
  obtain ⟨e1, e3, hal⟩ := two_of c2
  have hx := h.ext x1
  obtain ⟨b, o, cap, va1, ev, ob, hbn, l1, ea⟩ := hx.at (i := 0) (e := e1) (by rw [hal]; rfl)
  obtain ⟨b', o', cap', va2, ev', ob', hbn', l2, eb⟩ := hx.at (i := 1) (e := e3) (by rw [hal]; rfl)
  rw [hal] at ev ev'
  rw [ev] at ev'
  simp only [AV.sl.injEq, true_and] at ev'
  obtain ⟨rfl, rfl, rfl⟩ := ev'
  have ev2 : va = .sl b o 2 cap := ev
  clear ev
  subst ev2
  have ok1 : okE (d - 1) e1 = true ∧ okE (d - 1) e3 = true := by
    rw [okF_mem, hal] at c3
    simpa using c3
  have hd1 : 1 < d := by
    unfold okE1 at hok
    rw [if_neg h0, if_neg h13] at hok
    simp only [Bool.and_eq_true, decide_eq_true_eq] at hok
    exact hok.1.2.2.2.2
  have e : cE1 at_ op n (compF a at_) = compE at_ e1 ++ compE (at_ + 1) e3 ++ [⟨3, at_, at_, at_ + 1, op⟩] := by unfold cE1; rw [if_neg h0, if_neg h13, compF_two hal]
  rw [e] at k hL
  simp only [List.length_append, List.length_singleton] at hL
  simp only [Nat.zero_mul, Nat.add_zero, Nat.one_mul] at l1 l2
  simp [load_bk q1, l1, h0, h13]
  have z1 : (cE1 at_ e1.op e1.n (compF e1.args at_)) = compE at_ e1 := rfl
  have z3 : (cE1 (at_ + 1) e3.op e3.n (compF e3.args (at_ + 1))) = compE (at_ + 1) e3 := rfl
  refine ih e1 (by rw [hal]; simp) (base := base) (d := d - 1) (at_ := at_) ea (hg.ext x1) (by simp; omega) ok1.1 (by omega) (by rw [z1]; omega) fun v1 B1 H2 s2 => ?_
  rw [z1] at s2
  have n2 := s2.le
  simp only [push_n] at n2
  have hn1 : H.n ∉ grB v B := fun hm => by have := hgb _ hm; omega
  have q2 := s2.keep (by simp) hn1 q1
  have hbv : b ∉ grB v B := fun hm => by have := (hg.mem hm); omega
  have l2' : H2.loadN b (o + 3) 3 = some [.I e3.op, .I e3.n, va2] := by unfold AH.loadN at l2 ⊢; rw [s2.2.1.2 b hbn hbv]; exact l2
  have f1 := s2.1.flat
  have ea2 : EV (fun b => b < base) H2 va2 e3.args := eb.mono (by simp; omega) (fun b' hb' hn => s2.2.1.2 b' hn (fun hm => by have := (hg.mem hm); omega)) (fun _ h _ => h)
  simp (disch := omega) [load_bk q2, l2']
  refine ih e3 (by rw [hal]; simp) (base := base) (d := d - 1) (at_ := at_ + 1) ea2 s2.1 (by omega) ok1.2 (by omega) (by rw [z3, List.length_append]; omega) fun v2 B2 H3 s3 => ?_
  rw [z3] at s3
  have n3 := s3.le
  have q3 := s3.keep (P := H.n) (by omega) (s2.nm (P := H.n) (by simp) hn1) q2
  obtain ⟨v', H', B', a1, a2, a3⟩ := CS.app s3.1 (by omega) ⟨3, at_, at_, at_ + 1, op⟩ (by simp only [List.length_append]; omega)
  simp only [qC] at a1
  simp (disch := omega) [load_bk q3, AM.elems, loadN_push, a1]
  refine k _ B' _ ?_
  have := ((s2.trans s3).trans a2).pre x1 hgb
  simpa [List.append_assoc] using this
end Go.Proofs.YtmecbehegmgbhaaGreat.AM
namespace Go.Proofs.YtmecbehegmgbhaaGreat.AM
set_option linter.unusedSimpArgs false
set_option linter.unusedVariables false
set_option maxRecDepth 100000
set_option maxHeartbeats 4000000
open Go
attribute [-simp] AM.elems
def stC (base : Nat) (k v b : Int) (E Y Z : List Qd) (nz : Nat) : List Qd :=
  if k = 1 then E ++ [⟨2, v, 4, 0, 0⟩]
  else if k = 4 then E ++ [⟨6, 0, 4, 0, b⟩]
  else if k = 5 then [⟨7, v, 0, 0, b⟩]
  else if k = 6 then [⟨8, 0, 0, 0, 0⟩]
  else if k = 7 then E ++ [⟨9, 0, 4, 0, 0⟩]
  else if k = 3 then E ++ ⟨5, 0, 4, 0, (base + E.length + 1 + Y.length + 1 : Nat)⟩ :: (Y ++ [⟨4, 0, 0, 0, base⟩])
  else if nz = 0 then E ++ ⟨5, 0, 4, 0, (base + E.length + 1 + Y.length : Nat)⟩ :: Y
  else E ++ ⟨5, 0, 4, 0, (base + E.length + 1 + Y.length + 1 : Nat)⟩ :: (Y ++ ⟨4, 0, 0, 0, (base + E.length + 1 + Y.length + 1 + Z.length : Nat)⟩ :: Z)
def cS : Sts → Nat → List Qd
  | .nil, _ => []
  | .cons k v b e y z r, base =>
    stC base k v b (compE 4 e) (cS y (base + (compE 4 e).length + 1)) (cS z (base + (compE 4 e).length + 1 + (cS y (base + (compE 4 e).length + 1)).length + 1)) z.list.length ++
      cS r (base + (stC base k v b (compE 4 e) (cS y (base + (compE 4 e).length + 1)) (cS z (base + (compE 4 e).length + 1 + (cS y (base + (compE 4 e).length + 1)).length + 1)) z.list.length).length)
def cT (s : St1) (base : Nat) : List Qd :=
  stC base s.k s.v s.b (compE 4 s.e) (cS s.body (base + (compE 4 s.e).length + 1)) (cS s.els (base + (compE 4 s.e).length + 1 + (cS s.body (base + (compE 4 s.e).length + 1)).length + 1)) s.els.list.length
theorem cS_of {s : St1} {l : List St1} {base : Nat} : cS (Sts.of (s :: l)) base = cT s base ++ cS (Sts.of l) (base + (cT s base).length) := rfl
theorem seg_at_qCs {A : List Qd} {q : Qd} {C : List Qd} {x : Int} : splice (qCs (A ++ q :: C)) (A.length * 5 + 4) [.I x] = qCs (A ++ ({ q with n := x } : Qd) :: C) := by
  have e : ∀ q : Qd, qCs (A ++ q :: C) = (qCs A ++ [AV.I q.op, AV.I q.dst, AV.I q.a, AV.I q.b]) ++ AV.I q.n :: qCs C := fun q => by
    rw [qCs_app]; simp [qCs, qC]
  rw [e q, e]
  have hl : (qCs A ++ [AV.I q.op, AV.I q.dst, AV.I q.a, AV.I q.b]).length = A.length * 5 + 4 := by simp [qCs_len]
  rw [← hl, splice_at]
theorem CS.patch {base : Nat} {H : AH} {v : AV} {B : Nat} {A C : List Qd} {q : Qd} (h : GrS base H v (A ++ q :: C).length 5 (qCs (A ++ q :: C)) B) (x : Int) :
    ∃ cap H', v = .sl B 0 (A ++ q :: C).length cap ∧ H.store B (A.length * 5 + 4) [.I x] = some H' ∧ CS base H H' v B v B (A ++ ({ q with n := x } : Qd) :: C) := by
  obtain ⟨cap, H', e, st, g, o, hb, hB⟩ := h.storeAt (o := A.length * 5 + 4) (c := [.I x]) (by simp) (by simp; omega)
  refine ⟨cap, H', e, st, ?_, ?_, fun b hb => .inl hb⟩
  · rw [seg_at_qCs] at g
    simpa using g
  · have : grB v B = [B] := by rw [e]; rfl
    rw [this]; exact o
def CompC (f : Sts) : Prop := ∀ {base : Nat} {boxes n : Int} {H : AH} {K : AV → AH → Prop} {w : Fk K} {v vc : AV} {L : List Qd} {B : Nat}, SV (fun b => b < base) H v f → GrS base H vc L.length 5 (qCs L) B → base ≤ H.n → okS boxes n f = true → L.length + (cS f L.length).length ≤ 100000 →
    (∀ v' B' H', CS base H H' vc B v' B' (L ++ cS f L.length) → K v' H') → CallF Cd f_icompileStmts [v, vc] H K w
theorem K_icompileStmt {s : St1} (i1 : CompC s.body) (i2 : CompC s.els) {base : Nat} {boxes n : Int} {H : AH} {K : AV → AH → Prop} {w : Fk K} {vc : AV} {L : List Qd} {B : Nat} {c : List AV} (h : S1 (fun b => b < base) H c s) (hg : GrS base H vc L.length 5 (qCs L) B) (hb : base ≤ H.n) (hok : okT boxes n s = true)
    (hL : L.length + (cT s L.length).length ≤ 100000) (k : ∀ v' B' H', CS base H H' vc B v' B' (L ++ cT s L.length) → K v' H') : CallF Cd f_icompileStmt [.agg c, vc] H K w := by
  obtain ⟨hk17, hoe, _, _, _⟩ := okT_facts hok
  obtain ⟨va, vy, vz, rfl, ea, ey, ez⟩ := h
  obtain ⟨kk, vv, bb, ⟨op, nn, args⟩, body, els⟩ := s
  simp only at i1 i2 ea ey ez hk17 hoe
  have hf := hg.flat
  have x1 := Ext.push H [.I kk, .I vv, .I bb, .I op, .I nn, va, vy, vz]
  have q1 : (H.push [.I kk, .I vv, .I bb, .I op, .I nn, va, vy, vz]).bk H.n = some ⟨[.I kk, .I vv, .I bb, .I op, .I nn, va, vy, vz], true⟩ := push_new
  have hgb : ∀ b ∈ grB vc B, b < H.n := fun b hb => by have := (hg.mem hb); omega
  have hn1 : H.n ∉ grB vc B := fun hm => by have := hgb _ hm; omega
  have hg1 := hg.ext x1
  have ha := hg.alen
  have hb1 : base ≤ (H.push [.I kk, .I vv, .I bb, .I op, .I nn, va, vy, vz]).n := by simp; omega
  have hbig := hg.1
  have zE : ∀ a : Int, compE a ⟨op, nn, args⟩ = cE1 a op nn (compF args a) := fun _ => rfl
  have w3 : (H.push [.I kk, .I vv, .I bb, .I op, .I nn, va, vy, vz]).loadN H.n 3 3 = some [.I op, .I nn, va] := by rw [loadN_bk q1]; rfl
  obtain ⟨E, hE⟩ : ∃ E, E = compE 4 ⟨op, nn, args⟩ := ⟨_, rfl⟩
  have hcase : kk = 5 ∨ kk = 6 ∨ kk = 1 ∨ kk = 4 ∨ kk = 7 ∨ kk = 2 ∨ kk = 3 := by omega
  rw [CallF_eq e_icompileStmt rfl]
  rcases hcase with rfl | rfl | rfl | rfl | rfl | rfl | rfl
  · have e : cT ⟨5, vv, bb, ⟨op, nn, args⟩, body, els⟩ L.length = [⟨7, vv, 0, 0, bb⟩] := by unfold cT stC; simp
    rw [e] at k hL
    obtain ⟨v', H', B', a1, a2, a3⟩ := CS.app hg1 hb1 ⟨7, vv, 0, 0, bb⟩ (by simp at hL; omega)
    simp only [qC] at a1
    simp (disch := omega) [ha, load_bk q1, AM.elems, loadN_push, a1]
    exact k _ B' _ (a2.pre x1 hgb)
  · have e : cT ⟨6, vv, bb, ⟨op, nn, args⟩, body, els⟩ L.length = [⟨8, 0, 0, 0, 0⟩] := by unfold cT stC; simp
    rw [e] at k hL
    obtain ⟨v', H', B', a1, a2, a3⟩ := CS.app hg1 hb1 ⟨8, 0, 0, 0, 0⟩ (by simp at hL; omega)
    simp only [qC] at a1
    simp (disch := omega) [ha, load_bk q1, AM.elems, loadN_push, a1]
    exact k _ B' _ (a2.pre x1 hgb)
  · have e : cT ⟨1, vv, bb, ⟨op, nn, args⟩, body, els⟩ L.length = E ++ [⟨2, vv, 4, 0, 0⟩] := by unfold cT stC; simp [hE]
    rw [e] at k hL
    simp only [List.length_append, List.length_singleton] at hL
    simp (disch := omega) [ha, load_bk q1, w3]
    refine K_icompileExpr args (base := base) (d := 5) (at_ := 4) (ea.ext x1) hg1 hb1 (hoe (by omega) (by omega)) (by omega) (by rw [← zE, ← hE]; omega) fun v1 B1 H2 s2 => ?_
    rw [← zE, ← hE] at s2
    have n2 := s2.le
    simp only [push_n] at n2
    have q2 := s2.keep (P := H.n) (by simp) hn1 q1
    obtain ⟨v', H', B', a1, a2, a3⟩ := CS.app s2.1 (by omega) ⟨2, vv, 4, 0, 0⟩ (by simp only [List.length_append]; omega)
    simp only [qC] at a1
    simp (disch := omega) [load_bk q2, AM.elems, loadN_push, a1]
    refine k _ B' _ ?_
    simpa [List.append_assoc] using (s2.trans a2).pre x1 hgb
  · have e : cT ⟨4, vv, bb, ⟨op, nn, args⟩, body, els⟩ L.length = E ++ [⟨6, 0, 4, 0, bb⟩] := by unfold cT stC; simp [hE]
    rw [e] at k hL
    simp only [List.length_append, List.length_singleton] at hL
    simp (disch := omega) [ha, load_bk q1, w3]
    refine K_icompileExpr args (base := base) (d := 5) (at_ := 4) (ea.ext x1) hg1 hb1 (hoe (by omega) (by omega)) (by omega) (by rw [← zE, ← hE]; omega) fun v1 B1 H2 s2 => ?_
    rw [← zE, ← hE] at s2
    have n2 := s2.le
    simp only [push_n] at n2
    have q2 := s2.keep (P := H.n) (by simp) hn1 q1
    obtain ⟨v', H', B', a1, a2, a3⟩ := CS.app s2.1 (by omega) ⟨6, 0, 4, 0, bb⟩ (by simp only [List.length_append]; omega)
    simp only [qC] at a1
    simp (disch := omega) [load_bk q2, AM.elems, loadN_push, a1]
    refine k _ B' _ ?_
    simpa [List.append_assoc] using (s2.trans a2).pre x1 hgb
  · have e : cT ⟨7, vv, bb, ⟨op, nn, args⟩, body, els⟩ L.length = E ++ [⟨9, 0, 4, 0, 0⟩] := by unfold cT stC; simp [hE]
    rw [e] at k hL
    simp only [List.length_append, List.length_singleton] at hL
    simp (disch := omega) [ha, load_bk q1, w3]
    refine K_icompileExpr args (base := base) (d := 5) (at_ := 4) (ea.ext x1) hg1 hb1 (hoe (by omega) (by omega)) (by omega) (by rw [← zE, ← hE]; omega) fun v1 B1 H2 s2 => ?_
    rw [← zE, ← hE] at s2
    have n2 := s2.le
    simp only [push_n] at n2
    have q2 := s2.keep (P := H.n) (by simp) hn1 q1
    obtain ⟨v', H', B', a1, a2, a3⟩ := CS.app s2.1 (by omega) ⟨9, 0, 4, 0, 0⟩ (by simp only [List.length_append]; omega)
    simp only [qC] at a1
    simp (disch := omega) [load_bk q2, AM.elems, loadN_push, a1]
    refine k _ B' _ ?_
    simpa [List.append_assoc] using (s2.trans a2).pre x1 hgb
  · have hok2 : okS boxes (n - 1) body = true ∧ okS boxes (n - 1) els = true := by
      unfold okT okS1 stV at hok
      simp at hok
      exact ⟨hok.2.1.2, hok.2.2⟩
    obtain ⟨Y, hY⟩ : ∃ Y, Y = cS body (L.length + E.length + 1) := ⟨_, rfl⟩
    obtain ⟨Z, hZ⟩ : ∃ Z, Z = cS els (L.length + E.length + 1 + Y.length + 1) := ⟨_, rfl⟩
    have e : cT ⟨2, vv, bb, ⟨op, nn, args⟩, body, els⟩ L.length = if els.list.length = 0 then E ++ ⟨5, 0, 4, 0, (L.length + E.length + 1 + Y.length : Nat)⟩ :: Y else E ++ ⟨5, 0, 4, 0, (L.length + E.length + 1 + Y.length + 1 : Nat)⟩ :: (Y ++ ⟨4, 0, 0, 0, (L.length + E.length + 1 + Y.length + 1 + Z.length : Nat)⟩ :: Z) := by
      unfold cT
      simp only [← hE, ← hY, ← hZ]
      unfold stC
      rw [if_neg (by decide), if_neg (by decide), if_neg (by decide), if_neg (by decide), if_neg (by decide), if_neg (by decide)]
    rw [e] at k hL
    have hL2 : L.length + E.length + 1 + Y.length ≤ 100000 := by
      split at hL <;> simp at hL <;> omega
    simp (disch := omega) [ha, load_bk q1, w3]
    refine K_icompileExpr args (base := base) (d := 5) (at_ := 4) (ea.ext x1) hg1 hb1 (hoe (by omega) (by omega)) (by omega) (by rw [← zE, ← hE]; omega) fun v1 B1 H2 s2 => ?_
    rw [← zE, ← hE] at s2
    have n2 := s2.le
    simp only [push_n] at n2
    have q2 := s2.keep (P := H.n) (by simp) hn1 q1
    obtain ⟨Z0, hZ0⟩ : ∃ z, z = (L ++ E).length := ⟨_, rfl⟩
    have f2 := s2.1.alen
    rw [← hZ0] at f2
    obtain ⟨v2, H3, B2, a1, a2, a3⟩ := CS.app s2.1 (by omega) ⟨5, 0, 4, 0, 0⟩ (by simp only [List.length_append]; omega)
    simp only [qC] at a1
    simp only [List.length_append] at hZ0
    have n3 := a2.le
    simp (disch := omega) [load_bk q2, f2, AM.elems, loadN_push, a1]
    have s3 := s2.trans a2
    have key : ∀ {H' : AH} {v' : AV} {B' : Nat} {L' : List Qd}, CS base (H.push [.I 2, .I vv, .I bb, .I op, .I nn, va, vy, vz]) H' vc B v' B' L' → H.n < H'.n ∧ H'.bk H.n = some ⟨[.I 2, .I vv, .I bb, .I op, .I nn, va, vy, vz], true⟩ ∧ SV (fun b => b < base) H' vy body ∧ SV (fun b => b < base) H' vz els := fun S => by
      have hle := S.le
      simp only [push_n] at hle
      have hbk : ∀ b, b < base → b < (H.push [.I 2, .I vv, .I bb, .I op, .I nn, va, vy, vz]).n → _ := fun b hb hn => S.2.1.2 b hn (fun hm => by have := hg.mem hm; omega)
      exact ⟨by omega, S.keep (P := H.n) (by simp) hn1 q1, (ey.ext x1).mono (by simp; omega) hbk (fun _ h _ => h), (ez.ext x1).mono (by simp; omega) hbk (fun _ h _ => h)⟩
    have l2 : (L ++ E ++ [(⟨5, 0, 4, 0, 0⟩ : Qd)]).length = L.length + E.length + 1 := by simp; omega
    refine ⟨by rw [if_neg (by omega), (key s3).2.1, q2], i1 (base := base) (boxes := boxes) (n := n - 1) (key s3).2.2.1 s3.1 (by omega) hok2.1 (by rw [l2, ← hY]; omega) fun v4 B4 H4 s4 => ?_⟩
    rw [l2, ← hY] at s4
    have S4 := s3.trans s4
    obtain ⟨n4, q4, _, ez4⟩ := key S4
    obtain ⟨N4, hN4⟩ : ∃ z, z = (L ++ E ++ [(⟨5, 0, 4, 0, 0⟩ : Qd)] ++ Y).length := ⟨_, rfl⟩
    have f4 := S4.1.alen
    rw [← hN4] at f4
    have hlt4 : Z0 < N4 := by rw [hN4, hZ0]; simp <;> omega
    have hlt4' : (Z0 : Int) < N4 := by omega
    have h4b : N4 ≤ 100000 := by rw [hN4]; simp <;> omega
    have eN4 : N4 = L.length + E.length + 1 + Y.length := by rw [hN4]; simp <;> omega
    have l6 : (L ++ E).length = Z0 := by rw [hZ0]; simp
    by_cases hz : els.list.length = 0
    · rw [if_pos hz] at k
      have S4' : CS base (H.push [.I 2, .I vv, .I bb, .I op, .I nn, va, vy, vz]) H4 vc B v4 B4 ((L ++ E) ++ ⟨5, 0, 4, 0, 0⟩ :: Y) := by simpa using S4
      obtain ⟨cap5, H6, ev5, st6, s6⟩ := CS.patch S4'.1 (N4 : Int)
      have S6 := S4'.trans s6
      obtain ⟨n6, q6, _, ez6⟩ := key S6
      have l5 : ((L ++ E) ++ (⟨5, 0, 4, 0, 0⟩ : Qd) :: Y).length = N4 := by rw [hN4]; simp <;> omega
      rw [l5] at ev5
      rw [l6] at st6
      have az4 := ez4.alen
      have az6 := ez6.alen
      rw [hz] at az4 az6
      subst ev5
      simp (disch := omega) [load_bk q4, f4, az4, hlt4', st6, load_bk q6, az6]
      refine k _ B4 _ ?_
      rw [← eN4]
      simpa [List.append_assoc] using S6.pre x1 hgb
    · rw [if_neg hz] at k hL
      simp only [List.length_append, List.length_cons] at hL
      obtain ⟨v5, H5, B5, b1, b2, b3⟩ := CS.app S4.1 (by omega) ⟨4, 0, 0, 0, 0⟩ (by simp only [List.length_append, List.length_singleton]; omega)
      simp only [qC] at b1
      have S5 := S4.trans b2
      obtain ⟨n5, q5, _, ez5⟩ := key S5
      obtain ⟨N5, hN5⟩ : ∃ z, z = (L ++ E ++ [(⟨5, 0, 4, 0, 0⟩ : Qd)] ++ Y ++ [(⟨4, 0, 0, 0, 0⟩ : Qd)]).length := ⟨_, rfl⟩
      have eN5 : N5 = L.length + E.length + 1 + Y.length + 1 := by rw [hN5]; simp <;> omega
      have f5 := S5.1.alen
      rw [← hN5] at f5
      have S5' : CS base (H.push [.I 2, .I vv, .I bb, .I op, .I nn, va, vy, vz]) H5 vc B v5 B5 ((L ++ E) ++ ⟨5, 0, 4, 0, 0⟩ :: (Y ++ [⟨4, 0, 0, 0, 0⟩])) := by simpa using S5
      obtain ⟨cap5, H6, ev5, st6, s6⟩ := CS.patch S5'.1 (N5 : Int)
      have S6 := S5'.trans s6
      obtain ⟨n6, q6, _, ez6⟩ := key S6
      have l5 : ((L ++ E) ++ (⟨5, 0, 4, 0, 0⟩ : Qd) :: (Y ++ [⟨4, 0, 0, 0, 0⟩])).length = N5 := by rw [hN5]; simp <;> omega
      have l5' : ((L ++ E) ++ (⟨5, 0, 4, 0, N5⟩ : Qd) :: (Y ++ [⟨4, 0, 0, 0, 0⟩])).length = N5 := by rw [hN5]; simp <;> omega
      rw [l5] at ev5
      rw [l6] at st6
      have az4 := ez4.alen
      have az6 := ez6.alen
      have hzi : (0 : Int) < els.list.length := by omega
      have hzn : 0 < els.list.length := by omega
      have hzb := ez6.big
      have hlt5' : (Z0 : Int) < N5 := by omega
      have h5b : N5 ≤ 100000 := by omega
      subst ev5
      simp (disch := omega) [load_bk q4, f4, az4, hzi, hzn, AM.elems, loadN_push, b1, f5, hlt5', st6, load_bk q6, az6]
      have g6 := S6.1
      refine i2 (base := base) (boxes := boxes) (n := n - 1) ez6 g6 (by omega) hok2.2 (by rw [l5', eN5, ← hZ]; omega) fun v7 B7 H7 s7 => ?_
      rw [l5', eN5, ← hZ, ← eN5] at s7
      have S7 := S6.trans s7
      obtain ⟨n7, q7, _, ez7⟩ := key S7
      obtain ⟨N7, hN7⟩ : ∃ z, z = (((L ++ E) ++ (⟨5, 0, 4, 0, N5⟩ : Qd) :: (Y ++ [⟨4, 0, 0, 0, 0⟩])) ++ Z).length := ⟨_, rfl⟩
      have eN7 : N7 = L.length + E.length + 1 + Y.length + 1 + Z.length := by rw [hN7]; simp <;> omega
      have f7 := S7.1.alen
      rw [← hN7] at f7
      have S7' : CS base (H.push [.I 2, .I vv, .I bb, .I op, .I nn, va, vy, vz]) H7 vc B v7 B7 (((L ++ E) ++ ⟨5, 0, 4, 0, N5⟩ :: Y) ++ ⟨4, 0, 0, 0, 0⟩ :: Z) := by simpa using S7
      obtain ⟨cap8, H8, ev8, st8, s8⟩ := CS.patch S7'.1 (N7 : Int)
      have S8 := S7'.trans s8
      have l7 : (((L ++ E) ++ (⟨5, 0, 4, 0, N5⟩ : Qd) :: Y) ++ (⟨4, 0, 0, 0, 0⟩ : Qd) :: Z).length = N7 := by rw [eN7]; simp <;> omega
      have l8 : ((L ++ E) ++ (⟨5, 0, 4, 0, N5⟩ : Qd) :: Y).length = N4 := by rw [eN4]; simp <;> omega
      rw [l7] at ev8
      rw [l8] at st8
      have hlt7 : (N4 : Int) < N7 := by omega
      subst ev8
      simp (disch := omega) [f7, hlt7, st8]
      refine k _ B7 _ ?_
      rw [← eN7, ← eN5]
      simpa [List.append_assoc] using S8.pre x1 hgb
  · have hok2 : okS boxes (n - 1) body = true ∧ els.list.length = 0 := by
      unfold okT okS1 stV at hok
      simp at hok
      exact ⟨hok.2.1.2, by rw [hok.1.1.2.2]; rfl⟩
    obtain ⟨Y, hY⟩ : ∃ Y, Y = cS body (L.length + E.length + 1) := ⟨_, rfl⟩
    have e : cT ⟨3, vv, bb, ⟨op, nn, args⟩, body, els⟩ L.length = E ++ ⟨5, 0, 4, 0, (L.length + E.length + 1 + Y.length + 1 : Nat)⟩ :: (Y ++ [⟨4, 0, 0, 0, L.length⟩]) := by
      unfold cT
      simp only [← hE, ← hY]
      unfold stC
      rw [if_neg (by decide), if_neg (by decide), if_neg (by decide), if_neg (by decide), if_neg (by decide), if_pos rfl]
    rw [e] at k hL
    simp only [List.length_append, List.length_cons, List.length_nil] at hL
    simp (disch := omega) [ha, load_bk q1, w3]
    refine K_icompileExpr args (base := base) (d := 5) (at_ := 4) (ea.ext x1) hg1 hb1 (hoe (by omega) (by omega)) (by omega) (by rw [← zE, ← hE]; omega) fun v1 B1 H2 s2 => ?_
    rw [← zE, ← hE] at s2
    have n2 := s2.le
    simp only [push_n] at n2
    have q2 := s2.keep (P := H.n) (by simp) hn1 q1
    obtain ⟨Z0, hZ0⟩ : ∃ z, z = (L ++ E).length := ⟨_, rfl⟩
    have f2 := s2.1.alen
    rw [← hZ0] at f2
    obtain ⟨v2, H3, B2, a1, a2, a3⟩ := CS.app s2.1 (by omega) ⟨5, 0, 4, 0, 0⟩ (by simp only [List.length_append]; omega)
    simp only [qC] at a1
    simp only [List.length_append] at hZ0
    have n3 := a2.le
    simp (disch := omega) [load_bk q2, f2, AM.elems, loadN_push, a1]
    have s3 := s2.trans a2
    have key : ∀ {H' : AH} {v' : AV} {B' : Nat} {L' : List Qd}, CS base (H.push [.I 3, .I vv, .I bb, .I op, .I nn, va, vy, vz]) H' vc B v' B' L' → H.n < H'.n ∧ H'.bk H.n = some ⟨[.I 3, .I vv, .I bb, .I op, .I nn, va, vy, vz], true⟩ ∧ SV (fun b => b < base) H' vy body ∧ SV (fun b => b < base) H' vz els := fun S => by
      have hle := S.le
      simp only [push_n] at hle
      have hbk : ∀ b, b < base → b < (H.push [.I 3, .I vv, .I bb, .I op, .I nn, va, vy, vz]).n → _ := fun b hb hn => S.2.1.2 b hn (fun hm => by have := hg.mem hm; omega)
      exact ⟨by omega, S.keep (P := H.n) (by simp) hn1 q1, (ey.ext x1).mono (by simp; omega) hbk (fun _ h _ => h), (ez.ext x1).mono (by simp; omega) hbk (fun _ h _ => h)⟩
    have l2 : (L ++ E ++ [(⟨5, 0, 4, 0, 0⟩ : Qd)]).length = L.length + E.length + 1 := by simp; omega
    refine ⟨by rw [if_neg (by omega), (key s3).2.1, q2], i1 (base := base) (boxes := boxes) (n := n - 1) (key s3).2.2.1 s3.1 (by omega) hok2.1 (by rw [l2, ← hY]; omega) fun v4 B4 H4 s4 => ?_⟩
    rw [l2, ← hY] at s4
    have S4 := s3.trans s4
    obtain ⟨n4, q4, _, ez4⟩ := key S4
    obtain ⟨v5, H5, B5, b1, b2, b3⟩ := CS.app S4.1 (by omega) ⟨4, 0, 0, 0, L.length⟩ (by simp only [List.length_append, List.length_singleton]; omega)
    simp only [qC] at b1
    have S5 := S4.trans b2
    obtain ⟨n5, q5, _, ez5⟩ := key S5
    obtain ⟨N5, hN5⟩ : ∃ z, z = (L ++ E ++ [(⟨5, 0, 4, 0, 0⟩ : Qd)] ++ Y ++ [(⟨4, 0, 0, 0, L.length⟩ : Qd)]).length := ⟨_, rfl⟩
    have f5 := S5.1.alen
    rw [← hN5] at f5
    have S5' : CS base (H.push [.I 3, .I vv, .I bb, .I op, .I nn, va, vy, vz]) H5 vc B v5 B5 ((L ++ E) ++ ⟨5, 0, 4, 0, 0⟩ :: (Y ++ [⟨4, 0, 0, 0, L.length⟩])) := by simpa using S5
    obtain ⟨cap5, H6, ev5, st6, s6⟩ := CS.patch S5'.1 (N5 : Int)
    have S6 := S5'.trans s6
    obtain ⟨n6, q6, _, ez6⟩ := key S6
    have l5 : ((L ++ E) ++ (⟨5, 0, 4, 0, 0⟩ : Qd) :: (Y ++ [⟨4, 0, 0, 0, L.length⟩])).length = N5 := by rw [hN5]; simp <;> omega
    have l6 : (L ++ E).length = Z0 := by rw [hZ0]; simp
    rw [l5] at ev5
    rw [l6] at st6
    have hlt5 : Z0 < N5 := by rw [hN5, hZ0]; simp <;> omega
    have hlt5' : (Z0 : Int) < N5 := by omega
    have zl := hok2.2
    have az5 := ez5.alen
    have az6 := ez6.alen
    rw [zl] at az5 az6
    subst ev5
    have h5b : N5 ≤ 100000 := by rw [hN5]; simp <;> omega
    simp (disch := omega) [load_bk q4, AM.elems, loadN_push, b1, f5, load_bk q5, az5, hlt5', st6, load_bk q6, az6]
    refine k _ B5 _ ?_
    have eN : (N5 : Int) = ((L.length + E.length + 1 + Y.length + 1 : Nat) : Int) := by rw [hN5]; simp <;> omega
    rw [← eN]
    simpa [List.append_assoc] using S6.pre x1 hgb
end Go.Proofs.YtmecbehegmgbhaaGreat.AM
namespace Go.Proofs.YtmecbehegmgbhaaGreat.AM
set_option linter.unusedSimpArgs false
set_option linter.unusedVariables false
set_option maxRecDepth 100000
set_option maxHeartbeats 4000000
open Go
attribute [-simp] AM.elems
theorem K_icompileStmts_l {f : Sts} (ih : ∀ s ∈ f.list, CompC s.body ∧ CompC s.els) {base : Nat} {boxes n : Int} (hok : okS boxes n f = true) {v : AV} {Q : Out → Env → AH → Prop} (m i : Nat) (hm : i + m = f.list.length) {G : AH} {vc : AV} {L : List Qd} {B : Nat} (hb : base ≤ G.n) (hv : SV (fun b => b < base) G v f)
    (hg : GrS base G vc L.length 5 (qCs L) B) (hL : L.length + (cS (Sts.of (f.list.drop i)) L.length).length ≤ 100000)
    (hQ : ∀ e v' B' G', CS base G G' vc B v' B' (L ++ cS (Sts.of (f.list.drop i)) L.length) → get e 1 = some v' → Q (.brk 0) e G') :
    W Cd (.loop c_icompileStmts_l0) [(1, vc), (7, v), (8, .I f.list.length), (9, .I i)] G Q := by
  have hbig := hv.big
  induction m generalizing i G vc L B with
  | zero =>
    rw [W_loop_as c_icompileStmts_l0.eq_1]
    have : i = f.list.length := by omega
    subst this
    simp
    have e0 : f.list.drop f.list.length = [] := List.drop_eq_nil_of_le (Nat.le_refl _)
    rw [e0] at hQ
    have e1 : L ++ cS (Sts.of []) L.length = L := by simp [cS]
    rw [e1] at hQ
    exact hQ _ vc B G ⟨hg, Only.refl, fun b hb => .inl hb⟩ rfl
  | succ m ihm =>
    rw [W_loop_as c_icompileStmts_l0.eq_1]
    have hlt : i < f.list.length := by omega
    have hlt' : (i : Int) < f.list.length := by omega
    obtain ⟨s, hs⟩ : ∃ s, f.list[i]? = some s := ⟨_, List.getElem?_eq_getElem hlt⟩
    have hsm := List.mem_of_getElem? hs
    obtain ⟨i1, i2⟩ := ih s hsm
    have hos : okT boxes n s = true := by rw [okS_mem] at hok; exact List.all_eq_true.1 hok s hsm
    have hdr : f.list.drop i = s :: f.list.drop (i + 1) := by
      rw [List.drop_eq_getElem_cons hlt]
      rw [List.getElem?_eq_getElem hlt] at hs
      rw [Option.some.inj hs]
    rw [hdr, cS_of] at hL hQ
    simp only [List.length_append] at hL
    obtain ⟨b, o, cap, c, e1, ob, hbn, l1, s1⟩ := hv.at hs
    have hv0 := hv
    subst e1
    have s1' := s1
    obtain ⟨va, vy, vz, rfl, ea, ey, ez⟩ := s1'
    have st : (G.push [.I 0, .I 0, .I 0, .I 0, .I 0, .nils, .nils, .nils]).store G.n 0 [.I s.k, .I s.v, .I s.b, .I s.e.op, .I s.e.n, va, vy, vz] = some (G.push [.I s.k, .I s.v, .I s.b, .I s.e.op, .I s.e.n, va, vy, vz]) := store_push8' rfl
    have x1 := Ext.push G [.I s.k, .I s.v, .I s.b, .I s.e.op, .I s.e.n, va, vy, vz]
    have w1 : (G.push [.I s.k, .I s.v, .I s.b, .I s.e.op, .I s.e.n, va, vy, vz]).loadN G.n 0 8 = some [.I s.k, .I s.v, .I s.b, .I s.e.op, .I s.e.n, va, vy, vz] := by rw [loadN_bk push_new]; rfl
    have hgb : ∀ b ∈ grB vc B, b < G.n := fun b hb => by have := (hg.mem hb); omega
    simp (disch := omega) [hlt', l1, st, w1]
    refine K_icompileStmt i1 i2 (base := base) (boxes := boxes) (n := n) (s1.ext x1) (hg.ext x1) (by simp; omega) hos (by omega) fun v' B' H2 s2 => ?_
    have s2 := s2.pre x1 hgb
    simp (disch := omega)
    have n2 := s2.le
    have := ihm (i + 1) (by omega) (G := H2) (vc := v') (L := L ++ cT s L.length) (B := B') (by omega) (hv0.mono n2 (fun b hb hn => s2.2.1.2 b hn (fun hm => by have := hg.mem hm; omega)) (fun _ h _ => h)) s2.1 (by rw [List.length_append]; omega)
      (fun e v'' B'' G' s3 he => hQ e v'' B'' G' (by
        have := s2.trans s3
        rw [List.length_append, List.append_assoc] at this
        exact this) he)
    simpa using this
theorem K_icompileStmts (f : Sts) : CompC f := by
  induction f using Sts.ind with
  | h f ih =>
  intro base boxes n H K w v vc L B hv hg hb hok hL k
  rw [CallF_eq e_icompileStmts rfl]
  have hbig := hv.big
  simp [hv.alen]
  have := K_icompileStmts_l ih hok (Q := ?_) f.list.length 0 (by omega) hb hv hg (by rw [List.drop_zero, Sts.of_list]; exact hL) ?_
  · simpa using this
  · intro e v' B' G' s he
    rw [List.drop_zero, Sts.of_list] at s
    simp [he]
    exact k v' B' G' s
def compT (f : Sts) : List Qd := cS f 0 ++ [⟨10, 0, 0, 0, 0⟩]
section
variable {ok : Nat → Prop} {H : AH} {K : AV → AH → Prop} {w : Fk K} {v : AV} {f : Sts}
theorem K_icompileTask {boxes n : Int} (h : SV ok H v f) (hok : okS boxes n f = true) (hL : (cS f 0).length ≤ 90000)
    (k : ∀ v' B' H', GrS H.n H' v' (compT f).length 5 (qCs (compT f)) B' → Ext H H' → K v' H') : CallF Cd f_icompileTask [v] H K w := by
  rw [CallF_eq e_icompileTask rfl]
  simp
  refine K_icompileStmts f (base := H.n) (boxes := boxes) (n := n) (L := []) (B := 0) (h.mono (Nat.le_refl _) (fun _ _ _ => rfl) (fun b _ hb => hb)) GrS.nils (Nat.le_refl _) hok (by simp; omega) fun v1 B1 H1 s1 => ?_
  have n1 := s1.le
  obtain ⟨v', H', B', a1, a2, a3⟩ := CS.app s1.1 n1 ⟨10, 0, 0, 0, 0⟩ (by simp; omega)
  simp only [qC] at a1
  simp [AM.elems, loadN_push, a1]
  have S := s1.trans a2
  exact k v' B' H' (by simpa [compT] using S.1) ⟨S.le, fun b hb => S.2.1.2 b hb (by simp [grB])⟩
end
theorem K_iCompileProgram_l {boxes : Int} {l : List Sts} (hll : l.length ≤ 1000) (hit : ∀ f ∈ l, okS boxes 3 f = true ∧ (cS f 0).length ≤ 90000) {base : Nat} {v : AV}
    {Q : Out → Env → AH → Prop} (m i : Nat) (him : i + m = l.length) {G : AH} {g : AV} {cs : List AV} {B : Nat} (hb : base ≤ G.n) (hv : LV (fun b => b < base) G v l) (hg : GrS base G g i 1 cs B)
    (he : LF 1 (CLc (fun b => base ≤ b ∧ b ≠ B) G) ((l.map compT).take i) cs)
    (hQ : ∀ e G' g' cs' B', GrS base G' g' l.length 1 cs' B' → LF 1 (CLc (fun b => base ≤ b ∧ b ≠ B') G') (l.map compT) cs' → (∀ b, b < base → G'.bk b = G.bk b) → G.n ≤ G'.n → get e 4 = some g' → Q (.brk 0) e G') :
    W Cd (.loop c_iCompileProgram_l0) [(4, g), (11, v), (12, .I l.length), (13, .I i)] G Q := by
  induction m generalizing i G g cs B with
  | zero =>
    rw [W_loop_as c_iCompileProgram_l0.eq_1]
    have hi : i = l.length := by omega
    subst hi
    simp
    rw [List.take_of_length_le (by simp)] at he
    exact hQ _ G g cs B hg he (fun _ _ => rfl) (Nat.le_refl _) rfl
  | succ m ihm =>
    rw [W_loop_as c_iCompileProgram_l0.eq_1]
    have hi : i < l.length := by omega
    obtain ⟨f, hs⟩ : ∃ s, l[i]? = some s := ⟨_, List.getElem?_eq_getElem hi⟩
    have hmem := List.mem_of_getElem? hs
    obtain ⟨hf1, hf2⟩ := hit f hmem
    obtain ⟨b, o, cap, u, e1, hbn, l1, sv⟩ := hv.at hs
    have hv0 := hv
    subst e1
    generalize hLL : l.length = LL at *
    have hlt : (i : Int) < LL := by omega
    simp (disch := omega) [hlt, l1]
    refine K_icompileTask sv hf1 hf2 fun vi' B1 H1 g1 x1 => ?_
    have f1 := g1.flat
    have x7 := Ext.push H1 [vi']
    obtain ⟨g', G', B', a1, a2, a3, a4, a5, a6⟩ := LF.snoc (E := CLc) (l := l.map compT) (x := compT f) (fun h => h.mono) (by rw [List.getElem?_map, hs]; rfl) hg he hb (x1.trans x7) rfl
      (show CLc (fun b => G.n ≤ b) (H1.push [vi']) [vi'] (compT f) from ⟨vi', rfl, g1.qv.ext x7⟩) (by omega)
    have n1 := x1.1
    simp only [push_n] at n1 a5
    simp (disch := omega) [flat_cells f1, flat_tup f1, AM.elems, loadN_push, a1]
    have := ihm (i + 1) (by omega) (G := G') (by omega) (hv0.mono (by omega) (fun b hb' _ => a4 b hb') (fun _ h _ => h)) a2 a3 (fun e G2 g2 cs2 B2 u1 u2 u3 u4 u5 => hQ e G2 g2 cs2 B2 u1 u2 (fun b hb' => (u3 b hb').trans (a4 b hb')) (by omega) u5)
    simpa using this
theorem K_iCompileProgram {ok : Nat → Prop} {H : AH} {K : AV → AH → Prop} {w : Fk K} {c : List AV} {p : Pg} (h : PgC ok H c p) (hct : ∀ f ∈ p.tasks, ctS f ≤ 100000) (hsz : vaPg p = true → ∀ f ∈ p.tasks, (cS f 0).length ≤ 90000)
    (k0 : vaPg p = false → ∀ H', Ext H H' → K (.tup [.nils, .b false]) H')
    (k : vaPg p = true → ∀ v' H', CLV (fun b => H.n ≤ b) H' v' (p.tasks.map compT) → Ext H H' → K (.tup [v', .b true]) H') : CallF Cd f_iCompileProgram [.agg c] H K w := by
  have h' := h
  obtain ⟨vr, vt, rfl, h1, h2⟩ := h'
  rw [CallF_eq e_iCompileProgram rfl]
  have x0 := Ext.push H [vr, vt]
  have q0 : (H.push [vr, vt]).bk H.n = some ⟨[vr, vt], true⟩ := push_new
  simp [loadN_bk q0]
  refine K_iProgramValid (h.ext x0) hct fun H1 x1 => ?_
  have n1 := x1.1
  simp only [push_n] at n1
  have y1 := x0.trans x1
  have q1 := (x1.2 H.n (by simp)).trans q0
  cases hv : vaPg p with
  | false =>
    simp
    exact k0 hv H1 y1
  | true =>
    have hv' := hv
    unfold vaPg at hv'
    simp only [Bool.and_eq_true, decide_eq_true_eq, List.all_eq_true] at hv'
    have hl3 : p.tasks.length ≤ 3 := hv'.1.2.2
    simp [load_bk q1, h2.alen]
    have := K_iCompileProgram_l (boxes := 3) (l := p.tasks) (by omega) (fun f hf => ⟨by have := hv'.2 f hf; unfold vaF vaS at this; simp only [Bool.and_eq_true] at this; exact this.1.1, hsz hv f hf⟩) (Q := ?_) p.tasks.length 0 (by omega) (base := H1.n) (G := H1) (g := .nils) (cs := []) (B := 0) (v := vt) (Nat.le_refl _)
      ((h2.ext y1).mono (Nat.le_refl _) (fun b _ hb => rfl) (fun b _ hb => hb)) GrS.nils rfl ?_
    · simpa using this
    · intro e G g cs B u1 u2 u3 u4 u5
      simp [u5]
      exact k hv g G ⟨cs, by simpa using u1.slc.mono (Nat.le_refl _) (fun _ _ _ => rfl) (fun b hb _ => by omega), u2.imp fun c a h => h.mono (Nat.le_refl _) (fun _ _ _ => rfl) (fun b hb _ => by omega)⟩ ⟨by omega, fun b hb => (u3 b (by have := y1.1; omega)).trans (y1.2 b hb)⟩
end Go.Proofs.YtmecbehegmgbhaaGreat.AM
namespace Go.Proofs.YtmecbehegmgbhaaGreat.AM
set_option linter.unusedSimpArgs false
set_option linter.unusedVariables false
set_option maxRecDepth 100000
set_option maxHeartbeats 2000000
open Go
attribute [-simp] AM.elems
theorem cE1_len (a : Exs) : ∀ {at_ op n d : Int}, okE1 d op n a.list.length (okF (d - 1) a) = true → 1 ≤ (cE1 at_ op n (compF a at_)).length ∧ (cE1 at_ op n (compF a at_)).length + 1 ≤ 2 ^ d.toNat := by
  induction a using Exs.ind with
  | h a ih =>
  intro at_ op n d hok
  have hd : 0 < d := by
    unfold okE1 at hok
    by_cases h0 : op = 0
    · rw [if_pos h0] at hok; simp only [decide_eq_true_eq] at hok; omega
    by_cases h13 : op = 13
    · rw [if_neg h0, if_pos h13] at hok; simp only [decide_eq_true_eq] at hok; omega
    rw [if_neg h0, if_neg h13] at hok
    simp only [Bool.and_eq_true, decide_eq_true_eq] at hok
    omega
  obtain ⟨k, rfl⟩ : ∃ k : Nat, d = (k + 1 : Nat) := ⟨(d - 1).toNat, by omega⟩
  have hp : 1 ≤ 2 ^ k := Nat.one_le_two_pow
  have hpk : 2 ^ (((k + 1 : Nat) : Int).toNat) = 2 * 2 ^ k := by rw [Int.toNat_natCast, Nat.pow_succ]; omega
  rw [hpk]
  by_cases h0 : op = 0
  · unfold cE1; rw [if_pos h0]; simp; omega
  by_cases h13 : op = 13
  · unfold cE1; rw [if_neg h0, if_pos h13]; simp; omega
  obtain ⟨c0, c1, c2, c3⟩ := okE1_op hok h0 h13
  obtain ⟨x, y, hxy⟩ := two_of c2
  rw [okF_mem, hxy] at c3
  simp at c3
  have hk : ((k + 1 : Nat) : Int) - 1 = (k : Int) := by omega
  have c3' : okE (k : Int) x = true ∧ okE (k : Int) y = true := by simpa using c3
  have wx := ih x (by rw [hxy]; simp) (at_ := at_) (d := k) (op := x.op) (n := x.n) c3'.1
  have wy := ih y (by rw [hxy]; simp) (at_ := at_ + 1) (d := k) (op := y.op) (n := y.n) c3'.2
  rw [Int.toNat_natCast] at wx wy
  unfold cE1
  rw [if_neg h0, if_neg h13, compF_two hxy]
  unfold compE
  simp only [List.length_append, List.length_singleton]
  omega
theorem compE_len {e : Ex} (h : okE 5 e = true) (at_ : Int) : 1 ≤ (compE at_ e).length ∧ (compE at_ e).length ≤ 31 := by
  have := cE1_len e.args (at_ := at_) (op := e.op) (n := e.n) (d := 5) h
  unfold compE
  have e5 : (2 : Nat) ^ (5 : Int).toNat = 32 := rfl
  rw [e5] at this
  omega
theorem cT_len {s : St1} {n : Int} (hok : okT 3 n s = true) (base : Nat) (hy : ∀ b, (cS s.body b).length ≤ 34 * ctS s.body) (hz : ∀ b, (cS s.els b).length ≤ 34 * ctS s.els) : 1 ≤ (cT s base).length ∧ (cT s base).length ≤ 34 * ctT s := by
  obtain ⟨hk, hoe, _⟩ := okT_facts hok
  have hct : ctT s = 1 + ctS s.body + ctS s.els := rfl
  have h1 := hy (base + (compE 4 s.e).length + 1)
  have h2 := hz (base + (compE 4 s.e).length + 1 + (cS s.body (base + (compE 4 s.e).length + 1)).length + 1)
  unfold cT
  generalize cS s.body (base + (compE 4 s.e).length + 1) = Y at *
  generalize cS s.els (base + (compE 4 s.e).length + 1 + Y.length + 1) = Z at *
  unfold stC
  by_cases k5 : s.k = 5
  · rw [if_neg (by omega), if_neg (by omega), if_pos k5]; simp; omega
  by_cases k6 : s.k = 6
  · rw [if_neg (by omega), if_neg (by omega), if_neg (by omega), if_pos k6]; simp; omega
  have hE := compE_len (hoe k5 k6) 4
  generalize compE 4 s.e = E at *
  by_cases k1 : s.k = 1
  · rw [if_pos k1]; simp; omega
  by_cases k4 : s.k = 4
  · rw [if_neg (by omega), if_pos k4]; simp; omega
  by_cases k7 : s.k = 7
  · rw [if_neg (by omega), if_neg (by omega), if_neg (by omega), if_neg (by omega), if_pos k7]; simp; omega
  rw [if_neg k1, if_neg k4, if_neg k5, if_neg k6, if_neg k7]
  by_cases k3 : s.k = 3
  · rw [if_pos k3]; simp; omega
  rw [if_neg k3]
  split <;> simp <;> omega
theorem okT_yz {n : Int} {s : St1} (h : okT 3 n s = true) : (s.body.list.length = 0 ∨ okS 3 (n - 1) s.body = true) ∧ (s.els.list.length = 0 ∨ okS 3 (n - 1) s.els = true) := by
  unfold okT okS1 at h
  simp only [Bool.and_eq_true, Bool.or_eq_true, decide_eq_true_eq] at h
  rcases h.2 with q | q
  · have q1 := h.1
    unfold stV at q1
    by_cases k1 : s.k = 1
    · rw [if_pos k1] at q1; simp only [Bool.and_eq_true, decide_eq_true_eq] at q1; exact ⟨.inl q1.1.2.2.2.1, .inl q1.1.2.2.2.2⟩
    rw [if_neg k1, if_neg q.1, if_neg q.2] at q1
    by_cases k4 : s.k = 4
    · rw [if_pos k4] at q1; simp only [Bool.and_eq_true, decide_eq_true_eq] at q1; exact ⟨.inl q1.1.2.2.2.1, .inl q1.1.2.2.2.2⟩
    rw [if_neg k4] at q1
    by_cases k5 : s.k = 5
    · rw [if_pos k5] at q1; simp only [Bool.and_eq_true, decide_eq_true_eq] at q1; exact ⟨.inl q1.1.2.2.2.2.1, .inl q1.1.2.2.2.2.2⟩
    rw [if_neg k5] at q1
    by_cases k6 : s.k = 6
    · rw [if_pos k6] at q1; simp only [Bool.and_eq_true, decide_eq_true_eq] at q1; exact ⟨.inl q1.1.2.2.1, .inl q1.1.2.2.2⟩
    rw [if_neg k6] at q1
    by_cases k7 : s.k = 7
    · rw [if_pos k7] at q1; simp only [Bool.and_eq_true, decide_eq_true_eq] at q1; exact ⟨.inl q1.1.2.2.1, .inl q1.1.2.2.2⟩
    rw [if_neg k7] at q1; cases q1
  · exact ⟨.inr q.1.2, .inr q.2⟩
theorem cS_nil {f : Sts} (h : f.list.length = 0) (b : Nat) : cS f b = [] := by
  cases f with
  | nil => rfl
  | cons => simp at h
theorem cS_len : ∀ {f : Sts} {n : Int}, okS 3 n f = true → ∀ base, (cS f base).length ≤ 34 * ctS f
  | .nil, _, _, _ => by simp [cS, ctS]
  | .cons k v b e y z r, n, h, base => by
    simp only [okS, Bool.and_eq_true] at h
    obtain ⟨h1, h2⟩ := h
    have hT : okT 3 n ⟨k, v, b, e, y, z⟩ = true := h1
    have hr := cS_len h2 (base + (cT ⟨k, v, b, e, y, z⟩ base).length)
    obtain ⟨hy, hz⟩ := okT_yz hT
    have hyz : (∀ b', (cS y b').length ≤ 34 * ctS y) ∧ (∀ b', (cS z b').length ≤ 34 * ctS z) := by
      refine ⟨fun b' => ?_, fun b' => ?_⟩
      · rcases hy with u | u
        · rw [cS_nil u]; simp
        · exact cS_len u b'
      · rcases hz with u | u
        · rw [cS_nil u]; simp
        · exact cS_len u b'
    have hs := cT_len hT base hyz.1 hyz.2
    have e1 : cS (.cons k v b e y z r) base = cT ⟨k, v, b, e, y, z⟩ base ++ cS r (base + (cT ⟨k, v, b, e, y, z⟩ base).length) := rfl
    rw [e1, List.length_append]
    have hct : ctT (⟨k, v, b, e, y, z⟩ : St1) = 1 + ctS y + ctS z := rfl
    have hc2 : ctS (.cons k v b e y z r) = 1 + ctS y + ctS z + ctS r := rfl
    omega
def quOk (M many : Int) (q : Qd) : Bool := quV M q && boxQ many q
theorem cE1_ok {M many : Int} (a : Exs) : ∀ {at_ op n d : Int}, okE1 d op n a.list.length (okF (d - 1) a) = true → 4 ≤ at_ → at_ + d ≤ 12 → ∀ q ∈ cE1 at_ op n (compF a at_), quOk M many q = true := by
  induction a using Exs.ind with
  | h a ih =>
  intro at_ op n d hok h4 h12 q hq
  unfold cE1 at hq
  by_cases h0 : op = 0
  · rw [if_pos h0] at hq
    unfold okE1 at hok
    rw [if_pos h0] at hok
    simp only [decide_eq_true_eq] at hok
    simp at hq
    subst hq
    have : isW n = true := isW_iff.2 (by omega)
    simp [quOk, quV, boxQ, reg, this]; omega
  rw [if_neg h0] at hq
  by_cases h13 : op = 13
  · rw [if_pos h13] at hq
    unfold okE1 at hok
    rw [if_neg h0, if_pos h13] at hok
    simp only [decide_eq_true_eq] at hok
    simp at hq
    subst hq
    simp [quOk, quV, boxQ, reg]; omega
  rw [if_neg h13] at hq
  obtain ⟨c0, c1, c2, c3⟩ := okE1_op hok h0 h13
  have hd1 : 1 < d := by
    unfold okE1 at hok
    rw [if_neg h0, if_neg h13] at hok
    simp only [Bool.and_eq_true, decide_eq_true_eq] at hok
    exact hok.1.2.2.2.2
  obtain ⟨x, y, hxy⟩ := two_of c2
  rw [okF_mem, hxy] at c3
  simp at c3
  rw [compF_two hxy] at hq
  simp only [List.mem_append, List.mem_singleton] at hq
  rcases hq with (q1 | q2) | q3
  · exact ih x (by rw [hxy]; simp) (at_ := at_) (d := d - 1) (op := x.op) (n := x.n) c3.1 h4 (by omega) q q1
  · exact ih y (by rw [hxy]; simp) (at_ := at_ + 1) (d := d - 1) (op := y.op) (n := y.n) c3.2 (by omega) (by omega) q q2
  · subst q3
    simp [quOk, quV, boxQ, reg]; omega
theorem cT_ok {M : Nat} {many : Int} {s : St1} {n : Int} (hok : okT 3 n s = true) (hbx : bxT many s = true) (base : Nat) (hM : base + (cT s base).length < M)
    (hy : ∀ b, b + (cS s.body b).length < M → ∀ q ∈ cS s.body b, quOk M many q = true) (hz : ∀ b, b + (cS s.els b).length < M → ∀ q ∈ cS s.els b, quOk M many q = true) : ∀ q ∈ cT s base, quOk M many q = true := by
  obtain ⟨hk, hoe, hsv, hsb, _⟩ := okT_facts hok
  have h1 := hy (base + (compE 4 s.e).length + 1)
  have h2 := hz (base + (compE 4 s.e).length + 1 + (cS s.body (base + (compE 4 s.e).length + 1)).length + 1)
  have hb2 : s.k = 4 ∨ s.k = 5 → s.b < many := fun h => by
    unfold bxT at hbx
    simp only [Bool.and_eq_true, decide_eq_true_eq] at hbx
    omega
  have hE : s.k ≠ 5 → s.k ≠ 6 → ∀ q ∈ compE 4 s.e, quOk M many q = true := fun a b q hq => cE1_ok s.e.args (at_ := 4) (d := 5) (op := s.e.op) (n := s.e.n) (hoe a b) (by omega) (by omega) q hq
  unfold cT at hM ⊢
  generalize cS s.body (base + (compE 4 s.e).length + 1) = Y at *
  generalize cS s.els (base + (compE 4 s.e).length + 1 + Y.length + 1) = Z at *
  generalize compE 4 s.e = E at *
  unfold stC at hM ⊢
  intro q hq
  by_cases k1 : s.k = 1
  · rw [if_pos k1] at hq hM
    simp only [List.mem_append, List.mem_singleton] at hq
    rcases hq with z | z
    · exact hE (by omega) (by omega) q z
    · subst z; have := hsv (.inl k1); simp [quOk, quV, boxQ, reg]; omega
  rw [if_neg k1] at hq hM
  by_cases k4 : s.k = 4
  · rw [if_pos k4] at hq hM
    simp only [List.mem_append, List.mem_singleton] at hq
    rcases hq with z | z
    · exact hE (by omega) (by omega) q z
    · subst z; have := hsb (.inl k4); have := hb2 (.inl k4); simp [quOk, quV, boxQ, reg]; omega
  rw [if_neg k4] at hq hM
  by_cases k5 : s.k = 5
  · rw [if_pos k5] at hq hM
    simp only [List.mem_singleton] at hq
    subst hq; have := hsb (.inr k5); have := hb2 (.inr k5); have := hsv (.inr k5); simp [quOk, quV, boxQ, reg]; omega
  rw [if_neg k5] at hq hM
  by_cases k6 : s.k = 6
  · rw [if_pos k6] at hq hM
    simp only [List.mem_singleton] at hq
    subst hq; simp [quOk, quV, boxQ, reg]
  rw [if_neg k6] at hq hM
  have hE := hE k5 k6
  by_cases k7 : s.k = 7
  · rw [if_pos k7] at hq hM
    simp only [List.mem_append, List.mem_singleton] at hq
    rcases hq with z | z
    · exact hE q z
    · subst z; simp [quOk, quV, boxQ, reg]
  rw [if_neg k7] at hq hM
  by_cases k3 : s.k = 3
  · rw [if_pos k3] at hq hM
    simp only [List.length_append, List.length_cons, List.length_nil] at hM
    simp only [List.mem_append, List.mem_cons, List.mem_singleton, List.not_mem_nil, or_false] at hq
    rcases hq with z | z | z | z
    · exact hE q z
    · subst z; simp [quOk, quV, boxQ, reg]; omega
    · exact h1 (by omega) q z
    · subst z; simp [quOk, quV, boxQ, reg]; omega
  rw [if_neg k3] at hq hM
  by_cases hz0 : s.els.list.length = 0
  · rw [if_pos hz0] at hq hM
    simp only [List.length_append, List.length_cons, List.length_nil] at hM
    simp only [List.mem_append, List.mem_cons] at hq
    rcases hq with z | z | z
    · exact hE q z
    · subst z; simp [quOk, quV, boxQ, reg]; omega
    · exact h1 (by omega) q z
  · rw [if_neg hz0] at hq hM
    simp only [List.length_append, List.length_cons, List.length_nil] at hM
    simp only [List.mem_append, List.mem_cons] at hq
    rcases hq with z | z | z | z | z
    · exact hE q z
    · subst z; simp [quOk, quV, boxQ, reg]; omega
    · exact h1 (by omega) q z
    · subst z; simp [quOk, quV, boxQ, reg]; omega
    · exact h2 (by omega) q z
theorem cS_ok {M : Nat} {many : Int} : ∀ {f : Sts} {n : Int}, okS 3 n f = true → bxS many f = true → ∀ base, base + (cS f base).length < M → ∀ q ∈ cS f base, quOk M many q = true
  | .nil, _, _, _, _, _, q, hq => by simp [cS] at hq
  | .cons k v b e y z r, n, h, hb, base, hM, q, hq => by
    simp only [okS, Bool.and_eq_true] at h
    obtain ⟨h1, h2⟩ := h
    have hT : okT 3 n ⟨k, v, b, e, y, z⟩ = true := h1
    simp only [bxS, Bool.and_eq_true, decide_eq_true_eq] at hb
    have hB : bxT many ⟨k, v, b, e, y, z⟩ = true := by unfold bxT; simp only [Bool.and_eq_true, decide_eq_true_eq]; exact hb.1
    have e1 : cS (.cons k v b e y z r) base = cT ⟨k, v, b, e, y, z⟩ base ++ cS r (base + (cT ⟨k, v, b, e, y, z⟩ base).length) := rfl
    rw [e1] at hM hq
    simp only [List.length_append] at hM
    obtain ⟨hy, hz⟩ := okT_yz hT
    rcases List.mem_append.1 hq with c | c
    · refine cT_ok hT hB base (by omega) (fun b' hb' q' hq' => ?_) (fun b' hb' q' hq' => ?_) q c
      · rcases hy with u | u
        · rw [cS_nil u] at hq'; simp at hq'
        · exact cS_ok u hb.1.2.1 b' hb' q' hq'
      · rcases hz with u | u
        · rw [cS_nil u] at hq'; simp at hq'
        · exact cS_ok u hb.1.2.2 b' hb' q' hq'
    · exact cS_ok h2 hb.2 _ (by omega) q c
theorem vaF_facts {many : Int} {f : Sts} (h : vaF many f = true) : okS 3 3 f = true ∧ ctS f ≤ 16 ∧ bxS many f = true := by
  unfold vaF vaS at h
  simp only [Bool.and_eq_true, decide_eq_true_eq] at h
  exact ⟨h.1.1, h.1.2, h.2⟩
theorem compT_va {many : Int} {f : Sts} (h : vaF many f = true) : (compT f).length ≤ 560 ∧ codeV (compT f) = true ∧ (compT f).all (boxQ many) = true := by
  obtain ⟨h1, h2, h3⟩ := vaF_facts h
  have hl := cS_len h1 0
  have hle : (compT f).length = (cS f 0).length + 1 := by simp [compT]
  have hall : ∀ q ∈ compT f, quOk (compT f).length many q = true := fun q hq => by
    unfold compT at hq
    rcases List.mem_append.1 hq with c | c
    · exact cS_ok h1 h3 0 (by omega) q c
    · simp at c; subst c; simp [quOk, quV, boxQ]
  refine ⟨by omega, ?_, List.all_eq_true.2 fun q hq => ?_⟩
  · unfold codeV
    simp only [Bool.and_eq_true, decide_eq_true_eq, List.all_eq_true]
    refine ⟨⟨by omega, fun q hq => ?_⟩, ?_⟩
    · have := hall q hq; unfold quOk at this; simp only [Bool.and_eq_true] at this; exact this.1
    · unfold lastOp compT; simp
  · have := hall q hq; unfold quOk at this; simp only [Bool.and_eq_true] at this; exact this.2
theorem newK_va {p : Pg} (h : vaPg p = true) : vaCw (newK p.rooms (p.tasks.map compT)) = true := by
  obtain ⟨hw, _, _⟩ := newW_bo h
  obtain ⟨w1, w2, w3, w4⟩ := vaWd_iff.1 hw
  unfold vaPg at h
  simp only [Bool.and_eq_true, decide_eq_true_eq, List.all_eq_true] at h
  refine vaCw_iff.2 ⟨by simp [newK]; omega, rfl, by simp [newK], w3, fun i l t hl ht => ?_⟩
  simp only [newK] at hl ht ⊢
  have hbl : (p.rooms.map fun x => (⟨x, []⟩ : Bx)).length = p.rooms.length := by simp
  rw [hbl]
  rw [List.getElem?_map] at hl
  obtain ⟨f, hf, rfl⟩ := Option.map_eq_some_iff.1 hl
  obtain ⟨c1, c2, c3⟩ := compT_va (h.2 f (List.mem_of_getElem? hf))
  have et : t = ⟨z12, 0⟩ := by
    rw [List.getElem?_map] at ht
    obtain ⟨_, _, rfl⟩ := Option.map_eq_some_iff.1 ht
    rfl
  subst et
  exact vaTh_iff.2 ⟨c2, thFit_iff.2 ⟨rfl, rfl, by simp, by have := (codeV_facts c2).1; simp; omega⟩, c3⟩
end Go.Proofs.YtmecbehegmgbhaaGreat.AM
namespace Go.Proofs.YtmecbehegmgbhaaGreat.AM
set_option linter.unusedSimpArgs false
set_option linter.unusedVariables false
set_option maxRecDepth 100000
set_option maxHeartbeats 2000000
open Go
attribute [-simp] AM.elems
def Sg (l : List Qd) (pc : Nat) (c : List Qd) : Prop := ∀ (i : Nat) (q : Qd), c[i]? = some q → l[pc + i]? = some q
theorem Sg.app {l pc a b} (h : Sg l pc (a ++ b)) : Sg l pc a ∧ Sg l (pc + a.length) b :=
  ⟨fun i q hq => h i q (by rw [List.getElem?_append_left (List.getElem?_eq_some_iff.1 hq).1]; exact hq),
   fun i q hq => by
    have := h (a.length + i) q (by rw [List.getElem?_append_right (by omega)]; rwa [show a.length + i - a.length = i by omega])
    rwa [← Nat.add_assoc] at this⟩
theorem Sg.cons {l pc q c} (h : Sg l pc (q :: c)) : l[pc]? = some q ∧ Sg l (pc + 1) c := by
  have h1 := Sg.app (a := [q]) (b := c) (by simpa using h)
  exact ⟨h 0 q rfl, by simpa using h1.2⟩
inductive Sil (l : List Qd) : Nat → Th → Th → Prop
  | refl {t} : Sil l 0 t t
  | step {k q t t1 t2} : l[t.pc.toNat]? = some q → (∀ bs, stepQ q t bs = (t1, bs, [], 1)) → Sil l k t1 t2 → Sil l (k + 1) t t2
theorem Sil.trans {l k t t1} (h : Sil l k t t1) : ∀ {j t2}, Sil l j t1 t2 → Sil l (k + j) t t2 := by
  induction h with
  | refl => intro j t2 h2; rw [Nat.zero_add]; exact h2
  | step a b c ih => intro j t2 h2; rw [show ∀ k, k + 1 + j = (k + j) + 1 by omega]; exact .step a b (ih h2)
theorem Sil.one {l q t t1} (h : l[t.pc.toNat]? = some q) (k : ∀ bs, stepQ q t bs = (t1, bs, [], 1)) : Sil l 1 t t1 := .step h k .refl
theorem set_get_lt {l : List Int} {i r : Nat} {x : Int} (h : r ≠ i) : (l.set i x)[r]? = l[r]? := List.getElem?_set_ne (Ne.symm h)
theorem evalS {l : List Qd} (a : Exs) : ∀ {at_ op n d : Int} {pc : Nat} {t : Th} {vars : List Int}, okE1 d op n a.list.length (okF (d - 1) a) = true → 4 ≤ at_ → at_ + d ≤ 12 → Sg l pc (cE1 at_ op n (compF a at_)) → t.pc = pc → t.regs.length = 12 → t.regs.take 4 = vars →
    ∃ t', Sil l (cE1 at_ op n (compF a at_)).length t t' ∧ t'.pc = (pc + (cE1 at_ op n (compF a at_)).length : Nat) ∧ t'.regs.length = 12 ∧ (∀ r : Nat, (r : Int) < at_ → t'.regs[r]? = t.regs[r]?) ∧ t'.regs[at_.toNat]? = some (evE1 vars op n (evF vars a)) := by
  induction a using Exs.ind with
  | h a ih =>
  intro at_ op n d pc t vars hok h4 h12 hs hpc hl hv
  have hd : 0 < d := by
    unfold okE1 at hok
    by_cases h0 : op = 0
    · rw [if_pos h0] at hok; simp only [decide_eq_true_eq] at hok; omega
    by_cases h13 : op = 13
    · rw [if_neg h0, if_pos h13] at hok; simp only [decide_eq_true_eq] at hok; omega
    rw [if_neg h0, if_neg h13] at hok
    simp only [Bool.and_eq_true, decide_eq_true_eq] at hok
    omega
  have hpt : t.pc.toNat = pc := by omega
  by_cases h0 : op = 0
  · have e : cE1 at_ op n (compF a at_) = [⟨1, at_, 0, 0, n⟩] := by unfold cE1; rw [if_pos h0]
    rw [e] at hs ⊢
    refine ⟨⟨t.regs.set at_.toNat n, t.pc + 1⟩, Sil.one (by rw [hpt]; exact hs.cons.1) (fun bs => by unfold stepQ; rw [if_pos rfl]), by simp [hpc], by simpa using hl, fun r hr => set_get_lt (by omega), ?_⟩
    simp only
    rw [List.getElem?_set_self (by omega)]
    unfold evE1; rw [if_pos h0]
  by_cases h13 : op = 13
  · have e : cE1 at_ op n (compF a at_) = [⟨2, at_, n, 0, 0⟩] := by unfold cE1; rw [if_neg h0, if_pos h13]
    rw [e] at hs ⊢
    have hn : 0 ≤ n ∧ n < 4 := by
      unfold okE1 at hok
      rw [if_neg h0, if_pos h13] at hok
      simp only [decide_eq_true_eq] at hok
      omega
    refine ⟨⟨t.regs.set at_.toNat (rg t n), t.pc + 1⟩, Sil.one (by rw [hpt]; exact hs.cons.1) (fun bs => by unfold stepQ; rw [if_neg (by simp), if_pos rfl]), by simp [hpc], by simpa using hl, fun r hr => set_get_lt (by omega), ?_⟩
    simp only
    rw [List.getElem?_set_self (by omega)]
    unfold evE1 rg
    rw [if_neg h0, if_pos h13, ← hv, List.getD_eq_getElem?_getD, List.getElem?_take_of_lt (by omega)]
  obtain ⟨c0, c1, c2, c3⟩ := okE1_op hok h0 h13
  have hd1 : 1 < d := by
    unfold okE1 at hok
    rw [if_neg h0, if_neg h13] at hok
    simp only [Bool.and_eq_true, decide_eq_true_eq] at hok
    exact hok.1.2.2.2.2
  obtain ⟨x, y, hxy⟩ := two_of c2
  rw [okF_mem, hxy] at c3
  simp at c3
  have e : cE1 at_ op n (compF a at_) = compE at_ x ++ compE (at_ + 1) y ++ [⟨3, at_, at_, at_ + 1, op⟩] := by unfold cE1; rw [if_neg h0, if_neg h13, compF_two hxy]
  rw [e] at hs ⊢
  obtain ⟨hs12, hs3⟩ := hs.app
  obtain ⟨hs1, hs2⟩ := hs12.app
  obtain ⟨t1, s1, p1, l1, r1, v1⟩ := ih x (by rw [hxy]; simp) (at_ := at_) (d := d - 1) (op := x.op) (n := x.n) c3.1 h4 (by omega) hs1 hpc hl hv
  have tk : ∀ {u u' : Th}, (∀ r : Nat, (r : Int) < at_ → u'.regs[r]? = u.regs[r]?) → u'.regs.take 4 = u.regs.take 4 := fun h => by
    apply List.ext_getElem?
    intro r
    by_cases hr : r < 4
    · rw [List.getElem?_take_of_lt hr, List.getElem?_take_of_lt hr]; exact h r (by omega)
    · rw [List.getElem?_eq_none (by simp; omega), List.getElem?_eq_none (by simp; omega)]
  obtain ⟨t2, s2, p2, l2, r2, v2⟩ := ih y (by rw [hxy]; simp) (at_ := at_ + 1) (d := d - 1) (op := y.op) (n := y.n) (vars := vars) c3.2 (by omega) (by omega) hs2 p1 l1 (by rw [tk r1, hv])
  have z1 : (cE1 at_ x.op x.n (compF x.args at_)) = compE at_ x := rfl
  have z2 : (cE1 (at_ + 1) y.op y.n (compF y.args (at_ + 1))) = compE (at_ + 1) y := rfl
  rw [z1] at s1 p1
  rw [z2] at s2 p2
  have v1' : t2.regs[at_.toNat]? = some (evE1 vars x.op x.n (evF vars x.args)) := by rw [r2 at_.toNat (by omega)]; exact v1
  have ga : rg t2 at_ = evE vars x := by unfold rg; rw [v1']; rfl
  have gb : rg t2 (at_ + 1) = evE vars y := by unfold rg; rw [v2]; rfl
  refine ⟨⟨t2.regs.set at_.toNat (applyM op (rg t2 at_) (rg t2 (at_ + 1))), t2.pc + 1⟩, ?_, ?_, by simpa using l2, fun r hr => ?_, ?_⟩
  · rw [List.length_append, List.length_append, List.length_singleton]
    refine (s1.trans s2).trans (Sil.one (q := ⟨3, at_, at_, at_ + 1, op⟩) ?_ (fun bs => ?_))
    · have := hs3.cons.1
      rw [List.length_append] at this
      rw [p2, Int.toNat_natCast, Nat.add_assoc]; exact this
    · unfold stepQ; rw [if_neg (by simp), if_neg (by simp), if_pos rfl]
  · simp only [p2, List.length_append, List.length_singleton]; omega
  · simp only
    rw [set_get_lt (by omega), r2 r (by omega), r1 r hr]
  · simp only
    rw [List.getElem?_set_self (by omega), ga, gb]
    unfold evE1
    rw [if_neg h0, if_neg h13, evF_map, hxy]
    rfl
inductive Pend (l : List Qd) : Nat → Nat → List St1 → Prop
  | done {pc} : l[pc]? = some ⟨10, 0, 0, 0, 0⟩ → Pend l 0 pc []
  | jump {lev pc t r} : l[pc]? = some ⟨4, 0, 0, 0, (t : Nat)⟩ → Pend l lev t r → Pend l (lev + 1) pc r
  | stmt {lev pc n s r} : Sg l pc (cT s pc) → okT 3 n s = true → 0 ≤ n → Pend l lev (pc + (cT s pc).length) r → (lev : Int) ≤ 3 - n → Pend l 0 pc (s :: r)
theorem Pend.list {l : List Qd} {n : Int} (hn : 0 ≤ n) {lev : Nat} {r : List St1} (hlev : (lev : Int) ≤ 3 - n) : ∀ (ys : List St1) (pc : Nat), (∀ s ∈ ys, okT 3 n s = true) → Sg l pc (cS (Sts.of ys) pc) → Pend l lev (pc + (cS (Sts.of ys) pc).length) r → ∃ lev', lev' ≤ lev ∧ Pend l lev' pc (ys ++ r)
  | [], pc, _, _, h => ⟨lev, Nat.le_refl _, by simpa [cS] using h⟩
  | s :: ys, pc, hok, hs, h => by
    rw [cS_of] at hs h
    obtain ⟨h1, h2⟩ := hs.app
    rw [List.length_append, ← Nat.add_assoc] at h
    obtain ⟨lev', hl, hp⟩ := Pend.list hn hlev ys (pc + (cT s pc).length) (fun x hx => hok x (List.mem_cons_of_mem _ hx)) h2 h
    exact ⟨0, by omega, .stmt h1 (hok s List.mem_cons_self) hn hp (by omega)⟩
theorem Pend.sil {l : List Qd} {lev pc r} (h : Pend l lev pc r) : ∀ {t : Th}, t.pc = (pc : Nat) → ∃ pc', Sil l lev t ⟨t.regs, (pc' : Nat)⟩ ∧ Pend l 0 pc' r := by
  induction h with
  | done h => intro t ht; exact ⟨_, by rw [← ht]; exact .refl, .done h⟩
  | stmt a b c d e ih => intro t ht; exact ⟨_, by rw [← ht]; exact .refl, .stmt a b c d e⟩
  | @jump lev pc u r a b ih =>
    intro t ht
    obtain ⟨pc', s, p⟩ := ih (t := ⟨t.regs, (u : Nat)⟩) rfl
    exact ⟨pc', .step (by rw [ht, Int.toNat_natCast]; exact a) (fun bs => by unfold stepQ; rw [if_neg (by simp), if_neg (by simp), if_neg (by simp), if_pos rfl]) s, p⟩
end Go.Proofs.YtmecbehegmgbhaaGreat.AM
namespace Go.Proofs.YtmecbehegmgbhaaGreat.AM
set_option linter.unusedSimpArgs false
set_option linter.unusedVariables false
set_option maxRecDepth 100000
set_option maxHeartbeats 2000000
open Go
attribute [-simp] AM.elems
def RelT (l : List Qd) (t : Tk) (th : Th) : Prop :=
  th.regs.length = 12 ∧ th.regs.take 4 = t.vars ∧ ∃ pc : Nat, th.pc = pc ∧
    ((∃ lev, lev ≤ 3 ∧ Pend l lev pc t.rest.list) ∨ ∃ s r lev, t.rest.list = s :: r ∧ s.k = 4 ∧ l[pc]? = some ⟨6, 0, 4, 0, s.b⟩ ∧ rg th 4 = evE t.vars s.e ∧ lev ≤ 3 ∧ Pend l lev (pc + 1) r)
theorem take_set4 {l : List Int} {i : Nat} {x : Int} (hi : i < 4) : (l.set i x).take 4 = (l.take 4).set i x := by
  apply List.ext_getElem?
  intro j
  by_cases hj : j < 4
  · rw [List.getElem?_take_of_lt hj]
    by_cases hij : j = i
    · subst hij
      by_cases hl : j < l.length
      · rw [List.getElem?_set_self hl, List.getElem?_set_self (by simp; omega)]
      · rw [List.getElem?_eq_none (by simp; omega), List.getElem?_eq_none (by simp; omega)]
    · rw [List.getElem?_set_ne (Ne.symm hij), List.getElem?_set_ne (Ne.symm hij), List.getElem?_take_of_lt hj]
  · rw [List.getElem?_eq_none (by simp; omega), List.getElem?_eq_none (by simp; omega)]
theorem evalT {l : List Qd} {e : Ex} {pc : Nat} {t : Th} (hok : okE 5 e = true) (hs : Sg l pc (compE 4 e)) (hpc : t.pc = pc) (hl : t.regs.length = 12) :
    ∃ t', Sil l (compE 4 e).length t t' ∧ t'.pc = (pc + (compE 4 e).length : Nat) ∧ t'.regs.length = 12 ∧ t'.regs.take 4 = t.regs.take 4 ∧ rg t' 4 = evE (t.regs.take 4) e := by
  obtain ⟨t', a1, a2, a3, a4, a5⟩ := evalS e.args (at_ := 4) (d := 5) (op := e.op) (n := e.n) (vars := t.regs.take 4) hok (by omega) (by omega) hs hpc hl rfl
  refine ⟨t', a1, a2, a3, ?_, ?_⟩
  · apply List.ext_getElem?
    intro r
    by_cases hr : r < 4
    · rw [List.getElem?_take_of_lt hr, List.getElem?_take_of_lt hr]; exact a4 r (by omega)
    · rw [List.getElem?_eq_none (by simp; omega), List.getElem?_eq_none (by simp; omega)]
  · unfold rg; rw [a5]; rfl
def Sim1 (l : List Qd) (t : Tk) (th : Th) (bs : List Bx) (K : Nat) : Prop :=
  ∃ k q th1 th2, Sil l k th th1 ∧ k ≤ K ∧ l[th1.pc.toNat]? = some q ∧ stepQ q th1 bs = (th2, (stepP t bs).2.1, (stepP t bs).2.2.1, (stepP t bs).2.2.2) ∧ RelT l (stepP t bs).1 th2 ∧ ((stepP t bs).2.2.2 = 3 ∨ (stepP t bs).2.2.2 = 4 → th2 = th1)
theorem send_sim {l : List Qd} {t : Tk} {th : Th} {bs : List Bx} {s : St1} {r : List St1} {pc lev : Nat} (hl : th.regs.length = 12) (hv : th.regs.take 4 = t.vars) (hr : t.rest.list = s :: r) (k4 : s.k = 4) (hpc : th.pc = pc) (hq : l[pc]? = some ⟨6, 0, 4, 0, s.b⟩) (he : rg th 4 = evE t.vars s.e) (hlev : lev ≤ 3) (hp : Pend l lev (pc + 1) r) :
    ∃ th2, stepQ ⟨6, 0, 4, 0, s.b⟩ th bs = (th2, (stepP t bs).2.1, (stepP t bs).2.2.1, (stepP t bs).2.2.2) ∧ RelT l (stepP t bs).1 th2 ∧ ((stepP t bs).2.2.2 = 3 ∨ (stepP t bs).2.2.2 = 4 → th2 = th) := by
  have e : stepP t bs = ((talkP t bs s r).1, (talkP t bs s r).2.1, [], (talkP t bs s r).2.2) := by unfold stepP; rw [hr]; simp [k4]
  have mid : RelT l t th := ⟨hl, hv, pc, hpc, .inr ⟨s, r, lev, hr, k4, hq, he, hlev, hp⟩⟩
  have e2 : stepQ ⟨6, 0, 4, 0, s.b⟩ th bs = match bs[s.b.toNat]? with
    | none => (th, bs, [], 3)
    | some bx => if (bx.items.length : Int) < bx.room then (⟨th.regs, th.pc + 1⟩, bs.set s.b.toNat ⟨bx.room, bx.items ++ [rg th 4]⟩, [], 1) else (th, bs, [], 3) := by
    unfold stepQ
    rw [if_neg (by simp), if_neg (by simp), if_neg (by simp), if_neg (by simp), if_neg (by simp), if_pos rfl]
    all_goals (cases bs[s.b.toNat]? <;> rfl)
  rw [e, e2]
  unfold talkP
  cases hb : bs[s.b.toNat]? with
  | none => exact ⟨th, rfl, mid, fun _ => rfl⟩
  | some bx =>
    simp only [if_pos k4]
    by_cases hroom : (bx.items.length : Int) < bx.room
    · rw [if_pos hroom, if_pos hroom]
      exact ⟨⟨th.regs, th.pc + 1⟩, by rw [he], ⟨hl, hv, pc + 1, by simp only [hpc]; omega, .inl ⟨lev, hlev, by rw [Sts.list_of]; exact hp⟩⟩, fun h => by simp at h⟩
    · rw [if_neg hroom, if_neg hroom]
      exact ⟨th, rfl, mid, fun _ => rfl⟩
theorem stmt_sim {l : List Qd} {t : Tk} {th : Th} {bs : List Bx} {s : St1} {r : List St1} {pc lev : Nat} {n : Int} (hl : th.regs.length = 12) (hv : th.regs.take 4 = t.vars) (hr : t.rest.list = s :: r) (hpc : th.pc = pc)
    (hs : Sg l pc (cT s pc)) (hok : okT 3 n s = true) (hn : 0 ≤ n) (hp : Pend l lev (pc + (cT s pc).length) r) (hlev : (lev : Int) ≤ 3 - n) : Sim1 l t th bs 31 := by
  obtain ⟨hk, hoe, hsv, hsb, _⟩ := okT_facts hok
  have hlev3 : lev ≤ 3 := by omega
  have hself : Sg l pc (cT s pc) := hs
  obtain ⟨hyy, hzz⟩ := okT_yz hok
  by_cases k5 : s.k = 5
  · have ec : cT s pc = [⟨7, s.v, 0, 0, s.b⟩] := by unfold cT stC; rw [if_neg (by omega), if_neg (by omega), if_pos k5]
    rw [ec] at hs hp
    have e : stepP t bs = ((talkP t bs s r).1, (talkP t bs s r).2.1, [], (talkP t bs s r).2.2) := by unfold stepP; rw [hr]; simp [k5]
    have self : RelT l t th := ⟨hl, hv, pc, hpc, .inl ⟨0, by omega, by rw [hr]; exact .stmt hself hok hn (by rw [ec]; exact hp) hlev⟩⟩
    refine ⟨0, ⟨7, s.v, 0, 0, s.b⟩, th, ?_⟩
    have hq := hs.cons.1
    have e2 : stepQ ⟨7, s.v, 0, 0, s.b⟩ th bs = match bs[s.b.toNat]? with
      | none => (th, bs, [], 3)
      | some bx =>
        match bx.items with
        | [] => (th, bs, [], 3)
        | y :: r => (⟨th.regs.set s.v.toNat y, th.pc + 1⟩, bs.set s.b.toNat ⟨bx.room, r⟩, [], 1) := by
      unfold stepQ
      rw [if_neg (by simp), if_neg (by simp), if_neg (by simp), if_neg (by simp), if_neg (by simp), if_neg (by simp), if_pos rfl]
      all_goals (rcases bs[s.b.toNat]? with _ | ⟨_, _ | _⟩ <;> rfl)
    have hq' : l[th.pc.toNat]? = some ⟨7, s.v, 0, 0, s.b⟩ := by rw [hpc, Int.toNat_natCast]; exact hq
    have hsv := hsv (.inr k5)
    rw [e]
    unfold talkP
    cases hb : bs[s.b.toNat]? with
    | none => exact ⟨th, .refl, by omega, hq', by rw [e2, hb], self, fun _ => rfl⟩
    | some bx =>
      simp only [if_neg (show ¬ s.k = 4 by omega)]
      cases hi : bx.items with
      | nil => exact ⟨th, .refl, by omega, hq', by rw [e2, hb]; simp only [hi], self, fun _ => rfl⟩
      | cons y qq =>
        refine ⟨⟨th.regs.set s.v.toNat y, th.pc + 1⟩, .refl, by omega, hq', by rw [e2, hb]; simp only [hi], ⟨by simpa using hl, by simp only; rw [take_set4 (by omega), hv], pc + 1, by simp only [hpc]; omega, .inl ⟨lev, hlev3, by rw [Sts.list_of]; exact hp⟩⟩, fun h => by simp at h⟩
  by_cases k6 : s.k = 6
  · have ec : cT s pc = [⟨8, 0, 0, 0, 0⟩] := by unfold cT stC; rw [if_neg (by omega), if_neg (by omega), if_neg (by omega), if_pos k6]
    rw [ec] at hs hp
    have e : stepP t bs = (⟨t.vars, Sts.of r⟩, bs, [], 2) := by unfold stepP; rw [hr]; simp [k6]
    rw [show Sim1 l t th bs 31 = _ from rfl]
    unfold Sim1
    rw [e]
    refine ⟨0, ⟨8, 0, 0, 0, 0⟩, th, ⟨th.regs, th.pc + 1⟩, .refl, by omega, by rw [hpc, Int.toNat_natCast]; exact hs.cons.1, by unfold stepQ; rw [if_neg (by simp), if_neg (by simp), if_neg (by simp), if_neg (by simp), if_neg (by simp), if_neg (by simp), if_neg (by simp), if_pos rfl], ⟨hl, hv, pc + 1, by simp only [hpc]; omega, .inl ⟨lev, hlev3, by rw [Sts.list_of]; exact hp⟩⟩, fun h => by simp at h⟩
  have hE := hoe k5 k6
  have hEl := compE_len hE 4
  have fin : ∀ (C : List Qd) (q : Qd) (e' : cT s pc = compE 4 s.e ++ q :: C), ∃ t1, Sil l (compE 4 s.e).length th t1 ∧ t1.pc = (pc + (compE 4 s.e).length : Nat) ∧ t1.regs.length = 12 ∧ t1.regs.take 4 = t.vars ∧ rg t1 4 = evE t.vars s.e ∧ l[t1.pc.toNat]? = some q ∧ Sg l (pc + (compE 4 s.e).length + 1) C := fun C q e' => by
    rw [e'] at hs
    obtain ⟨h1, h2⟩ := hs.app
    obtain ⟨h3, h4⟩ := h2.cons
    obtain ⟨t1, a1, a2, a3, a4, a5⟩ := evalT hE h1 hpc hl
    exact ⟨t1, a1, a2, a3, by rw [a4, hv], by rw [a5, hv], by rw [a2, Int.toNat_natCast]; exact h3, h4⟩
  by_cases k4 : s.k = 4
  · have ec : cT s pc = compE 4 s.e ++ [⟨6, 0, 4, 0, s.b⟩] := by unfold cT stC; rw [if_neg (by omega), if_pos k4]
    obtain ⟨t1, a1, a2, a3, a4, a5, a6, _⟩ := fin [] _ ec
    rw [ec] at hp
    simp only [List.length_append, List.length_singleton] at hp
    rw [← Nat.add_assoc] at hp
    rw [a2, Int.toNat_natCast] at a6
    obtain ⟨th2, b1, b2, b3⟩ := send_sim (bs := bs) a3 a4 hr k4 a2 a6 a5 hlev3 hp
    exact ⟨_, _, t1, th2, a1, by omega, by rw [a2, Int.toNat_natCast]; exact a6, b1, b2, b3⟩
  by_cases k1 : s.k = 1
  · have ec : cT s pc = compE 4 s.e ++ [⟨2, s.v, 4, 0, 0⟩] := by unfold cT stC; rw [if_pos k1]
    obtain ⟨t1, a1, a2, a3, a4, a5, a6, _⟩ := fin [] _ ec
    rw [ec] at hp
    simp only [List.length_append, List.length_singleton] at hp
    have e : stepP t bs = (⟨t.vars.set s.v.toNat (evE t.vars s.e), Sts.of r⟩, bs, [], 1) := by unfold stepP; rw [hr]; simp [k1]
    have hsv := hsv (.inl k1)
    unfold Sim1
    rw [e]
    refine ⟨_, _, t1, ⟨t1.regs.set s.v.toNat (rg t1 4), t1.pc + 1⟩, a1, by omega, a6, by unfold stepQ; rw [if_neg (by simp), if_pos rfl], ⟨by simpa using a3, by simp only; rw [take_set4 (by omega), a4, a5], pc + ((compE 4 s.e).length + 1), by simp only [a2]; omega, .inl ⟨lev, hlev3, by rw [Sts.list_of]; exact hp⟩⟩, fun h => by simp at h⟩
  by_cases k7 : s.k = 7
  · have ec : cT s pc = compE 4 s.e ++ [⟨9, 0, 4, 0, 0⟩] := by unfold cT stC; rw [if_neg k1, if_neg k4, if_neg k5, if_neg k6, if_pos k7]
    obtain ⟨t1, a1, a2, a3, a4, a5, a6, _⟩ := fin [] _ ec
    rw [ec] at hp
    simp only [List.length_append, List.length_singleton] at hp
    have e : stepP t bs = (⟨t.vars, Sts.of r⟩, bs, [evE t.vars s.e], 1) := by unfold stepP; rw [hr]; simp [k7]
    unfold Sim1
    rw [e]
    refine ⟨_, _, t1, ⟨t1.regs, t1.pc + 1⟩, a1, by omega, a6, by unfold stepQ; rw [if_neg (by simp), if_neg (by simp), if_neg (by simp), if_neg (by simp), if_neg (by simp), if_neg (by simp), if_neg (by simp), if_neg (by simp), if_pos rfl, a5], ⟨a3, a4, pc + ((compE 4 s.e).length + 1), by simp only [a2]; omega, .inl ⟨lev, hlev3, by rw [Sts.list_of]; exact hp⟩⟩, fun h => by simp at h⟩
  have k23 : s.k = 2 ∨ s.k = 3 := by omega
  have e : stepP t bs = (⟨t.vars, blkR s r (evE t.vars s.e)⟩, bs, [], 1) := by unfold stepP; rw [hr]; simp only; rw [if_neg (by omega), if_pos k23]
  have hn1 : 1 ≤ n := by
    unfold okT okS1 at hok
    simp only [Bool.and_eq_true, Bool.or_eq_true, decide_eq_true_eq] at hok
    rcases hok.2 with q | q
    · omega
    · exact q.1.1
  have okl : ∀ {f : Sts}, (f.list.length = 0 ∨ okS 3 (n - 1) f = true) → ∀ x ∈ f.list, okT 3 (n - 1) x = true := fun h x hx => by
    rcases h with u | u
    · rw [List.eq_nil_of_length_eq_zero u] at hx; simp at hx
    · rw [okS_mem] at u; exact List.all_eq_true.1 u x hx
  have sq : ∀ (N : Int) (u : Th), stepQ ⟨5, 0, 4, 0, N⟩ u bs = (⟨u.regs, if rg u 4 = 0 then N else u.pc + 1⟩, bs, [], 1) := fun N u => by
    unfold stepQ; rw [if_neg (by simp), if_neg (by simp), if_neg (by simp), if_neg (by simp), if_pos rfl]
  unfold Sim1
  rw [e]
  obtain ⟨Y, hY⟩ : ∃ Y, Y = cS s.body (pc + (compE 4 s.e).length + 1) := ⟨_, rfl⟩
  obtain ⟨Z, hZ⟩ : ∃ Z, Z = cS s.els (pc + (compE 4 s.e).length + 1 + Y.length + 1) := ⟨_, rfl⟩
  have hYl : cS (Sts.of s.body.list) (pc + (compE 4 s.e).length + 1) = Y := by rw [Sts.of_list]; exact hY.symm
  have hZl : cS (Sts.of s.els.list) (pc + (compE 4 s.e).length + 1 + Y.length + 1) = Z := by rw [Sts.of_list]; exact hZ.symm
  by_cases k3 : s.k = 3
  · have ec : cT s pc = compE 4 s.e ++ ⟨5, 0, 4, 0, (pc + (compE 4 s.e).length + 1 + Y.length + 1 : Nat)⟩ :: (Y ++ [⟨4, 0, 0, 0, pc⟩]) := by
      unfold cT; rw [← hY]; unfold stC; rw [if_neg k1, if_neg k4, if_neg k5, if_neg k6, if_neg k7, if_pos k3]
    obtain ⟨t1, a1, a2, a3, a4, a5, a6, a7⟩ := fin _ _ ec
    obtain ⟨h1, h2⟩ := a7.app
    have hp0 := hp
    rw [ec] at hp
    simp only [List.length_append, List.length_cons, List.length_nil] at hp
    refine ⟨_, _, t1, _, a1, by omega, a6, sq _ _, ⟨a3, a4, ?_⟩, fun h => by simp at h⟩
    rw [a5]
    have eb : blkR s r (evE t.vars s.e) = if evE t.vars s.e ≠ 0 then Sts.of (s.body.list ++ (s :: r)) else Sts.of r := by unfold blkR; rw [if_neg (by omega)]
    rw [eb]
    by_cases hx : evE t.vars s.e = 0
    · simp only [hx, if_true]
      refine ⟨_, rfl, .inl ⟨lev, hlev3, ?_⟩⟩
      rw [if_neg (by simp), Sts.list_of]
      rw [show pc + (compE 4 s.e).length + 1 + Y.length + 1 = pc + ((compE 4 s.e).length + (Y.length + (0 + 1) + 1)) by omega]
      exact hp
    · simp only [hx, if_false]
      refine ⟨pc + (compE 4 s.e).length + 1, by rw [a2]; omega, .inl ?_⟩
      rw [if_pos hx, Sts.list_of]
      have back : Pend l 1 (pc + (compE 4 s.e).length + 1 + (cS (Sts.of s.body.list) (pc + (compE 4 s.e).length + 1)).length) (s :: r) := by
        rw [hYl]
        exact .jump (t := pc) h2.cons.1 (.stmt hself hok hn hp0 hlev)
      obtain ⟨lev', u1, u2⟩ := Pend.list (n := n - 1) (by omega) (lev := 1) (by omega) s.body.list _ (okl hyy) (by rw [hYl]; exact h1) back
      exact ⟨lev', by omega, u2⟩
  have k2 : s.k = 2 := by omega
  have eb : blkR s r (evE t.vars s.e) = Sts.of ((if evE t.vars s.e ≠ 0 then s.body else s.els).list ++ r) := by unfold blkR; rw [if_pos k2]
  by_cases hz : s.els.list.length = 0
  · have ec : cT s pc = compE 4 s.e ++ ⟨5, 0, 4, 0, (pc + (compE 4 s.e).length + 1 + Y.length : Nat)⟩ :: Y := by
      unfold cT; rw [← hY]; unfold stC; rw [if_neg k1, if_neg k4, if_neg k5, if_neg k6, if_neg k7, if_neg k3, if_pos hz]
    obtain ⟨t1, a1, a2, a3, a4, a5, a6, a7⟩ := fin _ _ ec
    rw [ec] at hp
    simp only [List.length_append, List.length_cons, List.length_nil] at hp
    rw [show pc + ((compE 4 s.e).length + (Y.length + 1)) = pc + (compE 4 s.e).length + 1 + Y.length by omega] at hp
    refine ⟨_, _, t1, _, a1, by omega, a6, sq _ _, ⟨a3, a4, ?_⟩, fun h => by simp at h⟩
    rw [a5, eb]
    by_cases hx : evE t.vars s.e = 0
    · simp only [hx, if_true]
      refine ⟨_, rfl, .inl ⟨lev, hlev3, ?_⟩⟩
      rw [Sts.list_of]
      have : (if (0 : Int) ≠ 0 then s.body else s.els).list = [] := by rw [if_neg (by simp)]; exact List.eq_nil_of_length_eq_zero hz
      rw [this, List.nil_append]
      exact hp
    · simp only [hx, if_false]
      refine ⟨pc + (compE 4 s.e).length + 1, by rw [a2]; omega, .inl ?_⟩
      rw [Sts.list_of, if_pos hx]
      obtain ⟨lev', u1, u2⟩ := Pend.list (n := n - 1) (by omega) (lev := lev) (by omega) s.body.list _ (okl hyy) (by rw [hYl]; exact a7) (by rw [hYl]; exact hp)
      exact ⟨lev', by omega, u2⟩
  · have ec : cT s pc = compE 4 s.e ++ ⟨5, 0, 4, 0, (pc + (compE 4 s.e).length + 1 + Y.length + 1 : Nat)⟩ :: (Y ++ ⟨4, 0, 0, 0, (pc + (compE 4 s.e).length + 1 + Y.length + 1 + Z.length : Nat)⟩ :: Z) := by
      unfold cT; rw [← hY, ← hZ]; unfold stC; rw [if_neg k1, if_neg k4, if_neg k5, if_neg k6, if_neg k7, if_neg k3, if_neg hz]
    obtain ⟨t1, a1, a2, a3, a4, a5, a6, a7⟩ := fin _ _ ec
    obtain ⟨h1, h2⟩ := a7.app
    obtain ⟨h3, h4⟩ := h2.cons
    rw [ec] at hp
    simp only [List.length_append, List.length_cons, List.length_nil] at hp
    rw [show pc + ((compE 4 s.e).length + (Y.length + (Z.length + 1) + 1)) = pc + (compE 4 s.e).length + 1 + Y.length + 1 + Z.length by omega] at hp
    refine ⟨_, _, t1, _, a1, by omega, a6, sq _ _, ⟨a3, a4, ?_⟩, fun h => by simp at h⟩
    rw [a5, eb]
    by_cases hx : evE t.vars s.e = 0
    · simp only [hx, if_true]
      refine ⟨_, rfl, .inl ?_⟩
      rw [Sts.list_of, if_neg (by simp)]
      obtain ⟨lev', u1, u2⟩ := Pend.list (n := n - 1) (by omega) (lev := lev) (by omega) s.els.list _ (okl hzz) (by rw [hZl]; exact h4) (by rw [hZl]; exact hp)
      exact ⟨lev', by omega, u2⟩
    · simp only [hx, if_false]
      refine ⟨pc + (compE 4 s.e).length + 1, by rw [a2]; omega, .inl ?_⟩
      rw [Sts.list_of, if_pos hx]
      obtain ⟨lev', u1, u2⟩ := Pend.list (n := n - 1) (by omega) (lev := lev + 1) (by omega) s.body.list _ (okl hyy) (by rw [hYl]; exact h1) (by rw [hYl]; exact .jump h3 hp)
      exact ⟨lev', by omega, u2⟩
theorem RelT.sim {l : List Qd} {t : Tk} {th : Th} {bs : List Bx} (h : RelT l t th) : Sim1 l t th bs 35 := by
  obtain ⟨hl, hv, pc, hpc, ⟨lev, hlev, hp⟩ | ⟨s, r, lev, hr, k4, hq, he, hlev, hp⟩⟩ := h
  · obtain ⟨pc', s1, p1⟩ := hp.sil hpc
    have lift : ∀ {K : Nat}, Sim1 l t ⟨th.regs, (pc' : Nat)⟩ bs K → Sim1 l t th bs (K + 3) := fun ⟨k, q, th1, th2, b1, b2, b3⟩ => ⟨lev + k, q, th1, th2, s1.trans b1, by omega, b3⟩
    generalize hR : t.rest.list = R at p1
    cases p1 with
    | done hd =>
      have e : stepP t bs = (t, bs, [], 4) := by unfold stepP; rw [hR]
      have : Sim1 l t ⟨th.regs, (pc' : Nat)⟩ bs 32 := by
        unfold Sim1
        rw [e]
        exact ⟨0, ⟨10, 0, 0, 0, 0⟩, ⟨th.regs, (pc' : Nat)⟩, ⟨th.regs, (pc' : Nat)⟩, .refl, by omega, by simp only [Int.toNat_natCast]; exact hd, by unfold stepQ; simp, ⟨hl, hv, pc', rfl, .inl ⟨0, by omega, by rw [hR]; exact .done hd⟩⟩, fun _ => rfl⟩
      exact lift this
    | stmt a b c d e =>
      have := lift (stmt_sim (bs := bs) hl hv hR rfl a b c d e)
      obtain ⟨k, q, th1, th2, b1, b2, b3⟩ := this
      exact ⟨k, q, th1, th2, b1, by omega, b3⟩
  · obtain ⟨th2, b1, b2, b3⟩ := send_sim (bs := bs) hl hv hr k4 hpc hq he hlev hp
    exact ⟨0, _, th, th2, .refl, by omega, by rw [hpc, Int.toNat_natCast]; exact hq, b1, b2, b3⟩
end Go.Proofs.YtmecbehegmgbhaaGreat.AM
namespace Go.Proofs.YtmecbehegmgbhaaGreat.AM
set_option linter.unusedSimpArgs false
set_option linter.unusedVariables false
set_option maxRecDepth 100000
set_option maxHeartbeats 2000000
open Go
attribute [-simp] AM.elems
theorem runC_succ {n : Nat} {c : Cw} (h : c.idle < c.threads.length) : runC (n + 1) c = runC n (stepC c) := by
  conv => lhs; unfold runC
  rw [if_pos h]
theorem runC_rest {n : Nat} {c : Cw} (h : ¬ c.idle < c.threads.length) : runC n c = c := by
  cases n with
  | zero => rfl
  | succ n => unfold runC; rw [if_neg h]
theorem runC_add (a b : Nat) : ∀ c : Cw, runC b (runC a c) = runC (a + b) c := by
  induction a with
  | zero => intro c; rw [Nat.zero_add]; rfl
  | succ a ih =>
    intro c
    rw [show a + 1 + b = (a + b) + 1 by omega]
    by_cases h : c.idle < c.threads.length
    · rw [runC_succ h, runC_succ h, ih]
    · rw [runC_rest h, runC_rest h, runC_rest h]
theorem stepC_of {c : Cw} {q : Qd} {th : Th} {l : List Qd} (hl : c.codes[c.turn.toNat]? = some l) (ht : c.threads[c.turn.toNat]? = some th) (hq : l[th.pc.toNat]? = some q) :
    stepC c = ⟨c.codes, c.threads.set c.turn.toNat (stepQ q th c.boxes).1, (stepQ q th c.boxes).2.1, (nextT c.threads.length c.turn c.idle (stepQ q th c.boxes).2.2.2).1, (nextT c.threads.length c.turn c.idle (stepQ q th c.boxes).2.2.2).2, c.out ++ (stepQ q th c.boxes).2.2.1⟩ := by
  unfold stepC qAt; rw [ht, hl]; simp [hq]
theorem sil_run {l : List Qd} {k : Nat} {t t' : Th} (h : Sil l k t t') : ∀ {c : Cw} (m : Nat), c.codes[c.turn.toNat]? = some l → c.threads[c.turn.toNat]? = some t → c.idle < c.threads.length →
    runC (k + m) c = runC m ⟨c.codes, c.threads.set c.turn.toNat t', c.boxes, c.turn, if k = 0 then c.idle else 0, c.out⟩ := by
  induction h with
  | refl =>
    intro c m hl ht hi
    rw [Nat.zero_add, set_same ht, if_pos rfl]
  | @step k q t t1 t2 a b s ih =>
    intro c m hl ht hi
    rw [show k + 1 + m = (k + m) + 1 by omega, runC_succ hi, stepC_of hl ht a, b c.boxes]
    have hlen := (List.getElem?_eq_some_iff.1 ht).1
    have hn : nextT c.threads.length c.turn c.idle 1 = (c.turn, 0) := by unfold nextT; rw [if_pos rfl]
    simp only [hn, List.append_nil]
    have := ih (c := ⟨c.codes, c.threads.set c.turn.toNat t1, c.boxes, c.turn, 0, c.out⟩) m hl (by simp only; rw [List.getElem?_set_self hlen]) (by simp only [List.length_set]; omega)
    rw [this]
    simp only [List.set_set, if_neg (Nat.succ_ne_zero k)]
    congr 1
    split <;> rfl
theorem stillQ {q : Qd} {th : Th} {bs : List Bx} (h : (stepQ q th bs).2.2.2 = 3 ∨ (stepQ q th bs).2.2.2 = 4) : (stepQ q th bs).1 = th ∧ (stepQ q th bs).2.1 = bs ∧ (stepQ q th bs).2.2.1 = [] := by
  unfold stepQ at h ⊢
  by_cases h1 : q.op = 1
  · rw [if_pos h1] at h; simp at h
  rw [if_neg h1] at h ⊢
  by_cases h2 : q.op = 2
  · rw [if_pos h2] at h; simp at h
  rw [if_neg h2] at h ⊢
  by_cases h3 : q.op = 3
  · rw [if_pos h3] at h; simp at h
  rw [if_neg h3] at h ⊢
  by_cases h4 : q.op = 4
  · rw [if_pos h4] at h; simp at h
  rw [if_neg h4] at h ⊢
  by_cases h5 : q.op = 5
  · rw [if_pos h5] at h; simp at h
  rw [if_neg h5] at h ⊢
  by_cases h6 : q.op = 6
  · rw [if_pos h6] at h ⊢
    cases hb : bs[q.n.toNat]? with
    | none => exact ⟨rfl, rfl, rfl⟩
    | some bx =>
      rw [hb] at h
      simp only at h ⊢
      split
      · rename_i hr; rw [if_pos hr] at h; simp at h
      · exact ⟨rfl, rfl, rfl⟩
  rw [if_neg h6] at h ⊢
  by_cases h7 : q.op = 7
  · rw [if_pos h7] at h ⊢
    cases hb : bs[q.n.toNat]? with
    | none => exact ⟨rfl, rfl, rfl⟩
    | some bx =>
      rw [hb] at h
      simp only at h ⊢
      cases hi : bx.items with
      | nil => exact ⟨rfl, rfl, rfl⟩
      | cons y r => rw [hi] at h; simp at h
  rw [if_neg h7] at h ⊢
  by_cases h8 : q.op = 8
  · rw [if_pos h8] at h; simp at h
  rw [if_neg h8] at h ⊢
  by_cases h9 : q.op = 9
  · rw [if_pos h9] at h; simp at h
  rw [if_neg h9]
  exact ⟨rfl, rfl, rfl⟩
structure RelC (w : Wd) (c : Cw) : Prop where
  tl : c.threads.length = w.tasks.length
  rel : ∀ (i : Nat) (l : List Qd) (t : Tk) (th : Th), c.codes[i]? = some l → w.tasks[i]? = some t → c.threads[i]? = some th → RelT l t th
  boxes : c.boxes = w.boxes
  out : c.out = w.out
  turn : c.turn = w.turn
  idle : c.idle ≤ w.idle
  va : vaWd w = true
  vc : vaCw c = true
  park : ∀ j : Int, 1 ≤ j → j ≤ w.idle → ∀ q th, qAt c.codes c.threads ((w.turn - j) % w.tasks.length) = some (q, th) → (stepQ q th c.boxes).2.2.2 = 3 ∨ (stepQ q th c.boxes).2.2.2 = 4
theorem RelC.step {w : Wd} {c : Cw} (h : RelC w c) (hi : w.idle < w.tasks.length) : ∃ m, 1 ≤ m ∧ m ≤ 36 ∧ RelC (stepW w) (runC m c) := by
  obtain ⟨h1, h2, h3, h4⟩ := vaWd_iff.1 h.va
  obtain ⟨g1, g2, g3, g4, g5⟩ := vaCw_iff.1 h.vc
  have htl := h.tl
  have htu := h.turn
  have hidl := h.idle
  obtain ⟨t, ht⟩ : ∃ t, w.tasks[w.turn.toNat]? = some t := ⟨_, List.getElem?_eq_getElem (by omega)⟩
  obtain ⟨l, hl⟩ : ∃ t, c.codes[w.turn.toNat]? = some t := ⟨_, List.getElem?_eq_getElem (by omega)⟩
  obtain ⟨th, hth⟩ : ∃ t, c.threads[w.turn.toNat]? = some t := ⟨_, List.getElem?_eq_getElem (by omega)⟩
  have hlen := (List.getElem?_eq_some_iff.1 hth).1
  have hlenw := (List.getElem?_eq_some_iff.1 ht).1
  obtain ⟨k, q, th1, th2, s1, s2, s3, s4, s5, s6⟩ := (h.rel _ l t th hl ht hth).sim (bs := w.boxes)
  have hcode := step_code' (bs := w.boxes) (h4 t (List.mem_of_getElem? ht))
  have e : stepW w = ⟨w.tasks.set w.turn.toNat (stepP t w.boxes).1, (stepP t w.boxes).2.1, (nextT w.tasks.length w.turn w.idle (stepP t w.boxes).2.2.2).1, (nextT w.tasks.length w.turn w.idle (stepP t w.boxes).2.2.2).2, w.out ++ (stepP t w.boxes).2.2.1⟩ := by
    unfold stepW; rw [ht]
  have hkw := (stepW_keeps h.va hi).1
  obtain ⟨ix, hix⟩ : ∃ ix : Int, ix = if k = 0 then c.idle else 0 := ⟨_, rfl⟩
  have hixl : ix ≤ w.idle ∧ 0 ≤ ix := by rw [hix]; split <;> omega
  have er : runC (k + 1) c = ⟨c.codes, c.threads.set w.turn.toNat th2, (stepP t w.boxes).2.1, (nextT w.tasks.length w.turn ix (stepP t w.boxes).2.2.2).1, (nextT w.tasks.length w.turn ix (stepP t w.boxes).2.2.2).2, w.out ++ (stepP t w.boxes).2.2.1⟩ := by
    rw [sil_run s1 1 (by rw [htu]; exact hl) (by rw [htu]; exact hth) (by omega), ← hix, htu]
    rw [show (1 : Nat) = 0 + 1 from rfl, runC_succ (by simp only [List.length_set]; omega)]
    have := stepC_of (c := ⟨c.codes, c.threads.set w.turn.toNat th1, c.boxes, w.turn, ix, c.out⟩) hl (by simp only; rw [List.getElem?_set_self hlen]) s3
    rw [this]
    simp only [h.boxes, s4, List.set_set, List.length_set, htl, h.out]
    rfl
  refine ⟨k + 1, by omega, by omega, ?_⟩
  have hkc := (runC_keeps (k + 1) h.vc).1
  rw [er] at hkc ⊢
  rw [e] at hkw ⊢
  refine ⟨by simpa using htl, fun i l' t' th' hl' ht' hth' => ?_, rfl, rfl, ?_, ?_, hkw, hkc, fun j hj1 hj2 q' th' hq' => ?_⟩
  · simp only at hl' ht' hth'
    by_cases hit : i = w.turn.toNat
    · subst hit
      rw [List.getElem?_set_self hlenw] at ht'
      rw [List.getElem?_set_self hlen] at hth'
      rw [hl] at hl'
      cases ht'; cases hth'; cases hl'
      exact s5
    · rw [List.getElem?_set_ne (Ne.symm hit)] at ht' hth'
      exact h.rel i l' t' th' hl' ht' hth'
  · simp only
    unfold nextT
    split
    · rfl
    split <;> rfl
  · simp only
    unfold nextT
    split
    · simp
    split
    · simp
    · simp only; omega
  · simp only at hj2 hq' ⊢
    by_cases c1 : (stepP t w.boxes).2.2.2 = 1
    · rw [c1] at hj2; simp [nextT] at hj2; omega
    by_cases c2 : (stepP t w.boxes).2.2.2 = 2
    · rw [c2] at hj2; simp [nextT] at hj2; omega
    have hs : (stepP t w.boxes).2.2.2 = 3 ∨ (stepP t w.boxes).2.2.2 = 4 := by omega
    have e12 := s6 hs
    subst e12
    have hsq : (stepQ q th2 w.boxes).2.2.2 = 3 ∨ (stepQ q th2 w.boxes).2.2.2 = 4 := by rw [s4]; exact hs
    have hbx : (stepP t w.boxes).2.1 = w.boxes := by
      have := (stillQ hsq).2.1
      rw [s4] at this
      exact this
    rw [hbx]
    have en : nextT w.tasks.length w.turn w.idle (stepP t w.boxes).2.2.2 = ((w.turn + 1) % w.tasks.length, w.idle + 1) := by unfold nextT; rw [if_neg c1, if_neg c2]
    rw [en] at hj2 hq'
    simp only [List.length_set] at hj2 hq'
    have hm : (((w.turn + 1) % w.tasks.length - j) % w.tasks.length) = (w.turn + 1 - j) % w.tasks.length := by
      rw [Int.emod_sub_emod]
    rw [hm] at hq'
    by_cases j1 : j = 1
    · subst j1
      rw [show w.turn + 1 - 1 = w.turn by omega, Int.emod_eq_of_lt (by omega) (by omega)] at hq'
      unfold qAt at hq'
      rw [List.getElem?_set_self hlen, hl] at hq'
      simp [s3] at hq'
      obtain ⟨rfl, rfl⟩ := hq'
      exact hsq
    · have hne : ((w.turn + 1 - j) % w.tasks.length) ≠ w.turn := fun he => by
        have m0 := Int.emod_nonneg (w.turn + 1 - j) (show (w.tasks.length : Int) ≠ 0 by omega)
        by_cases hc : 0 ≤ w.turn + 1 - j
        · rw [Int.emod_eq_of_lt hc (by omega)] at he; omega
        · have : (w.turn + 1 - j) % w.tasks.length = w.turn + 1 - j + w.tasks.length := by
            rw [← Int.add_emod_right, Int.emod_eq_of_lt (by omega) (by omega)]
          rw [this] at he; omega
      have m0 := Int.emod_nonneg (w.turn + 1 - j) (show (w.tasks.length : Int) ≠ 0 by omega)
      have := h.park (j - 1) (by omega) (by omega) q' th' (by
        rw [show w.turn - (j - 1) = w.turn + 1 - j by omega]
        unfold qAt at hq' ⊢
        rw [List.getElem?_set_ne (by omega)] at hq'
        exact hq')
      rw [h.boxes] at this
      exact this
theorem RelC.run (n : Nat) : ∀ {w : Wd} {c : Cw}, RelC w c → ∃ m, m ≤ 36 * n ∧ RelC (runW n w) (runC m c) ∧ ((runW n w).idle < (runW n w).tasks.length → n ≤ m) := by
  induction n with
  | zero => intro w c h; exact ⟨0, by omega, h, fun _ => by omega⟩
  | succ n ih =>
    intro w c h
    by_cases hi : w.idle < w.tasks.length
    · obtain ⟨m1, a0, a1, a2⟩ := h.step hi
      obtain ⟨m2, b1, b2, b3⟩ := ih a2
      rw [runC_add] at b2
      rw [runW_succ hi]
      exact ⟨m1 + m2, by omega, b2, fun hh => by have := b3 hh; omega⟩
    · rw [runW_rest hi]
      exact ⟨0, by omega, h, fun hh => absurd hh hi⟩
theorem park_run (d : Nat) : ∀ {c : Cw}, vaCw c = true → (∀ (t : Int) q th, 0 ≤ t → t < c.threads.length → qAt c.codes c.threads t = some (q, th) → (stepQ q th c.boxes).2.2.2 = 3 ∨ (stepQ q th c.boxes).2.2.2 = 4) → c.threads.length - c.idle ≤ d →
    ¬ (runC d c).idle < (runC d c).threads.length ∧ (runC d c).threads = c.threads ∧ (runC d c).boxes = c.boxes ∧ (runC d c).out = c.out := by
  induction d with
  | zero => intro c hv hp hd; exact ⟨by simp [runC]; omega, rfl, rfl, rfl⟩
  | succ d ih =>
    intro c hv hp hd
    by_cases hi : c.idle < c.threads.length
    · obtain ⟨g1, g2, g3, g4, g5⟩ := vaCw_iff.1 hv
      obtain ⟨q, x, l, e, hx, hl, hq, c1, c2, c3, c4⟩ := qAt_some (t := c.turn) g3 (by omega) g5
      have hs := hp c.turn q x (by omega) (by omega) e
      obtain ⟨u1, u2, u3⟩ := stillQ hs
      have en : nextT c.threads.length c.turn c.idle (stepQ q x c.boxes).2.2.2 = ((c.turn + 1) % c.threads.length, c.idle + 1) := by unfold nextT; rw [if_neg (by omega), if_neg (by omega)]
      have es : stepC c = ⟨c.codes, c.threads, c.boxes, (c.turn + 1) % c.threads.length, c.idle + 1, c.out⟩ := by
        rw [stepC_of hl hx hq, u1, u2, u3, en, set_same hx, List.append_nil]
      have hk := (stepC_keeps hv hi).1
      rw [runC_succ hi]
      rw [es] at hk ⊢
      exact ih (c := ⟨c.codes, c.threads, c.boxes, (c.turn + 1) % c.threads.length, c.idle + 1, c.out⟩) hk hp (by simp only; omega)
    · rw [runC_rest hi]
      exact ⟨hi, rfl, rfl, rfl⟩
theorem RelC.parked {w : Wd} {c : Cw} (h : RelC w c) (hi : ¬ w.idle < w.tasks.length) : ∀ (t : Int) q th, 0 ≤ t → t < c.threads.length → qAt c.codes c.threads t = some (q, th) → (stepQ q th c.boxes).2.2.2 = 3 ∨ (stepQ q th c.boxes).2.2.2 = 4 := by
  intro t q th t0 t1 hq
  obtain ⟨h1, h2, h3, h4⟩ := vaWd_iff.1 h.va
  have htl := h.tl
  by_cases c : t < w.turn
  · refine h.park (w.turn - t) (by omega) (by omega) q th ?_
    rw [show w.turn - (w.turn - t) = t by omega, Int.emod_eq_of_lt (by omega) (by omega)]; exact hq
  · refine h.park (w.turn - t + w.tasks.length) (by omega) (by omega) q th ?_
    rw [show w.turn - (w.turn - t + w.tasks.length) = t - w.tasks.length by omega, Int.sub_emod_right, Int.emod_eq_of_lt (by omega) (by omega)]; exact hq
theorem RelC.new {p : Pg} (hv : vaPg p = true) : RelC (newW p) (newK p.rooms (p.tasks.map compT)) where
  tl := by simp [newW, newK]
  rel := fun i l t th hl ht hth => by
    simp only [newK, newW] at hl ht hth
    rw [List.getElem?_map] at hl ht
    obtain ⟨f, hf, rfl⟩ := Option.map_eq_some_iff.1 hl
    rw [hf] at ht
    simp at ht
    subst ht
    have et : th = ⟨z12, 0⟩ := by
      rw [List.getElem?_map] at hth
      obtain ⟨_, _, rfl⟩ := Option.map_eq_some_iff.1 hth
      rfl
    subst et
    have hv' := hv
    unfold vaPg at hv'
    simp only [Bool.and_eq_true, decide_eq_true_eq, List.all_eq_true] at hv'
    obtain ⟨o1, o2, o3⟩ := vaF_facts (hv'.2 f (List.mem_of_getElem? hf))
    have e0 : cS (Sts.of f.list) 0 = cS f 0 := by rw [Sts.of_list]
    have hd : Pend (compT f) 0 (0 + (cS (Sts.of f.list) 0).length) [] := by
      rw [e0, Nat.zero_add]
      refine .done ?_
      unfold compT
      simp
    obtain ⟨lev, u1, u2⟩ := Pend.list (l := compT f) (n := 3) (by omega) (lev := 0) (by omega) f.list 0 (fun s hs => by rw [okS_mem] at o1; exact List.all_eq_true.1 o1 s hs) (fun i q hq => by
      rw [e0] at hq
      unfold compT
      rw [Nat.zero_add, List.getElem?_append_left (List.getElem?_eq_some_iff.1 hq).1]; exact hq) hd
    rw [List.append_nil] at u2
    exact ⟨rfl, rfl, 0, rfl, .inl ⟨lev, by omega, u2⟩⟩
  boxes := rfl
  out := rfl
  turn := rfl
  idle := Int.le_refl _
  va := (newW_bo hv).1
  vc := newK_va hv
  park := fun j h1 h2 => by simp [newW] at h2; omega
end Go.Proofs.YtmecbehegmgbhaaGreat.AM
namespace Go.Proofs.YtmecbehegmgbhaaGreat.AM
set_option linter.unusedSimpArgs false
set_option linter.unusedVariables false
set_option maxRecDepth 100000
set_option maxHeartbeats 4000000
open Go
attribute [-simp] AM.elems
theorem crew_rest {p : Pg} {n N : Nat} (hv : vaPg p = true) (hi : ¬ (runW n (newW p)).idle < (runW n (newW p)).tasks.length) (hN : 36 * n + 3 ≤ N) {c : Cw} (hc : c = runC N (newK p.rooms (p.tasks.map compT))) :
    ¬ c.idle < c.threads.length ∧ c.codes = p.tasks.map compT ∧ c.threads.length = (runW n (newW p)).tasks.length ∧ c.out = (runW n (newW p)).out ∧ c.boxes = (runW n (newW p)).boxes ∧
      (∀ (i : Nat) (l : List Qd) (t : Tk) (th : Th), c.codes[i]? = some l → (runW n (newW p)).tasks[i]? = some t → c.threads[i]? = some th → RelT l t th) ∧
      (∀ (t : Int) q th, 0 ≤ t → t < c.threads.length → qAt c.codes c.threads t = some (q, th) → (stepQ q th c.boxes).2.2.2 = 3 ∨ (stepQ q th c.boxes).2.2.2 = 4) := by
  obtain ⟨m, hm, hr, _⟩ := (RelC.new hv).run n
  have hp := hr.parked hi
  have v1 := (vaCw_iff.1 hr.vc).1
  obtain ⟨u1, u2, u3, u4⟩ := park_run 3 hr.vc hp (by have := (vaCw_iff.1 hr.vc).2.2.1; omega)
  rw [runC_add] at u1 u2 u3 u4
  have e : c = runC (m + 3) (newK p.rooms (p.tasks.map compT)) := by
    have := runC_add (m + 3) (N - (m + 3)) (newK p.rooms (p.tasks.map compT))
    rw [runC_rest u1, show m + 3 + (N - (m + 3)) = N by omega] at this
    rw [hc]; exact this.symm
  have ec : ∀ k, (runC k (newK p.rooms (p.tasks.map compT))).codes = p.tasks.map compT := fun k => (runC_codes k).1
  rw [e]
  refine ⟨u1, ec _, by rw [u2]; exact hr.tl, by rw [u4]; exact hr.out, by rw [u3]; exact hr.boxes, fun i l t th hl ht hth => ?_, fun t q th h0 h1 hq => ?_⟩
  · rw [u2] at hth
    rw [ec] at hl
    exact hr.rel i l t th (by rw [ec]; exact hl) ht hth
  · rw [u2] at h1 hq
    rw [ec] at hq
    rw [u3]
    exact hp t q th h0 h1 (by rw [ec]; exact hq)
end Go.Proofs.YtmecbehegmgbhaaGreat.AM
namespace Go.Proofs.YtmecbehegmgbhaaGreat.AM
set_option linter.unusedSimpArgs false
set_option linter.unusedVariables false
set_option maxRecDepth 100000
set_option maxHeartbeats 4000000
open Go
attribute [-simp] AM.elems
end Go.Proofs.YtmecbehegmgbhaaGreat.AM
namespace Go.Proofs.YtmecbehegmgbhaaGreat.AM
set_option linter.unusedSimpArgs false
set_option linter.unusedVariables false
set_option maxRecDepth 100000
set_option maxHeartbeats 4000000
open Go
attribute [-simp] AM.elems
theorem CS.qv {base H H' v B v' B' L'} {ok : Nat → Prop} {u : AV} {l : List Qd} (h : CS base H H' v B v' B' L') (q : QV ok H u l) (hd : ∀ b, ok b → b < H.n → b ∉ grB v B) : QV ok H' u l :=
  q.mono h.le (fun b hb hn => h.2.1.2 b hn (hd b hb hn)) (fun _ h _ => h)
theorem CS.appQ {base : Nat} {ok : Nat → Prop} {H : AH} {v u : AV} {B : Nat} {L l : List Qd} (h : GrS base H v L.length 5 (qCs L) B) (hb : base ≤ H.n) (q : QV ok H u l) (hl : L.length + l.length ≤ 1000000) :
    ∃ v' H' B', aapp H 5 v l.length (qCs l) = some (v', H') ∧ CS base H H' v B v' B' (L ++ l) ∧ v'.flat = true := by
  obtain ⟨v', H', B', a1, a2, a3, a4⟩ := h.app hb (k := l.length) (new := qCs l) qCs_len (by omega)
  have a2' : GrS base H' v' (L ++ l).length 5 (qCs (L ++ l)) B' := by rw [qCs_app, List.length_append]; exact a2
  refine ⟨v', H', B', a1, ⟨a2', a4, fun b hb => ?_⟩, a2.flat⟩
  rcases a3 with ⟨z1, z2⟩ | z
  · exact .inl (by rw [grB_sub hb, z1]; exact z2)
  · exact .inr (by rw [grB_sub hb, z]; omega)
theorem GrS.newQ {base : Nat} {G : AH} (hb : base ≤ G.n) (q : Qd) : GrS base (G.push (qC q)) (.sl G.n 0 1 (.ex 1)) [q].length 5 (qCs [q]) G.n := by
  have := GrS.new (base := base) (G := G) (n := 1) (sz := 5) (cs := qC q) hb (by omega) rfl
  simpa [qCs] using this
theorem CS.ext' {base H0 H H' v B v' B' L'} (h : CS base H H' v B v' B' L') (x : Ext H0 H) (hb : ∀ b ∈ grB v B, H0.n ≤ b) : Ext H0 H' :=
  ⟨Nat.le_trans x.1 h.le, fun b hb' => (h.2.1.2 b (by have := x.1; omega) (fun hm => by have := hb b hm; omega)).trans (x.2 b hb')⟩
theorem K_sl22Expr (a : Exs) : ∀ {ok : Nat → Prop} {H : AH} {K : AV → AH → Prop} {w : Fk K} {op n d at_ : Int} {va : AV}, EV ok H va a → okE1 d op n a.list.length (okF (d - 1) a) = true → (0 ≤ at_ ∧ at_ + d ≤ 100) → (cE1 at_ op n (compF a at_)).length ≤ 1000000 →
    (∀ v' B' H', GrS H.n H' v' (cE1 at_ op n (compF a at_)).length 5 (qCs (cE1 at_ op n (compF a at_))) B' → Ext H H' → K v' H') → CallF Cd f_sl22Expr [.agg [.I op, .I n, va], .I at_] H K w := by
  induction a using Exs.ind with
  | h a ih =>
  intro ok H K w op n d at_ va h hok hat hL k
  have x1 := Ext.push H [.I op, .I n, va]
  have q1 : (H.push [.I op, .I n, va]).bk H.n = some ⟨[.I op, .I n, va], true⟩ := push_new
  rw [CallF_eq e_sl22Expr rfl]
  by_cases h0 : op = 0
  · subst h0
    have e : cE1 at_ 0 n (compF a at_) = [⟨1, at_, 0, 0, n⟩] := by unfold cE1; rw [if_pos rfl]
    rw [e] at k
    have g := GrS.newQ (base := H.n) (G := H.push [.I 0, .I n, va]) (by simp) ⟨1, at_, 0, 0, n⟩
    simp [load_bk q1]
    exact k _ _ _ g (x1.trans (Ext.push _ _))
  by_cases h13 : op = 13
  · subst h13
    have e : cE1 at_ 13 n (compF a at_) = [⟨2, at_, n, 0, 0⟩] := by unfold cE1; rw [if_neg (by omega), if_pos rfl]
    rw [e] at k
    have g := GrS.newQ (base := H.n) (G := H.push [.I 13, .I n, va]) (by simp) ⟨2, at_, n, 0, 0⟩
    simp [load_bk q1]
    exact k _ _ _ g (x1.trans (Ext.push _ _))
  obtain ⟨c0, c1, c2, c3⟩ := okE1_op hok h0 h13
  obtain ⟨e1, e3, hal⟩ := two_of c2
  have hx := h.ext x1
  obtain ⟨b, o, cap, va1, ev, ob, hbn, l1, ea⟩ := hx.at (i := 0) (e := e1) (by rw [hal]; rfl)
  obtain ⟨b', o', cap', va2, ev', ob', hbn', l2, eb⟩ := hx.at (i := 1) (e := e3) (by rw [hal]; rfl)
  rw [hal] at ev ev'
  rw [ev] at ev'
  simp only [AV.sl.injEq, true_and] at ev'
  obtain ⟨rfl, rfl, rfl⟩ := ev'
  have ev2 : va = .sl b o 2 cap := ev
  clear ev
  subst ev2
  have ok1 : okE (d - 1) e1 = true ∧ okE (d - 1) e3 = true := by
    rw [okF_mem, hal] at c3
    simpa using c3
  have hd1 : 1 < d := by
    unfold okE1 at hok
    rw [if_neg h0, if_neg h13] at hok
    simp only [Bool.and_eq_true, decide_eq_true_eq] at hok
    exact hok.1.2.2.2.2
  have e : cE1 at_ op n (compF a at_) = compE at_ e1 ++ compE (at_ + 1) e3 ++ [⟨3, at_, at_, at_ + 1, op⟩] := by unfold cE1; rw [if_neg h0, if_neg h13, compF_two hal]
  rw [e] at k hL
  simp only [List.length_append, List.length_singleton] at hL
  simp only [Nat.zero_mul, Nat.add_zero, Nat.one_mul] at l1 l2
  have z1 : (cE1 at_ e1.op e1.n (compF e1.args at_)) = compE at_ e1 := rfl
  have z3 : (cE1 (at_ + 1) e3.op e3.n (compF e3.args (at_ + 1))) = compE (at_ + 1) e3 := rfl
  simp [load_bk q1, l1, h0, h13]
  refine ih e1 (by rw [hal]; simp) (d := d - 1) (at_ := at_) ea ok1.1 (by omega) (by rw [z1]; omega) fun v1 B1 H2 g2 x2 => ?_
  rw [z1] at g2
  have n2 := x2.1
  simp only [push_n] at n2 g2
  have q2 := (x2.2 H.n (by simp)).trans q1
  have l2' := loadN_extE l2 x2 hbn'
  simp (disch := omega) [x2, load_bk q2, l2']
  refine ih e3 (by rw [hal]; simp) (d := d - 1) (at_ := at_ + 1) (eb.ext x2) ok1.2 (by omega) (by rw [z3]; omega) fun v2 B2 H3 g3 x3 => ?_
  rw [z3] at g3
  have n3 := x3.1
  have q3 := (x3.2 H.n (by omega)).trans q2
  have e3' : AM.elems H3 5 v2 = some (qCs (compE (at_ + 1) e3)) := g3.elems
  have a3' := g3.alen
  have gB : ∀ b ∈ grB v1 B1, H.n + 1 ≤ b ∧ b < H2.n := fun b hm => by have := g2.mem hm; omega
  obtain ⟨v4, H4, B4, b1, s4, f4⟩ := CS.appQ ((g2.up (base' := H.n) (by omega)).ext x3) (by omega) g3.qv (by omega)
  have q4 := s4.keep (P := H.n) (by omega) (fun hm => by have := gB _ hm; omega) q3
  obtain ⟨v5, H5, B5, c1', s5, f5⟩ := CS.app s4.1 (by have := s4.le; omega) ⟨3, at_, at_, at_ + 1, op⟩ (by simp only [List.length_append]; omega)
  simp only [qC] at c1'
  simp (disch := omega) [x3, e3', a3', b1, load_bk q4]
  simp (disch := omega) [AM.elems, loadN_push, c1']
  have S := s4.trans s5
  refine k _ B5 _ ?_ (S.ext' ((x1.trans x2).trans x3) (fun b hm => by have := gB b hm; omega))
  simpa [List.append_assoc] using S.1
end Go.Proofs.YtmecbehegmgbhaaGreat.AM
namespace Go.Proofs.YtmecbehegmgbhaaGreat.AM
set_option linter.unusedSimpArgs false
set_option linter.unusedVariables false
set_option maxRecDepth 100000
set_option maxHeartbeats 4000000
open Go
attribute [-simp] AM.elems
theorem elems5 {G : AH} {a b c d e : AV} : AM.elems (G.push [a, b, c, d, e]) 5 (.sl G.n 0 1 (.ex 1)) = some [a, b, c, d, e] := by
  show AH.loadN _ _ _ _ = _
  rw [loadN_bk push_new]; rfl
theorem okE_any {boxes n : Int} {s : St1} (h : okT boxes n s = true) : okE 5 s.e = true := by
  obtain ⟨hk, hoe, _⟩ := okT_facts h
  by_cases h56 : s.k = 5 ∨ s.k = 6
  · have hp : plE s.e = true := by
      unfold okT okS1 stV at h
      rcases h56 with k5 | k6
      · simp [k5] at h; exact h.2
      · simp [k6] at h; exact h.2
    unfold plE at hp
    simp only [decide_eq_true_eq] at hp
    unfold okE okE1
    rw [if_pos hp.1, hp.2.1, hp.2.2]
    simp
  · exact hoe (by omega) (by omega)
def SpecC (f : Sts) : Prop := ∀ {ok : Nat → Prop} {n : Int} {H : AH} {K : AV → AH → Prop} {w : Fk K} {v : AV} {b : Nat}, SV ok H v f → okS 3 n f = true → b + (cS f b).length ≤ 100000 →
    (∀ v' B' H', GrS H.n H' v' (cS f b).length 5 (qCs (cS f b)) B' → Ext H H' → K v' H') → CallF Cd f_sl22List [v, .I b] H K w
section
variable {ok : Nat → Prop} {n : Int} {H : AH} {K : AV → AH → Prop} {w : Fk K} {c : List AV} {s : St1}
theorem K_sl22If (i1 : SpecC s.body) (i2 : SpecC s.els) {b : Nat} (h : S1 ok H c s) (k2 : s.k = 2) (hok : okT 3 n s = true) (hoky : okS 3 (n - 1) s.body = true) (hokz : okS 3 (n - 1) s.els = true) (hL : b + (cT s b).length ≤ 100000)
    (k : ∀ v' B' H', GrS H.n H' v' (cT s b).length 5 (qCs (cT s b)) B' → Ext H H' → K v' H') : CallF Cd f_sl22If [.agg c, .I b] H K w := by
  have hE := okE_any hok
  obtain ⟨va, vy, vz, rfl, ea, ey, ez⟩ := h
  obtain ⟨kk, vv, bb, ⟨op, nn, args⟩, body, els⟩ := s
  simp only at i1 i2 ea ey ez hE k2 hoky hokz
  subst k2
  have x1 := Ext.push H [.I 2, .I vv, .I bb, .I op, .I nn, va, vy, vz]
  have q1 : (H.push [.I 2, .I vv, .I bb, .I op, .I nn, va, vy, vz]).bk H.n = some ⟨[.I 2, .I vv, .I bb, .I op, .I nn, va, vy, vz], true⟩ := push_new
  have zE : ∀ a : Int, compE a ⟨op, nn, args⟩ = cE1 a op nn (compF args a) := fun _ => rfl
  have w3 : (H.push [.I 2, .I vv, .I bb, .I op, .I nn, va, vy, vz]).loadN H.n 3 3 = some [.I op, .I nn, va] := by rw [loadN_bk q1]; rfl
  have hEl := compE_len hE 4
  obtain ⟨E, hEE⟩ : ∃ E, E = compE 4 ⟨op, nn, args⟩ := ⟨_, rfl⟩
  obtain ⟨Y, hY⟩ : ∃ Y, Y = cS body (b + E.length + 1) := ⟨_, rfl⟩
  obtain ⟨Z, hZ⟩ : ∃ Z, Z = cS els (b + E.length + 1 + Y.length + 1) := ⟨_, rfl⟩
  have e : cT ⟨2, vv, bb, ⟨op, nn, args⟩, body, els⟩ b = if els.list.length = 0 then E ++ ⟨5, 0, 4, 0, (b : Int) + E.length + 1 + Y.length⟩ :: Y else E ++ ⟨5, 0, 4, 0, (b : Int) + E.length + 1 + Y.length + 1⟩ :: (Y ++ ⟨4, 0, 0, 0, (b : Int) + E.length + 1 + Y.length + 1 + Z.length⟩ :: Z) := by
    unfold cT
    simp only [← hEE, ← hY, ← hZ]
    unfold stC
    rw [if_neg (by decide), if_neg (by decide), if_neg (by decide), if_neg (by decide), if_neg (by decide), if_neg (by decide)]
    simp
  rw [e] at k hL
  rw [← hEE] at hEl
  have hL2 : b + E.length + 1 + Y.length ≤ 100000 := by
    split at hL <;> simp at hL <;> omega
  rw [CallF_eq e_sl22If rfl]
  simp [w3]
  refine K_sl22Expr args (d := 5) (at_ := 4) (ea.ext x1) hE (by omega) (by rw [← zE, ← hEE]; omega) fun v1 B1 H2 g1 x2 => ?_
  rw [← zE, ← hEE] at g1
  have n2 := x2.1
  simp only [push_n] at n2 g1
  have q2 := (x2.2 H.n (by simp)).trans q1
  have a1 := g1.alen
  have e17 : ((b : Int) + E.length + 1) = ((b + E.length + 1 : Nat) : Int) := by omega
  simp (disch := omega) [load_bk q2, a1]
  rw [e17]
  refine i1 (n := n - 1) (ey.ext (x1.trans x2)) hoky (by rw [← hY]; omega) fun v2 B2 H3 g2 x3 => ?_
  rw [← hY] at g2
  have n3 := x3.1
  have q3 := (x3.2 H.n (by omega)).trans q2
  have a2 := g2.alen
  have gB1 : ∀ u ∈ grB v1 B1, H.n + 1 ≤ u ∧ u < H2.n := fun u hm => by have := g1.mem hm; omega
  have qy : QV (fun u => H2.n ≤ u ∧ u < H3.n) H3 v2 Y := g2.qvB (fun h1 h2 => ⟨h1, h2⟩)
  have azz := (ez.ext ((x1.trans x2).trans x3)).alen
  have hzb := ez.big
  by_cases hz : els.list.length = 0
  · rw [if_pos hz] at k
    obtain ⟨v4, H4, B4, b4, s4, f4⟩ := CS.app ((g1.up (base' := H.n) (by omega)).ext x3) (by omega) ⟨5, 0, 4, 0, (b : Int) + E.length + 1 + Y.length⟩ (by omega)
    simp only [qC] at b4
    have qy4 := s4.qv qy (fun u hu _ hm => by have := gB1 u hm; omega)
    obtain ⟨v5, H5, B5, b5, s5, f5⟩ := CS.appQ s4.1 (by have := s4.le; omega) qy4 (by simp only [List.length_append, List.length_singleton]; omega)
    rw [hz] at azz
    have el4 := qy4.elems
    have al4 := qy4.alen
    simp (disch := omega) [a2, load_bk q3, azz, a1, elems5, b4, el4, al4, b5]
    have S := s4.trans s5
    refine k _ B5 _ ?_ (S.ext' ((x1.trans x2).trans x3) (fun u hm => by have := gB1 u hm; omega))
    simpa [List.append_assoc] using S.1
  · rw [if_neg hz] at k hL
    simp only [List.length_append, List.length_cons] at hL
    have hzn : ¬ (els.list.length : Int) = 0 := by omega
    have hznn : ¬ els.list = [] := fun h => hz (by rw [h]; rfl)
    simp (disch := omega) [a2, load_bk q3, azz, a1, hz, hzn, hznn]
    have e43 : ((b : Int) + E.length + 1 + Y.length + 1) = ((b + E.length + 1 + Y.length + 1 : Nat) : Int) := by omega
    rw [e43]
    refine i2 (n := n - 1) (ez.ext ((x1.trans x2).trans x3)) hokz (by rw [← hZ]; omega) fun v3 B3 H4 g3 x4 => ?_
    rw [← hZ] at g3
    rw [← e43]
    have n4 := x4.1
    have a3 := g3.alen
    have qz : QV (fun u => H3.n ≤ u ∧ u < H4.n) H4 v3 Z := g3.qvB (fun h1 h2 => ⟨h1, h2⟩)
    have qy4 := qy.ext x4
    obtain ⟨v5, H5, B5, b5, s5, f5⟩ := CS.app (((g1.up (base' := H.n) (by omega)).ext x3).ext x4) (by omega) ⟨5, 0, 4, 0, (b : Int) + E.length + 1 + Y.length + 1⟩ (by omega)
    simp only [qC] at b5
    have nm5 : ∀ u, H2.n ≤ u → u < H4.n → u ∉ grB v5 B5 := fun u h1 h2 => s5.nm (P := u) h2 (fun hm => by have := gB1 u hm; omega)
    have qy5 := s5.qv qy4 (fun u hu _ hm => by have := gB1 u hm; omega)
    have qz5 := s5.qv qz (fun u hu _ hm => by have := gB1 u hm; omega)
    have n5 := s5.le
    obtain ⟨v6, H6, B6, b6, s6, f6⟩ := CS.appQ s5.1 (by omega) qy5 (by simp only [List.length_append, List.length_singleton]; omega)
    have qz6 := s6.qv qz5 (fun u hu _ => nm5 u (by omega) (by omega))
    have nm6 : ∀ u, H2.n ≤ u → u < H4.n → u ∉ grB v6 B6 := fun u h1 h2 => s6.nm (P := u) (by omega) (nm5 u h1 h2)
    have n6 := s6.le
    obtain ⟨v7, H7, B7, b7, s7, f7⟩ := CS.app s6.1 (by omega) ⟨4, 0, 0, 0, (b : Int) + E.length + 1 + Y.length + 1 + Z.length⟩ (by simp only [List.length_append, List.length_singleton]; omega)
    simp only [qC] at b7
    have qz7 := s7.qv qz6 (fun u hu _ => nm6 u (by omega) (by omega))
    have n7 := s7.le
    obtain ⟨v8, H8, B8, b8, s8, f8⟩ := CS.appQ s7.1 (by omega) qz7 (by simp only [List.length_append, List.length_singleton]; omega)
    have ely := qy5.elems
    have aly := qy5.alen
    have elz := qz7.elems
    have alz := qz7.alen
    simp (disch := omega) [a3, elems5, b5, ely, aly, b6, b7, elz, alz, b8]
    have S := ((s5.trans s6).trans s7).trans s8
    refine k _ B8 _ ?_ (S.ext' (((x1.trans x2).trans x3).trans x4) (fun u hm => by have := gB1 u hm; omega))
    simpa [List.append_assoc] using S.1
end
end Go.Proofs.YtmecbehegmgbhaaGreat.AM
namespace Go.Proofs.YtmecbehegmgbhaaGreat.AM
set_option linter.unusedSimpArgs false
set_option linter.unusedVariables false
set_option maxRecDepth 100000
set_option maxHeartbeats 4000000
open Go
attribute [-simp] AM.elems
section
variable {ok : Nat → Prop} {n : Int} {H : AH} {K : AV → AH → Prop} {w : Fk K} {c : List AV} {s : St1}
theorem K_sl22While (i1 : SpecC s.body) {b : Nat} (h : S1 ok H c s) (k3 : s.k = 3) (hok : okT 3 n s = true) (hoky : okS 3 (n - 1) s.body = true) (hL : b + (cT s b).length ≤ 100000)
    (k : ∀ v' B' H', GrS H.n H' v' (cT s b).length 5 (qCs (cT s b)) B' → Ext H H' → K v' H') : CallF Cd f_sl22While [.agg c, .I b] H K w := by
  have hE := okE_any hok
  obtain ⟨va, vy, vz, rfl, ea, ey, ez⟩ := h
  obtain ⟨kk, vv, bb, ⟨op, nn, args⟩, body, els⟩ := s
  simp only at i1 ea ey ez hE k3 hoky
  subst k3
  have x1 := Ext.push H [.I 3, .I vv, .I bb, .I op, .I nn, va, vy, vz]
  have q1 : (H.push [.I 3, .I vv, .I bb, .I op, .I nn, va, vy, vz]).bk H.n = some ⟨[.I 3, .I vv, .I bb, .I op, .I nn, va, vy, vz], true⟩ := push_new
  have zE : ∀ a : Int, compE a ⟨op, nn, args⟩ = cE1 a op nn (compF args a) := fun _ => rfl
  have w3 : (H.push [.I 3, .I vv, .I bb, .I op, .I nn, va, vy, vz]).loadN H.n 3 3 = some [.I op, .I nn, va] := by rw [loadN_bk q1]; rfl
  have hEl := compE_len hE 4
  obtain ⟨E, hEE⟩ : ∃ E, E = compE 4 ⟨op, nn, args⟩ := ⟨_, rfl⟩
  obtain ⟨Y, hY⟩ : ∃ Y, Y = cS body (b + E.length + 1) := ⟨_, rfl⟩
  have e : cT ⟨3, vv, bb, ⟨op, nn, args⟩, body, els⟩ b = E ++ ⟨5, 0, 4, 0, (b : Int) + E.length + 1 + Y.length + 1⟩ :: (Y ++ [⟨4, 0, 0, 0, b⟩]) := by
    unfold cT
    simp only [← hEE, ← hY]
    unfold stC
    rw [if_neg (by decide), if_neg (by decide), if_neg (by decide), if_neg (by decide), if_neg (by decide), if_pos rfl]
    simp
  rw [e] at k hL
  rw [← hEE] at hEl
  simp only [List.length_append, List.length_cons, List.length_nil] at hL
  rw [CallF_eq e_sl22While rfl]
  simp [w3]
  refine K_sl22Expr args (d := 5) (at_ := 4) (ea.ext x1) hE (by omega) (by rw [← zE, ← hEE]; omega) fun v1 B1 H2 g1 x2 => ?_
  rw [← zE, ← hEE] at g1
  have n2 := x2.1
  simp only [push_n] at n2 g1
  have q2 := (x2.2 H.n (by simp)).trans q1
  have a1 := g1.alen
  have e17 : ((b : Int) + E.length + 1) = ((b + E.length + 1 : Nat) : Int) := by omega
  simp (disch := omega) [load_bk q2, a1]
  rw [e17]
  refine i1 (n := n - 1) (ey.ext (x1.trans x2)) hoky (by rw [← hY]; omega) fun v2 B2 H3 g2 x3 => ?_
  rw [← hY] at g2
  have n3 := x3.1
  have a2 := g2.alen
  have gB1 : ∀ u ∈ grB v1 B1, H.n + 1 ≤ u ∧ u < H2.n := fun u hm => by have := g1.mem hm; omega
  have qy : QV (fun u => H2.n ≤ u ∧ u < H3.n) H3 v2 Y := g2.qvB (fun h1 h2 => ⟨h1, h2⟩)
  obtain ⟨v4, H4, B4, b4, s4, f4⟩ := CS.app ((g1.up (base' := H.n) (by omega)).ext x3) (by omega) ⟨5, 0, 4, 0, (b : Int) + E.length + 1 + Y.length + 1⟩ (by omega)
  simp only [qC] at b4
  have qy4 := s4.qv qy (fun u hu _ hm => by have := gB1 u hm; omega)
  obtain ⟨v5, H5, B5, b5, s5, f5⟩ := CS.appQ s4.1 (by have := s4.le; omega) qy4 (by simp only [List.length_append, List.length_singleton]; omega)
  obtain ⟨v6, H6, B6, b6, s6, f6⟩ := CS.app s5.1 (by have := s4.le; have := s5.le; omega) ⟨4, 0, 0, 0, b⟩ (by simp only [List.length_append, List.length_singleton]; omega)
  simp only [qC] at b6
  have el4 := qy4.elems
  have al4 := qy4.alen
  simp (disch := omega) [a2, a1, elems5, b4, el4, al4, b5, b6]
  have S := (s4.trans s5).trans s6
  refine k _ B6 _ ?_ (S.ext' ((x1.trans x2).trans x3) (fun u hm => by have := gB1 u hm; omega))
  simpa [List.append_assoc] using S.1
theorem K_sl22Stmt (i1 : SpecC s.body) (i2 : SpecC s.els) {b : Nat} (h : S1 ok H c s) (hok : okT 3 n s = true) (hL : b + (cT s b).length ≤ 100000)
    (k : ∀ v' B' H', GrS H.n H' v' (cT s b).length 5 (qCs (cT s b)) B' → Ext H H' → K v' H') : CallF Cd f_sl22Stmt [.agg c, .I b] H K w := by
  have hE := okE_any hok
  obtain ⟨hk17, _⟩ := okT_facts hok
  have h0 := h
  obtain ⟨va, vy, vz, rfl, ea, ey, ez⟩ := h
  have hoyz : s.k = 2 ∨ s.k = 3 → okS 3 (n - 1) s.body = true ∧ okS 3 (n - 1) s.els = true := fun hk => by
    unfold okT okS1 at hok
    simp only [Bool.and_eq_true, Bool.or_eq_true, decide_eq_true_eq] at hok
    rcases hok.2 with q | q
    · omega
    · exact ⟨q.1.2, q.2⟩
  have x1 := Ext.push H [.I s.k, .I s.v, .I s.b, .I s.e.op, .I s.e.n, va, vy, vz]
  have q1 : (H.push [.I s.k, .I s.v, .I s.b, .I s.e.op, .I s.e.n, va, vy, vz]).bk H.n = some ⟨[.I s.k, .I s.v, .I s.b, .I s.e.op, .I s.e.n, va, vy, vz], true⟩ := push_new
  have w3 : (H.push [.I s.k, .I s.v, .I s.b, .I s.e.op, .I s.e.n, va, vy, vz]).loadN H.n 3 3 = some [.I s.e.op, .I s.e.n, va] := by rw [loadN_bk q1]; rfl
  have hEl := compE_len hE 4
  have zE : ∀ a : Int, compE a s.e = cE1 a s.e.op s.e.n (compF s.e.args a) := fun _ => rfl
  obtain ⟨E, hEE⟩ : ∃ E, E = compE 4 s.e := ⟨_, rfl⟩
  rw [← hEE] at hEl
  rw [CallF_eq e_sl22Stmt rfl]
  simp [w3]
  refine K_sl22Expr s.e.args (d := 5) (at_ := 4) (ea.ext x1) hE (by omega) (by rw [← zE, ← hEE]; omega) fun v1 B1 H2 g1 x2 => ?_
  rw [← zE, ← hEE] at g1
  have n2 := x2.1
  simp only [push_n] at n2 g1
  have q2 := (x2.2 H.n (by simp)).trans q1
  have w8 : H2.loadN H.n 0 8 = some [.I s.k, .I s.v, .I s.b, .I s.e.op, .I s.e.n, va, vy, vz] := by rw [loadN_bk q2]; rfl
  have gB1 : ∀ u ∈ grB v1 B1, H.n + 1 ≤ u ∧ u < H2.n := fun u hm => by have := g1.mem hm; omega
  have y2 := x1.trans x2
  have l0 : H2.load H.n 0 = some (.I s.k) := by rw [load_bk q2]; rfl
  have l1 : H2.load H.n 1 = some (.I s.v) := by rw [load_bk q2]; rfl
  have l2 : H2.load H.n 2 = some (.I s.b) := by rw [load_bk q2]; rfl
  have app1 : ∀ q : Qd, cT s b = E ++ [q] → ∃ v' H', aapp (H2.push (qC q)) 5 v1 1 (qC q) = some (v', H') ∧ K v' H' := fun q hq => by
    rw [hq] at hL k
    simp only [List.length_append, List.length_singleton] at hL
    obtain ⟨v4, H4, B4, b4, s4, f4⟩ := CS.app (g1.up (base' := H.n) (by omega)) (by omega) q (by omega)
    exact ⟨v4, H4, b4, k _ B4 _ s4.1 (s4.ext' y2 (fun u hm => by have := gB1 u hm; omega))⟩
  by_cases k2 : s.k = 2
  · simp [l0, k2, w8]
    rw [← k2]
    exact K_sl22If i1 i2 (h0.ext y2) k2 hok (hoyz (.inl k2)).1 (hoyz (.inl k2)).2 hL fun v' B' H' g x => by
      simpa using k v' B' H' (g.up y2.1) (y2.trans x)
  by_cases k3 : s.k = 3
  · simp [l0, k3, w8]
    rw [← k3]
    exact K_sl22While i1 (h0.ext y2) k3 hok (hoyz (.inr k3)).1 hL fun v' B' H' g x => by
      simpa using k v' B' H' (g.up y2.1) (y2.trans x)
  by_cases k1 : s.k = 1
  · obtain ⟨v', H', a1, a2⟩ := app1 ⟨2, s.v, 4, 0, 0⟩ (by unfold cT stC; rw [if_pos k1, hEE])
    simp only [qC] at a1
    simp (disch := omega) [l0, l1, l2, k2, k3, k1, elems5, a1]
    exact a2
  by_cases k4 : s.k = 4
  · obtain ⟨v', H', a1, a2⟩ := app1 ⟨6, 0, 4, 0, s.b⟩ (by unfold cT stC; rw [if_neg k1, if_pos k4, hEE])
    simp only [qC] at a1
    simp (disch := omega) [l0, l1, l2, k2, k3, k1, k4, elems5, a1]
    exact a2
  by_cases k7 : s.k = 7
  · obtain ⟨v', H', a1, a2⟩ := app1 ⟨9, 0, 4, 0, 0⟩ (by unfold cT stC; rw [if_neg k1, if_neg k4, if_neg (by omega), if_neg (by omega), if_pos k7, hEE])
    simp only [qC] at a1
    simp (disch := omega) [l0, l1, l2, k2, k3, k1, k4, k7, elems5, a1]
    exact a2
  by_cases k5 : s.k = 5
  · have e : cT s b = [⟨7, s.v, 0, 0, s.b⟩] := by unfold cT stC; rw [if_neg k1, if_neg k4, if_pos k5]
    rw [e] at k
    have g := GrS.newQ (base := H.n) (G := H2) (by omega) ⟨7, s.v, 0, 0, s.b⟩
    simp (disch := omega) [l0, l1, l2, k2, k3, k1, k4, k7, k5]
    exact k _ _ _ g (y2.trans (Ext.push _ _))
  · have k6 : s.k = 6 := by omega
    have e : cT s b = [⟨8, 0, 0, 0, 0⟩] := by unfold cT stC; rw [if_neg k1, if_neg k4, if_neg k5, if_pos k6]
    rw [e] at k
    have g := GrS.newQ (base := H.n) (G := H2) (by omega) ⟨8, 0, 0, 0, 0⟩
    simp (disch := omega) [l0, l1, l2, k2, k3, k1, k4, k7, k5, k6]
    exact k _ _ _ g (y2.trans (Ext.push _ _))
end
theorem K_sl22List_l {f : Sts} (ih : ∀ s ∈ f.list, SpecC s.body ∧ SpecC s.els) {base : Nat} {n : Int} (hok : okS 3 n f = true) {v : AV} {b : Nat} {Q : Out → Env → AH → Prop} (m i : Nat) (hm : i + m = f.list.length) {G : AH} {vc : AV} {L : List Qd} {B : Nat} (hb : base ≤ G.n) (hv : SV (fun b => b < base) G v f)
    (hg : GrS base G vc L.length 5 (qCs L) B) (hL : b + L.length + (cS (Sts.of (f.list.drop i)) (b + L.length)).length ≤ 100000)
    (hQ : ∀ e v' B' G', CS base G G' vc B v' B' (L ++ cS (Sts.of (f.list.drop i)) (b + L.length)) → get e 5 = some v' → Q (.brk 0) e G') :
    W Cd (.loop c_sl22List_l0) [(0, v), (1, .I b), (5, vc), (6, .I i)] G Q := by
  have hbig := hv.big
  induction m generalizing i G vc L B with
  | zero =>
    rw [W_loop_as c_sl22List_l0.eq_1]
    have : i = f.list.length := by omega
    subst this
    simp [hv.alen]
    have e0 : f.list.drop f.list.length = [] := List.drop_eq_nil_of_le (Nat.le_refl _)
    rw [e0] at hQ
    have e1 : L ++ cS (Sts.of []) (b + L.length) = L := by simp [cS]
    rw [e1] at hQ
    exact hQ _ vc B G ⟨hg, Only.refl, fun b hb => .inl hb⟩ rfl
  | succ m ihm =>
    rw [W_loop_as c_sl22List_l0.eq_1]
    have hlt : i < f.list.length := by omega
    have hlt' : (i : Int) < f.list.length := by omega
    obtain ⟨s, hs⟩ : ∃ s, f.list[i]? = some s := ⟨_, List.getElem?_eq_getElem hlt⟩
    have hsm := List.mem_of_getElem? hs
    obtain ⟨i1, i2⟩ := ih s hsm
    have hos : okT 3 n s = true := by rw [okS_mem] at hok; exact List.all_eq_true.1 hok s hsm
    have hdr : f.list.drop i = s :: f.list.drop (i + 1) := by
      rw [List.drop_eq_getElem_cons hlt]
      rw [List.getElem?_eq_getElem hlt] at hs
      rw [Option.some.inj hs]
    rw [hdr, cS_of] at hL hQ
    simp only [List.length_append] at hL
    obtain ⟨b', o, cap, c, e1, ob, hbn, l1, s1⟩ := hv.at hs
    have hv0 := hv
    have hva := hv.alen
    have hga := hg.alen
    subst e1
    have eb : ((b : Int) + L.length) = ((b + L.length : Nat) : Int) := by omega
    simp (disch := omega) [hva, hlt', l1, hga]
    rw [eb]
    refine K_sl22Stmt i1 i2 s1 hos (by omega) fun v2 B2 H2 g2 x2 => ?_
    have n2 := x2.1
    have e2 := g2.elems
    have a2 := g2.alen
    obtain ⟨v5, H5, B5, b5, s5, f5⟩ := CS.appQ (hg.ext x2) (by omega) g2.qv (by omega)
    simp (disch := omega) [e2, a2, b5]
    have hgb : ∀ u ∈ grB vc B, u < G.n := fun u hm => by have := (hg.mem hm); omega
    have S := s5.pre x2 hgb
    have n5 := S.le
    have := ihm (i + 1) (by omega) (G := H5) (vc := v5) (L := L ++ cT s (b + L.length)) (B := B5) (by omega) (hv0.mono n5 (fun u hu hn => S.2.1.2 u hn (fun hm => by have := hg.mem hm; omega)) (fun _ h _ => h)) S.1 (by rw [List.length_append, ← Nat.add_assoc]; omega)
      (fun e v'' B'' G' s3 he => hQ e v'' B'' G' (by
        have := S.trans s3
        rw [List.length_append, List.append_assoc, ← Nat.add_assoc] at this
        exact this) he)
    simpa using this
theorem K_sl22List (f : Sts) : SpecC f := by
  induction f using Sts.ind with
  | h f ih =>
  intro ok n H K w v b hv hok hL k
  rw [CallF_eq e_sl22List rfl]
  have hbig := hv.big
  have hg : GrS H.n (H.push []) (.sl H.n 0 0 (.ex 0)) ([] : List Qd).length 5 (qCs []) H.n := ⟨by simp, by simp [qCs], .inr ⟨Nat.le_refl _, Nat.lt_succ_self _, .inl ⟨rfl, push_new⟩⟩⟩
  simp
  have := K_sl22List_l ih hok (base := H.n) (v := v) (b := b) (Q := ?_) f.list.length 0 (by omega) (G := H.push []) (vc := .sl H.n 0 0 (.ex 0)) (L := []) (B := H.n) (by simp) ((hv.mono (ok' := fun u => u < H.n) (Nat.le_refl _) (fun _ _ _ => rfl) (fun _ _ hu => hu)).ext (Ext.push H [])) hg (by rw [List.drop_zero, Sts.of_list]; simpa using hL) ?_
  · simpa using this
  · intro e v' B' G' s he
    rw [List.drop_zero, Sts.of_list] at s
    simp at s
    simp [he]
    exact k v' B' G' s.1 (s.ext' (Ext.push H []) (fun u hm => by simp [grB] at hm; omega))
section
variable {ok : Nat → Prop} {H : AH} {K : AV → AH → Prop} {w : Fk K} {v : AV} {f : Sts}
theorem K_sCompileTask (h : SV ok H v f) (hv : vaS 3 f = true) (k : ∀ v' B' H', GrS H.n H' v' (compT f).length 5 (qCs (compT f)) B' → Ext H H' → K (.tup [v', .b true]) H') : CallF Cd f_sCompileTask [v] H K w := by
  have hv' := hv
  unfold vaS at hv'
  simp only [Bool.and_eq_true, decide_eq_true_eq] at hv'
  have hl := cS_len hv'.1 0
  rw [CallF_eq e_sCompileTask rfl]
  simp
  refine K_sStmtsValid h (by omega) fun H1 x1 => ?_
  simp [hv]
  refine K_sl22List f (b := 0) (h.ext x1) hv'.1 (by omega) fun v1 B1 H2 g1 x2 => ?_
  have n1 := x1.1
  have n2 := x2.1
  have gB1 : ∀ u ∈ grB v1 B1, H1.n ≤ u := fun u hm => by have := g1.mem hm; omega
  obtain ⟨v4, H4, B4, b4, s4, f4⟩ := CS.app (g1.up (base' := H.n) (by omega)) (by omega) ⟨10, 0, 0, 0, 0⟩ (by omega)
  simp only [qC] at b4
  simp [elems5, b4]
  exact k _ B4 _ s4.1 (s4.ext' (x1.trans x2) (fun u hm => by have := gB1 u hm; omega))
end
theorem K_sCompileProgram_l {l : List Sts} (hll : l.length ≤ 1000) (hit : ∀ f ∈ l, vaS 3 f = true) {base : Nat} {v vr : AV} {P : Nat}
    {Q : Out → Env → AH → Prop} (m i : Nat) (him : i + m = l.length) {G : AH} {g : AV} {cs : List AV} {B : Nat} (hb : base ≤ G.n) (hP : P < base) (gP : G.bk P = some ⟨[vr, v], true⟩) (hv : LV (fun b => b < base) G v l) (hg : GrS base G g i 1 cs B)
    (he : LF 1 (CLc (fun b => base ≤ b ∧ b ≠ B) G) ((l.map compT).take i) cs)
    (hQ : ∀ e G' g' cs' B', GrS base G' g' l.length 1 cs' B' → LF 1 (CLc (fun b => base ≤ b ∧ b ≠ B') G') (l.map compT) cs' → (∀ b, b < base → G'.bk b = G.bk b) → G.n ≤ G'.n → get e 4 = some g' → Q (.brk 0) e G') :
    W Cd (.loop c_sCompileProgram_l0) [(1, .ptr P 0), (4, g), (5, .I i)] G Q := by
  induction m generalizing i G g cs B with
  | zero =>
    rw [W_loop_as c_sCompileProgram_l0.eq_1]
    have hi : i = l.length := by omega
    subst hi
    have hbig := hv.big
    simp [load_bk gP, hv.alen]
    rw [List.take_of_length_le (by simp)] at he
    exact hQ _ G g cs B hg he (fun _ _ => rfl) (Nat.le_refl _) rfl
  | succ m ihm =>
    rw [W_loop_as c_sCompileProgram_l0.eq_1]
    have hi : i < l.length := by omega
    obtain ⟨f, hs⟩ : ∃ s, l[i]? = some s := ⟨_, List.getElem?_eq_getElem hi⟩
    have hmem := List.mem_of_getElem? hs
    have hf1 := hit f hmem
    obtain ⟨b, o, cap, u, e1, hbn, l1, sv⟩ := hv.at hs
    have hv0 := hv
    have hva := hv.alen
    subst e1
    generalize hLL : l.length = LL at *
    have hlt : (i : Int) < LL := by omega
    simp (disch := omega) [load_bk gP, hva, hlt, l1]
    refine K_sCompileTask sv hf1 fun vi' B1 H1 g1 x1 => ?_
    have f1 := g1.flat
    have x7 := Ext.push H1 [vi']
    obtain ⟨g', G', B', a1, a2, a3, a4, a5, a6⟩ := LF.snoc (E := CLc) (l := l.map compT) (x := compT f) (fun h => h.mono) (by rw [List.getElem?_map, hs]; rfl) hg he hb (x1.trans x7) rfl
      (show CLc (fun b => G.n ≤ b) (H1.push [vi']) [vi'] (compT f) from ⟨vi', rfl, g1.qv.ext x7⟩) (by omega)
    have n1 := x1.1
    simp only [push_n] at n1 a5
    simp (disch := omega) [flat_cells f1, flat_tup f1, AM.elems, loadN_push, a1]
    have := ihm (i + 1) (by omega) (G := G') (by omega) ((a4 P hP).trans gP) (hv0.mono (by omega) (fun b hb' _ => a4 b hb') (fun _ h _ => h)) a2 a3 (fun e G2 g2 cs2 B2 u1 u2 u3 u4 u5 => hQ e G2 g2 cs2 B2 u1 u2 (fun b hb' => (u3 b hb').trans (a4 b hb')) (by omega) u5)
    simpa using this
theorem K_sCompileProgram {ok : Nat → Prop} {H : AH} {K : AV → AH → Prop} {w : Fk K} {c : List AV} {p : Pg} (h : PgC ok H c p) (hct : ∀ f ∈ p.tasks, ctS f ≤ 100000)
    (k : ∀ v' H', CLV (fun b => H.n ≤ b) H' v' (if vaPg p = true then p.tasks.map compT else []) → Ext H H' → K (.tup [v', .b (vaPg p)]) H') : CallF Cd f_sCompileProgram [.agg c] H K w := by
  have h' := h
  obtain ⟨vr, vt, rfl, h1, h2⟩ := h'
  rw [CallF_eq e_sCompileProgram rfl]
  have x0 := (Ext.push H [vr, vt]).trans (Ext.push _ [])
  have q0 : ((H.push [vr, vt]).push []).bk H.n = some ⟨[vr, vt], true⟩ := push_old (by simp) push_new
  simp [loadN_bk q0]
  refine K_sProgramValid (h.ext x0) (fun f hf => by have := hct f hf; omega) fun H1 x1 => ?_
  have n1 := x1.1
  simp only [push_n] at n1
  have y1 := x0.trans x1
  have q1 := (x1.2 H.n (by simp <;> omega)).trans q0
  have qe : H1.bk (H.n + 1) = some ⟨[], true⟩ := (x1.2 _ (by simp)).trans (push_new (H := H.push [vr, vt]))
  have ge : GrS (H.n + 1) H1 (.sl (H.n + 1) 0 0 (.ex 0)) 0 1 [] (H.n + 1) := ⟨by omega, by simp, .inr ⟨Nat.le_refl _, by omega, .inl ⟨rfl, qe⟩⟩⟩
  cases hv : vaPg p with
  | false =>
    rw [hv, if_neg (by simp)] at k
    simp
    exact k _ H1 ⟨[], ⟨by simp, rfl, .inr ⟨H.n + 1, 0, .ex 0, rfl, ⟨by omega, by simp [capOk]⟩, by omega, by rw [loadN_bk qe]; rfl⟩⟩, rfl⟩ y1
  | true =>
    rw [hv, if_pos rfl] at k
    have hv' := hv
    unfold vaPg at hv'
    simp only [Bool.and_eq_true, decide_eq_true_eq, List.all_eq_true] at hv'
    have hl3 : p.tasks.length ≤ 3 := hv'.1.2.2
    simp
    have := K_sCompileProgram_l (l := p.tasks) (by omega) (fun f hf => by have := hv'.2 f hf; unfold vaF at this; simp only [Bool.and_eq_true] at this; exact this.1) (Q := ?_) p.tasks.length 0 (by omega) (base := H.n + 1) (G := H1) (g := .sl (H.n + 1) 0 0 (.ex 0)) (cs := []) (B := H.n + 1) (v := vt) (vr := vr) (P := H.n) (by omega) (by omega) q1
      ((h2.mono (ok' := fun b => b < H.n + 1) (Nat.le_refl _) (fun b _ hb => rfl) (fun b _ hb => by omega)).ext y1) ge rfl ?_
    · simpa using this
    · intro e G g cs B u1 u2 u3 u4 u5
      simp [u5]
      exact k g G ⟨cs, by simpa using u1.slc.mono (Nat.le_refl _) (fun _ _ _ => rfl) (fun b hb _ => by omega), u2.imp fun c a h => h.mono (Nat.le_refl _) (fun _ _ _ => rfl) (fun b hb _ => by omega)⟩ ⟨by omega, fun b hb => (u3 b (by omega)).trans (y1.2 b hb)⟩
theorem T_wsameCode_l {o1 o2 : Nat → Prop} {H : AH} {va vb : AV} {l : List Qd} {Q : Out → Env → AH → Prop} (h1 : QV o1 H va l) (h2 : QV o2 H vb l) (hQ : ∀ e, Q (.brk 0) e H) (m i : Nat) (hm : i + m = l.length) :
    W Cd (.loop c_wsameCode_l0) [(0, va), (1, vb), (5, .I i)] H Q := by
  have hbig : l.length ≤ 8589934592 := h1.1
  induction m generalizing i with
  | zero =>
    rw [W_loop_as c_wsameCode_l0.eq_1]
    have : i = l.length := by omega
    subst this
    simp [h1.alen]
    exact hQ _
  | succ m ih =>
    rw [W_loop_as c_wsameCode_l0.eq_1]
    have hlt : i < l.length := by omega
    have hlt' : (i : Int) < l.length := by omega
    obtain ⟨e, he⟩ : ∃ e, l[i]? = some e := ⟨_, List.getElem?_eq_getElem hlt⟩
    obtain ⟨b, o, cap, e1, ob, hb, l1⟩ := h1.at he
    obtain ⟨b2, o2, cap2, e2, ob2, hb2, l2⟩ := h2.at he
    have a1 := h1.alen
    have := ih (i + 1) (by omega)
    subst e1 e2
    simp (disch := omega) [a1, hlt', l1, l2, qC]
    simpa using this
theorem T_wsameCode {o1 o2 : Nat → Prop} {H : AH} {K : AV → AH → Prop} {w : Fk K} {va vb : AV} {l : List Qd} (h1 : QV o1 H va l) (h2 : QV o2 H vb l) (k : K (.b true) H) : CallF Cd f_wsameCode [va, vb] H K w := by
  rw [CallF_eq e_wsameCode rfl]
  simp [h1.alen, h2.alen]
  have := T_wsameCode_l h1 h2 (Q := ?_) ?_ l.length 0 (by omega)
  · simpa using this
  · intro e; simpa using k
theorem T_wsameCodes_l {o1 o2 : Nat → Prop} {H : AH} {va vb : AV} {l : List (List Qd)} {Q : Out → Env → AH → Prop} (h1 : CLV o1 H va l) (h2 : CLV o2 H vb l) (hQ : ∀ e, Q (.brk 0) e H) (m i : Nat) (hm : i + m = l.length) :
    W Cd (.loop c_wsameCodes_l0) [(0, va), (1, vb), (5, .I i)] H Q := by
  have hbig : l.length ≤ 8589934592 := h1.big
  induction m generalizing i with
  | zero =>
    rw [W_loop_as c_wsameCodes_l0.eq_1]
    have : i = l.length := by omega
    subst this
    simp [h1.alen]
    exact hQ _
  | succ m ih =>
    rw [W_loop_as c_wsameCodes_l0.eq_1]
    have hlt : i < l.length := by omega
    have hlt' : (i : Int) < l.length := by omega
    obtain ⟨e, he⟩ : ∃ e, l[i]? = some e := ⟨_, List.getElem?_eq_getElem hlt⟩
    obtain ⟨b, o, cap, u, e1, ob, hb, l1, i1⟩ := h1.at he
    obtain ⟨b2, o2, cap2, u2, e2, ob2, hb2, l2, i2⟩ := h2.at he
    have a1 := h1.alen
    have := ih (i + 1) (by omega)
    subst e1 e2
    simp (disch := omega) [a1, hlt', l1, l2]
    refine T_wsameCode i1 i2 ?_
    simp (disch := omega) [Ext.refl]
    simpa using this
theorem T_wsameCodes {o1 o2 : Nat → Prop} {H : AH} {K : AV → AH → Prop} {w : Fk K} {va vb : AV} {l : List (List Qd)} (h1 : CLV o1 H va l) (h2 : CLV o2 H vb l) (k : K (.b true) H) : CallF Cd f_wsameCodes [va, vb] H K w := by
  rw [CallF_eq e_wsameCodes rfl]
  simp [h1.alen, h2.alen]
  have := T_wsameCodes_l h1 h2 (Q := ?_) ?_ l.length 0 (by omega)
  · simpa using this
  · intro e; simpa using k
end Go.Proofs.YtmecbehegmgbhaaGreat.AM
