/-
  The abstract machine and its walks, merged by program out of smaller texts (part 4). No condition.
-/
import Derived.Test.YtcibjklpaljadaaGreatHM3
namespace Go.Proofs.YtcibjklpaljadaaGreat.AM
set_option linter.unusedSimpArgs false
set_option linter.unusedVariables false
set_option maxRecDepth 100000
set_option maxHeartbeats 2000000
open Go
def ISl (base : Nat) (G : AH) (v : AV) (l : List Int) (I : Nat) : Prop :=
  l.length ≤ 1000 ∧ ((v = .nils ∧ l = []) ∨ (base ≤ I ∧ I < G.n ∧ ((v = .sl I 0 0 (.ex 0) ∧ l = [] ∧ G.bk I = some ⟨[], true⟩) ∨
    ∃ c ex, v = .sl I 0 l.length (.lb c 1) ∧ l.length ≤ c ∧ ex.length = c - l.length ∧ G.bk I = some ⟨Ints l ++ ex, true⟩)))
theorem ISl.flat {base G v l I} (h : ISl base G v l I) : v.flat = true := by
  obtain ⟨_, ⟨rfl, _⟩ | ⟨_, _, ⟨rfl, _⟩ | ⟨c, ex, rfl, _⟩⟩⟩ := h <;> rfl
theorem ISl.grs {base G v l I} (h : ISl base G v l I) : GrS base G v l.length 1 (Ints l) I := by
  obtain ⟨h1, ⟨rfl, rfl⟩ | ⟨h2, h3, ⟨rfl, rfl, h4⟩ | ⟨c, ex, rfl, h5, h6, h7⟩⟩⟩ := h
  · exact GrS.nils
  · exact ⟨by simp, rfl, .inr ⟨h2, h3, .inl ⟨rfl, h4⟩⟩⟩
  · exact ⟨by omega, by rw [Ints_len]; omega, .inr ⟨h2, h3, .inr ⟨c, ex, rfl, h5, by omega, h7⟩⟩⟩
theorem ISl.only {base G G' v l I bs} (h : ISl base G v l I) (k : Only bs G G') (hb : ∀ b ∈ bs, b ∉ grB v I) : ISl base G' v l I := by
  obtain ⟨h1, h2 | ⟨h3, h4, h5⟩⟩ := h
  · exact ⟨h1, .inl h2⟩
  · have hI : I ∉ bs := fun hm => hb I hm (by rcases h5 with ⟨rfl, _⟩ | ⟨c, ex, rfl, _⟩ <;> simp [grB])
    have e : G'.bk I = G.bk I := k.2 I h4 hI
    rw [← e] at h5
    exact ⟨h1, .inr ⟨h3, Nat.lt_of_lt_of_le h4 k.1, h5⟩⟩
theorem ISl.mem {base G v l I} (h : ISl base G v l I) {b : Nat} (hb : b ∈ grB v I) : b = I ∧ base ≤ I ∧ I < G.n := h.grs.mem hb
theorem ISl.sees {base G v l I} (h : ISl base G v l I) : SeesZ G v l := (h.grs.iv).sees
theorem ISl.push1 {base G v l I} (h : ISl base G v l I) (hb : base ≤ G.n) {x : Int} (hl : l.length < 1000) :
    ∃ v' G' I', aapp (G.push [.I x]) 1 v 1 [.I x] = some (v', G') ∧ ISl base G' v' (l ++ [x]) I' ∧ ((I' = I ∧ I ∈ grB v I) ∨ I' = G.n + 1) ∧ Only (grB v I) G G' ∧ v'.flat = true ∧ G.n + 1 ≤ G'.n := by
  obtain ⟨v', G', I', a1, a2, a3, a4⟩ := (h.grs.ext (Ext.push G [.I x])).app (by simp; omega) (k := 1) (new := [.I x]) rfl (by omega)
  obtain ⟨b, c, e⟩ := (h.grs.ext (Ext.push G [.I x])).app_lb a1 (by omega)
  refine ⟨v', G', I', a1, ?_, by simpa using a3, (show Only (grB v I) G (G.push [.I x]) from Only.refl.push).trans a4, a2.flat, by have := a4.1; simpa using this⟩
  obtain ⟨q1, q2, q3⟩ := a2
  refine ⟨by simp; omega, ?_⟩
  rcases q3 with ⟨q4, q5⟩ | ⟨q4, q5, ⟨q6, _⟩ | ⟨c', ex, q6, q7, q8, q9⟩⟩
  · omega
  · rw [e] at q6; simp at q6
  · exact .inr ⟨q4, q5, .inr ⟨c', ex, by simpa using q6, by simpa using q7, by simpa using q8, by rw [← Ints_snoc]; exact q9⟩⟩
theorem ISl.pop {base G v I} {y : Int} {l : List Int} (h : ISl base G v (y :: l) I) :
    ∃ v0 v1 v' G', aslice 1 v none (some (.I 0)) none = some v0 ∧ aslice 1 v (some (.I 1)) none none = some v1 ∧ alen v1 = some l.length ∧ AM.elems G 1 v1 = some (Ints l) ∧ aapp G 1 v0 l.length (Ints l) = some (v', G') ∧ ISl base G' v' l I ∧ Only [I] G G' ∧ v'.flat = true ∧ base ≤ I ∧ I < G.n ∧ grB v I = [I] := by
  obtain ⟨h1, ⟨_, h2⟩ | ⟨h2, h3, ⟨_, h4, _⟩ | ⟨c, ex, rfl, h5, h6, h7⟩⟩⟩ := h
  · cases h2
  · cases h4
  · have hl : (y :: l).length = l.length + 1 := rfl
    have h1' : l.length + 1 ≤ 1000 := h1
    have h5' : l.length + 1 ≤ c := h5
    have h6' : ex.length = c - (l.length + 1) := h6
    rw [hl]
    have e0 : aslice 1 (.sl I 0 (l.length + 1) (.lb c 1)) none (some (.I 0)) none = some (.sl I 0 0 (.lb c 1)) := by simp [aslice, bnd, aint]
    by_cases hn : l.length = 0
    · have : l = [] := List.eq_nil_of_length_eq_zero hn
      subst this
      refine ⟨_, .esl, .sl I 0 0 (.lb c 1), G, e0, by simp [aslice, bnd, aint], rfl, rfl, by simp [aapp], ⟨by simp, .inr ⟨h2, h3, .inr ⟨c, .I y :: ex, rfl, Nat.zero_le _, by simp at h6' ⊢; omega, by simpa [Ints] using h7⟩⟩⟩, Only.refl, rfl, h2, h3, rfl⟩
    · have e1 : aslice 1 (.sl I 0 (l.length + 1) (.lb c 1)) (some (.I 1)) none none = some (.sl I 1 l.length (.lb (c - 1) 1)) := by
        simp [aslice, bnd, aint]
        exact fun e => hn (by rw [e]; rfl)
      have st := store_bk (o := 0) (vs := Ints l) h7 (by simp [Ints]; omega)
      have es : splice (Ints (y :: l) ++ ex) 0 (Ints l) = Ints l ++ (Ints (y :: l) ++ ex).drop l.length := by
        unfold splice; simp [Ints_len]
      rw [es] at st
      refine ⟨_, _, .sl I 0 l.length (.lb c 1), G.put I (some ⟨Ints l ++ (Ints (y :: l) ++ ex).drop l.length, true⟩), e0, e1, rfl, ?_, ?_, ⟨by omega, .inr ⟨h2, h3, .inr ⟨c, _, rfl, by omega, ?_, put_same⟩⟩⟩, Only.refl.put (by simp), rfl, h2, h3, rfl⟩
      · show AH.loadN G I 1 (l.length * 1) = _
        rw [loadN_bk h7]
        unfold seg
        rw [if_pos (by simp [Ints]; omega)]
        simp [Ints]
      · unfold aapp
        simp only [if_neg hn, Nat.zero_add, Nat.zero_mul]
        rw [if_neg (show ¬ big < l.length by unfold big; omega), if_neg (show ¬ (1 ≠ 1) by simp), if_pos (by omega), st]; rfl
      · rw [List.length_drop, List.length_append, Ints_len, hl, h6']; omega
def PL (ok : Nat → Prop) (H : AH) : AV → List St1 → Prop
  | p, [] => p = .nilp
  | p, s :: r => ∃ q sb so c nx, p = .ptr q 0 ∧ ok q ∧ q < H.n ∧ H.bk q = some ⟨[.ptr sb so, nx], true⟩ ∧ ok sb ∧ sb < H.n ∧ H.loadN sb so 8 = some c ∧ S1 ok H c s ∧ nx.flat = true ∧ PL ok H nx r
theorem PL.mono {ok ok' : Nat → Prop} {H H' : AH} (hn : H.n ≤ H'.n) (hk : ∀ b, ok b → b < H.n → H'.bk b = H.bk b) (ho : ∀ b, ok b → b < H.n → ok' b) : ∀ {l p}, PL ok H p l → PL ok' H' p l
  | [], _, h => h
  | s :: r, p, ⟨q, sb, so, c, nx, h1, h2, h3, h4, h5, h6, h7, h8, h9, h10⟩ =>
    ⟨q, sb, so, c, nx, h1, ho q h2 h3, Nat.lt_of_lt_of_le h3 hn, (hk q h2 h3).trans h4, ho sb h5 h6, Nat.lt_of_lt_of_le h6 hn, by unfold AH.loadN at h7 ⊢; rw [hk sb h5 h6]; exact h7, h8.mono hn hk ho, h9, PL.mono hn hk ho h10⟩
theorem PL.ext {ok : Nat → Prop} {H H' : AH} {p l} (h : PL ok H p l) (k : Ext H H') : PL ok H' p l := h.mono k.1 (fun b _ hb => k.2 b hb) (fun _ h _ => h)
theorem PL.flat {ok : Nat → Prop} {H : AH} {p : AV} : ∀ {l}, PL ok H p l → p.flat = true
  | [], h => by cases h; rfl
  | s :: r, ⟨q, sb, so, c, nx, h1, _⟩ => by subst h1; rfl
theorem K_iahead_l {ok : Nat → Prop} {f : Sts} {v : AV} {rs : List St1} {Q : Out → Env → AH → Prop} (n : Nat) (hn : n ≤ f.list.length) {G : AH} {p : AV} (base : Nat) (hb : base ≤ G.n) (hok : ∀ b, base ≤ b → ok b) (h : SV ok G v f) (hp : PL ok G p (f.list.drop n ++ rs))
    (hQ : ∀ e G' p', Ext G G' → PL ok G' p' (f.list ++ rs) → get e 1 = some p' → Q (.brk 0) e G') : W Cd (.loop c_iahead_l0) [(0, v), (1, p), (5, .I (n - 1))] G Q := by
  induction n generalizing G p with
  | zero =>
    rw [W_loop_as c_iahead_l0.eq_1]
    simp
    exact hQ _ G p (Ext.refl _) (by simpa using hp) rfl
  | succ n ih =>
    rw [W_loop_as c_iahead_l0.eq_1]
    obtain ⟨s, hs⟩ : ∃ s, f.list[n]? = some s := ⟨_, List.getElem?_eq_getElem (by omega)⟩
    have hbig := h.big
    obtain ⟨b, o, cap, c, e1, ob, hbn, l1, s1⟩ := h.at hs
    have hdrop : f.list.drop n = s :: f.list.drop (n + 1) := by
      obtain ⟨hi, rfl⟩ := List.getElem?_eq_some_iff.1 hs
      exact List.drop_eq_getElem_cons hi
    have x0 := Ext.push G [.ptr b (o + n * 8), p]
    have hp' : PL ok (G.push [.ptr b (o + n * 8), p]) (.ptr G.n 0) (f.list.drop n ++ rs) := by
      rw [hdrop]
      exact ⟨G.n, b, o + n * 8, c, p, rfl, hok _ hb, Nat.lt_succ_self _, push_new, ob, Nat.lt_succ_of_lt hbn, loadN_extE l1 x0 hbn, s1.ext x0, hp.flat, hp.ext x0⟩
    have fp := hp.flat
    have := ih (by omega) (G := G.push [.ptr b (o + n * 8), p]) (p := .ptr G.n 0) (by simp; omega) (h.ext x0) hp' (fun e G' p' x => hQ e G' p' (x0.trans x))
    subst e1
    have hlt : n < f.list.length := by omega
    have e2 : ((n + 1 : Nat) : Int) - 1 = n := by omega
    rw [e2]
    simp (disch := omega) [flat_cells fp, flat_tup fp]
    simpa using this
theorem K_iahead {ok : Nat → Prop} {H : AH} {K : AV → AH → Prop} {w : Fk K} {v p : AV} {f : Sts} {rs : List St1} (base : Nat) (hb : base ≤ H.n) (hok : ∀ b, base ≤ b → ok b) (h : SV ok H v f) (hp : PL ok H p rs)
    (k : ∀ p' H', PL ok H' p' (f.list ++ rs) → Ext H H' → K p' H') : CallF Cd f_iahead [v, p] H K w := by
  rw [CallF_eq e_iahead rfl]
  have hbig := h.big
  simp (disch := omega) [h.alen]
  have := K_iahead_l (ok := ok) (f := f) (v := v) (rs := rs) (Q := ?_) f.list.length (Nat.le_refl _) base hb hok h (by rw [List.drop_length]; exact hp) ?_
  · simpa using this
  · intro e G' p' x u1 u2
    simp [u2]
    exact k p' G' u1 x
end Go.Proofs.YtcibjklpaljadaaGreat.AM
namespace Go.Proofs.YtcibjklpaljadaaGreat.AM
set_option linter.unusedSimpArgs false
set_option linter.unusedVariables false
set_option maxRecDepth 100000
set_option maxHeartbeats 2000000
open Go
theorem K_inewRunning {ok : Nat → Prop} {H : AH} {K : AV → AH → Prop} {w : Fk K} {c : List AV} {t : Tk} (h : TC ok H c t) (h4 : t.vars.length = 4)
    (k : ∀ R vv' V p H', H'.bk R = some ⟨[vv', p], true⟩ → GrS H.n H' vv' t.vars.length 1 (Ints t.vars) V → PL (fun b => b ≠ V ∧ b ≠ R) H' p t.rest.list → H.n ≤ V → V < R → R < H'.n → Ext H H' → K (.ptr R 0) H') : CallF Cd f_inewRunning [.agg c] H K w := by
  obtain ⟨vv, vr, rfl, h1, h2⟩ := h
  rw [CallF_eq e_inewRunning rfl]
  have x0 := Ext.push H [vv, vr]
  simp [load_push]
  refine K_cloneG (h1.ext x0).src (by omega) fun vv' H1 V g1 x1 => ?_
  have n1 := x1.1
  simp only [push_n] at n1
  have fv := g1.flat
  have hV : H.n + 1 ≤ V ∧ V < H1.n := by
    rcases g1.2.2 with q | q
    · omega
    · exact ⟨by simpa using q.1, q.2.1⟩
  have q1 : H1.bk H.n = some ⟨[vv, vr], true⟩ := (x1.2 _ (by simp)).trans push_new
  simp [x1, load_bk q1]
  have sv : SV (fun b => b ≠ V) H1 vr t.rest := h2.mono (by omega) (fun b _ hb => (x0.trans x1).2 b hb) (fun b _ hb => by omega)
  refine K_iahead (ok := fun b => b ≠ V) (rs := []) H1.n (Nat.le_refl _) (fun b hb => by omega) sv (show PL _ H1 .nilp [] from rfl) fun p H2 hp x2 => ?_
  have fp := hp.flat
  have n2 := x2.1
  rw [List.append_nil] at hp
  have x3 := Ext.push H2 [vv', p]
  simp [x2, flat_cells fv, flat_tup fv, flat_cells fp, flat_tup fp]
  refine k H2.n vv' V p _ push_new ?_ (hp.mono (by simp) (fun b _ hb => x3.2 b hb) (fun b h hb => ⟨h, by omega⟩)) (by omega) (by omega) (by simp) (((x0.trans x1).trans x2).trans x3)
  have g3 := (g1.ext x2).ext x3
  refine ⟨g3.1, g3.2.1, ?_⟩
  rcases g3.2.2 with q | q
  · exact .inl q
  · exact .inr ⟨by omega, q.2⟩
theorem K_iBox_put {H : AH} {K : AV → AH → Prop} {w : Fk K} {B o base I : Nat} {room x : Int} {vi : AV} {l : List Int} (hl : H.loadN B o 2 = some [.I room, vi]) (hB : B < H.n) (hw : ∃ cs, H.bk B = some ⟨cs, true⟩ ∧ o + 2 ≤ cs.length) (hi : ISl base H vi l I) (hbase : base ≤ H.n) (hBI : B ∉ grB vi I) (hr : l.length ≤ room ∧ room ≤ 100)
    (k1 : (l.length : Int) = room → K (.b false) H)
    (k2 : (l.length : Int) < room → ∀ v' I' H1 H', ISl base H1 v' (l ++ [x]) I' → ((I' = I ∧ I ∈ grB vi I) ∨ (H.n ≤ I')) → Only (grB vi I) H H1 → B < H1.n → I' < H1.n → H1.store B (o + 1) [v'] = some H' → v'.flat = true → K (.b true) H') : CallF Cd f_iBox_put [.ptr B o, .I x] H K w := by
  rw [CallF_eq e_iBox_put rfl]
  have l0 := loadN_get hl (i := 0) (by omega)
  have l1 := loadN_get hl (i := 1) (by omega)
  simp at l0 l1
  have ha := hi.sees.1
  by_cases hq : (l.length : Int) = room
  · have hq' : ¬ (l.length : Int) ≠ room := by omega
    simp (disch := omega) [l0, l1, ha, hq]
    exact k1 hq
  · obtain ⟨v', G', I', a1, a2, a3, a4, a5, n4⟩ := hi.push1 hbase (x := x) (by omega)
    obtain ⟨cs, q1, q2⟩ := hw
    have q3 : G'.bk B = some ⟨cs, true⟩ := a4.bk hB hBI q1
    obtain ⟨H', st⟩ : ∃ H', G'.store B (o + 1) [v'] = some H' := ⟨_, store_bk (o := o + 1) (vs := [v']) q3 (by simp; omega)⟩
    simp (disch := omega) [l0, l1, ha, hq, loadN_push, a1, flat_cells a5, flat_tup a5, st]
    refine k2 (by omega) v' I' G' _ a2 (a3.imp id (fun q => by omega)) a4 (by omega) ?_ st a5
    rcases a2.2 with q | q
    · have := congrArg List.length q.2; simp at this
    · exact q.2.1
theorem K_iBox_take {H : AH} {K : AV → AH → Prop} {w : Fk K} {B o base I : Nat} {room : Int} {vi : AV} {l : List Int} (hl : H.loadN B o 2 = some [.I room, vi]) (hB : B < H.n) (hw : ∃ cs, H.bk B = some ⟨cs, true⟩ ∧ o + 2 ≤ cs.length) (hi : ISl base H vi l I) (hBI : B ∉ grB vi I)
    (k1 : l = [] → K (.tup [.I 0, .b false]) H)
    (k2 : ∀ y q, l = y :: q → ∀ v' H1 H', ISl base H1 v' q I → Only [I] H H1 → grB vi I = [I] → B < H1.n → H1.store B (o + 1) [v'] = some H' → v'.flat = true → K (.tup [.I y, .b true]) H') : CallF Cd f_iBox_take [.ptr B o] H K w := by
  rw [CallF_eq e_iBox_take rfl]
  have l0 := loadN_get hl (i := 0) (by omega)
  have l1 := loadN_get hl (i := 1) (by omega)
  simp at l0 l1
  have ha := hi.sees.1
  cases l with
  | nil =>
    have ha' : alen vi = some 0 := ha
    simp (disch := omega) [l0, l1, ha']
    exact k1 rfl
  | cons y q =>
    obtain ⟨v0, v1, v', G', a1, a2, a3, a4, a5, a6, a7, a8, a9, a10, a11⟩ := hi.pop
    obtain ⟨cs, q1, q2⟩ := hw
    have hbi : B ∉ [I] := by rw [← a11]; exact hBI
    have q3 : G'.bk B = some ⟨cs, true⟩ := a7.bk hB hbi q1
    obtain ⟨H', st⟩ : ∃ H', G'.store B (o + 1) [v'] = some H' := ⟨_, store_bk (o := o + 1) (vs := [v']) q3 (by simp; omega)⟩
    obtain ⟨bv, ov, s1, s2, s3⟩ := hi.sees.at (i := 0) (by simp)
    simp at s3
    have ha' : alen vi = some (q.length + 1) := ha
    have hz : ¬ ((q.length : Int) + 1 = 0) := by omega
    have hz2 : ¬ ((q.length + 1 : Nat) : Int) = 0 := by omega
    have hl1 := hi.1
    simp at hl1 s1
    simp (disch := omega) [-AM.elems, l0, l1, ha', hz, s1, s3, a1, a2, a3, a4, a5, flat_cells a8, flat_tup a8, st]
    exact k2 y q rfl v' G' _ a6 a7 a11 (by have := a7.1; omega) st a8
end Go.Proofs.YtcibjklpaljadaaGreat.AM
namespace Go.Proofs.YtcibjklpaljadaaGreat.AM
set_option linter.unusedSimpArgs false
set_option linter.unusedVariables false
set_option maxRecDepth 100000
set_option maxHeartbeats 2000000
open Go
def cellsB : List Bx → List (AV × Nat) → List AV
  | x :: l, p :: r => .I x.room :: p.1 :: cellsB l r
  | _, _ => []
theorem cellsB_len : ∀ {l : List Bx} {r : List (AV × Nat)}, r.length = l.length → (cellsB l r).length = l.length * 2
  | [], [], _ => rfl
  | x :: l, p :: r, h => by have := cellsB_len (l := l) (r := r) (by simpa using h); simp [cellsB, this]; omega
  | [], p :: r, h => by simp at h
  | x :: l, [], h => by simp at h
theorem cellsB_get : ∀ {l : List Bx} {r : List (AV × Nat)} {i : Nat} {x : Bx} {p : AV × Nat}, l[i]? = some x → r[i]? = some p → seg (cellsB l r) (i * 2) 2 = some [.I x.room, p.1]
  | x :: l, p :: r, 0, _, _, h1, h2 => by simp at h1 h2; subst h1 h2; simp [cellsB, seg]
  | x :: l, p :: r, i + 1, y, q, h1, h2 => by
    have := cellsB_get (l := l) (r := r) (i := i) (by simpa using h1) (by simpa using h2)
    rw [← this]
    unfold seg
    rw [show (i + 1) * 2 = i * 2 + 2 by omega]
    simp only [cellsB, List.length_cons, List.drop_succ_cons]
    by_cases hq : i * 2 + 2 ≤ (cellsB l r).length
    · rw [if_pos (by omega), if_pos hq]
    · rw [if_neg (by omega), if_neg hq]
  | [], _, i, _, _, h1, _ => by simp at h1
  | _ :: _, [], i, _, _, _, h2 => by simp at h2
theorem cellsB_set : ∀ {l : List Bx} {r : List (AV × Nat)} {i : Nat} {x : Bx} {p : AV × Nat} {q : List Int} {v' : AV} {I' : Nat}, l[i]? = some x → r[i]? = some p → splice (cellsB l r) (i * 2 + 1) [v'] = cellsB (l.set i ⟨x.room, q⟩) (r.set i (v', I'))
  | x :: l, p :: r, 0, _, _, _, _, _, h1, h2 => by simp at h1 h2; subst h1 h2; simp [cellsB, splice]
  | x :: l, p :: r, i + 1, y, q', q, v', I', h1, h2 => by
    have := cellsB_set (l := l) (r := r) (i := i) (q := q) (v' := v') (I' := I') (by simpa using h1) (by simpa using h2)
    simp only [List.set_cons_succ, cellsB]
    rw [← this]
    unfold splice
    rw [show (i + 1) * 2 + 1 = i * 2 + 1 + 2 by omega, show i * 2 + 1 + 2 + [v'].length = i * 2 + 1 + [v'].length + 2 by simp]
    simp [List.take_succ_cons]
  | [], _, i, _, _, _, _, _, h1, _ => by simp at h1
  | _ :: _, [], i, _, _, _, _, _, _, h2 => by simp at h2
def RB (base : Nat) (H : AH) (v : AV) (bs : List Bx) (B : Nat) (rs : List (AV × Nat)) : Prop :=
  rs.length = bs.length ∧ GrS base H v bs.length 2 (cellsB bs rs) B ∧ (∀ (i : Nat) (x : Bx) (p : AV × Nat), bs[i]? = some x → rs[i]? = some p → ISl base H p.1 x.items p.2 ∧ B ∉ grB p.1 p.2) ∧
    (∀ (i j : Nat) (p q : AV × Nat), i ≠ j → rs[i]? = some p → rs[j]? = some q → ∀ b ∈ grB p.1 p.2, b ∉ grB q.1 q.2) ∧ (bs = [] → v = .nils)
def fpB (B : Nat) (rs : List (AV × Nat)) : List Nat := if rs = [] then [] else B :: rs.flatMap fun p => grB p.1 p.2
theorem mem_fpB {B : Nat} {rs : List (AV × Nat)} {b : Nat} : b ∈ fpB B rs ↔ (rs ≠ [] ∧ b = B) ∨ ∃ p ∈ rs, b ∈ grB p.1 p.2 := by
  unfold fpB
  by_cases h : rs = []
  · simp [h]
  · simp [h]
theorem RB.onlyA {base H H' v bs B rs cs} (h : RB base H v bs B rs) (k : Only cs H H') (hc : ∀ b ∈ cs, b < base ∨ b ∉ fpB B rs) : RB base H' v bs B rs := by
  obtain ⟨h1, h2, h3, h4⟩ := h
  refine ⟨h1, ?_, fun i x p hx hp => ⟨(h3 i x p hx hp).1.only k fun b hb hm => ?_, (h3 i x p hx hp).2⟩, h4⟩
  · by_cases hbs : bs = []
    · have := h4.2 hbs
      subst this hbs
      exact ⟨h2.1, h2.2.1, .inl ⟨rfl, rfl⟩⟩
    refine h2.only k fun b hb => ?_
    rcases hc b hb with q | q
    · exact .inl q
    · exact .inr (fun e => q (by rw [e, mem_fpB]; exact .inl ⟨fun e => hbs (List.eq_nil_of_length_eq_zero (by rw [← h1, e]; rfl)), rfl⟩))
  · rcases hc b hb with q | q
    · have := (h3 i x p hx hp).1.mem hm; omega
    · exact q (mem_fpB.2 (.inr ⟨p, List.mem_of_getElem? hp, hm⟩))
theorem RB.only {base H H' v bs B rs cs} (h : RB base H v bs B rs) (k : Only cs H H') (hc : ∀ b ∈ cs, b < base ∨ b ∉ fpB B rs) (_ : bs ≠ []) : RB base H' v bs B rs := h.onlyA k hc
theorem ne_nil_of_get {α : Type} {l : List α} {i : Nat} {x : α} (h : l[i]? = some x) : l ≠ [] := by rintro rfl; simp at h
theorem RB.at {base H v bs B rs} (h : RB base H v bs B rs) {i : Nat} {x : Bx} (hx : bs[i]? = some x) : ∃ p cap, rs[i]? = some p ∧ v = .sl B 0 bs.length cap ∧ base ≤ B ∧ B < H.n ∧ H.loadN B (i * 2) 2 = some [.I x.room, p.1] ∧ (∃ cs, H.bk B = some ⟨cs, true⟩ ∧ i * 2 + 2 ≤ cs.length) ∧ ISl base H p.1 x.items p.2 ∧ B ∉ grB p.1 p.2 := by
  obtain ⟨h1, h2, h3, h4⟩ := h
  have hi := (List.getElem?_eq_some_iff.1 hx).1
  obtain ⟨p, hp⟩ : ∃ p, rs[i]? = some p := ⟨_, List.getElem?_eq_getElem (by omega)⟩
  obtain ⟨q1, q2, q3⟩ := h2
  have hc := cellsB_get hx hp
  refine ⟨p, ?_⟩
  rcases q3 with ⟨_, q4⟩ | ⟨q4, q5, ⟨q6, q7⟩ | ⟨c, ex, q6, q7, q8, q9⟩⟩
  · omega
  · exact ⟨_, hp, q6, q4, q5, by rw [loadN_bk q7]; exact hc, ⟨_, q7, by omega⟩, h3 i x p hx hp⟩
  · refine ⟨_, hp, q6, q4, q5, ?_, ⟨_, q9, by simp; omega⟩, h3 i x p hx hp⟩
    rw [loadN_bk q9, ← hc]
    unfold seg
    rw [if_pos (by simp; omega), if_pos (by omega), List.drop_append_of_le_length (by omega), List.take_append_of_le_length (by simp; omega)]
theorem RB.upd {base : Nat} {H H1 H' : AH} {v : AV} {bs : List Bx} {B : Nat} {rs : List (AV × Nat)} (h : RB base H v bs B rs) {i : Nat} {x : Bx} {p : AV × Nat} (hx : bs[i]? = some x) (hp : rs[i]? = some p) {v' : AV} {I' : Nat} {l : List Int}
    (hi : ISl base H1 v' l I') (hI : (I' = p.2 ∧ p.2 ∈ grB p.1 p.2) ∨ H.n ≤ I') (hb : base ≤ H.n) (ho : Only (grB p.1 p.2) H H1) (hst : H1.store B (i * 2 + 1) [v'] = some H') :
    RB base H' v (bs.set i ⟨x.room, l⟩) B (rs.set i (v', I')) ∧ Only (fpB B rs) H H' ∧ H'.n = H1.n := by
  have hat := h.at hx
  obtain ⟨p', cap, e1, e2, e3, e4, e5, e6, e7, e8⟩ := hat
  rw [hp] at e1; cases e1
  obtain ⟨h1, h2, h3, h4⟩ := h
  have hi' := (List.getElem?_eq_some_iff.1 hx).1
  have g1 : GrS base H1 v bs.length 2 (cellsB bs rs) B := h2.only ho (fun b hb => .inr (fun e => e8 (by rw [← e]; exact hb)))
  obtain ⟨cap', H2, f1, f2, f3, f4, f5, f6⟩ := g1.storeAt (o := i * 2 + 1) (c := [v']) (by simp) (by simp; omega)
  rw [hst] at f2
  cases f2
  have hn : H'.n = H1.n := by
    unfold AH.store at hst
    split at hst
    · split at hst
      · cases hst; rfl
      · cases hst
    · cases hst
  have hmem : ∀ b, b ∈ grB v' I' → b = I' ∧ base ≤ I' ∧ I' < H1.n := fun b hb => hi.mem hb
  have oldm : ∀ (j : Nat) (y : Bx) (q : AV × Nat), bs[j]? = some y → rs[j]? = some q → ∀ b ∈ grB q.1 q.2, b < H.n := fun j y q hy hq b hb => by have := (h3 j y q hy hq).1.mem hb; omega
  have hBI : B ∉ grB v' I' := fun hm => by
    have := hmem B hm
    rcases hI with q | q
    · exact e8 (by rw [this.1, q.1]; exact q.2)
    · omega
  have gety : ∀ j q, rs[j]? = some q → ∃ y, bs[j]? = some y := fun j q hq => ⟨_, List.getElem?_eq_getElem (by have := (List.getElem?_eq_some_iff.1 hq).1; omega)⟩
  refine ⟨⟨by simp [h1], ?_, fun j y q hy hq => ?_, fun j j' q q' hjj hq hq' b hb hb' => ?_, fun e => absurd ((List.set_eq_nil_iff ..).1 e) (ne_nil_of_get hx)⟩, ?_, hn⟩
  · rw [← cellsB_set hx hp]; simpa using f3
  · by_cases hj : j = i
    · subst hj
      rw [List.getElem?_set_self (by omega)] at hy
      rw [List.getElem?_set_self (by omega)] at hq
      cases hy; cases hq
      exact ⟨hi.only f4 (by simpa using hBI), hBI⟩
    · rw [List.getElem?_set_ne (by omega)] at hy hq
      obtain ⟨k1, k2⟩ := h3 j y q hy hq
      exact ⟨(k1.only ho (fun b hb hm => h4.1 i j p q (by omega) hp hq b hb hm)).only f4 (by simpa using k2), k2⟩
  · by_cases hj : j = i
    · subst hj
      rw [List.getElem?_set_self (by omega)] at hq
      cases hq
      rw [List.getElem?_set_ne (by omega)] at hq'
      have := hmem b hb
      obtain ⟨y', hy'⟩ := gety j' q' hq'
      rcases hI with q | q
      · exact h4.1 j j' p q' hjj hp hq' b (by rw [this.1, q.1]; exact q.2) hb'
      · have := oldm j' y' q' hy' hq' b hb'; omega
    · rw [List.getElem?_set_ne (by omega)] at hq
      by_cases hj' : j' = i
      · subst hj'
        rw [List.getElem?_set_self (by omega)] at hq'
        cases hq'
        have := hmem b hb'
        obtain ⟨y, hy⟩ := gety j q hq
        rcases hI with z | z
        · exact h4.1 j j' q p hjj hq hp b hb (by rw [this.1, z.1]; exact z.2)
        · have := oldm j y q hy hq b hb; omega
      · rw [List.getElem?_set_ne (by omega)] at hq'
        exact h4.1 j j' q q' hjj hq hq' b hb hb'
  · refine Only.trans ⟨ho.1, fun b hb hm => ho.2 b hb (fun hq => hm ?_)⟩ ⟨f4.1, fun b hb hm => f4.2 b hb (fun hq => hm ?_)⟩
    · exact mem_fpB.2 (.inr ⟨p, List.mem_of_getElem? hp, hq⟩)
    · exact mem_fpB.2 (.inl ⟨ne_nil_of_get hp, by simpa using hq⟩)
end Go.Proofs.YtcibjklpaljadaaGreat.AM
namespace Go.Proofs.YtcibjklpaljadaaGreat.AM
set_option linter.unusedSimpArgs false
set_option linter.unusedVariables false
set_option maxRecDepth 100000
set_option maxHeartbeats 2000000
open Go
theorem app_newI {H : AH} {b : Nat} {l : List Int} (hb : H.bk b = some ⟨[], true⟩) (hbn : b < H.n) {base : Nat} (hbb : base ≤ b) (hl : l.length ≤ 1000) : ∃ v H' B, aapp H 1 (.sl b 0 0 (.ex 0)) l.length (Ints l) = some (v, H') ∧ Ext H H' ∧ ISl base H' v l B ∧ v.flat = true := by
  by_cases h0 : l.length = 0
  · have : l = [] := List.eq_nil_of_length_eq_zero h0
    subst this
    exact ⟨.sl b 0 0 (.ex 0), H, b, by simp [aapp], Ext.refl _, ⟨by simp, .inr ⟨hbb, hbn, .inl ⟨rfl, rfl, hb⟩⟩⟩, rfl⟩
  · refine ⟨.sl H.n 0 l.length (.lb l.length 1), H.push (Ints l), H.n, ?_, Ext.push _ _, ⟨hl, .inr ⟨by omega, Nat.lt_succ_self _, .inr ⟨l.length, [], rfl, Nat.le_refl _, by simp, by rw [List.append_nil]; exact push_new⟩⟩⟩, rfl⟩
    unfold aapp
    simp only [if_neg h0, Nat.zero_add, Nat.zero_mul]
    rw [if_neg (show ¬ big < l.length by unfold big; omega)]
    have hs : H.loadN b 0 0 = some [] := by rw [loadN_bk hb]; rfl
    simp only [hs, List.nil_append]
    rw [if_neg (by omega)]
theorem K_cloneI {H : AH} {K : AV → AH → Prop} {w : Fk K} {v : AV} {l : List Int} (h : Src H v l) (hl : l.length ≤ 1000) (k : ∀ v' H' B, ISl H.n H' v' l B → Ext H H' → K v' H') : CallF Cd f_slices_Clone_int_int [v] H K w := by
  rw [CallF_eq e_slices_Clone_int_int rfl]
  have e1 := (h.ext (Ext.push H [])).elems
  have e2 := h.sees.1
  obtain ⟨h0, ⟨rfl, rfl⟩ | h'⟩ := h
  · simp
    exact k _ H 0 ⟨by simp, .inl ⟨rfl, rfl⟩⟩ (Ext.refl _)
  · obtain ⟨v', H', B, a1, a2, a3, a4⟩ := app_newI (l := l) (push_new (H := H) (cs := [])) (Nat.lt_succ_self _) (Nat.le_refl _) hl
    rcases h' with ⟨rfl, rfl⟩ | ⟨b1, o1, c1, rfl, _⟩
    · simp only [List.length_nil] at a1
      simp [-AM.elems, e1, e2, a1]
      exact k _ _ B a3 ((Ext.push _ _).trans a2)
    · simp [-AM.elems, e1, e2, a1]
      exact k _ _ B a3 ((Ext.push _ _).trans a2)
theorem cellsB_snoc : ∀ {l : List Bx} {r : List (AV × Nat)} {x : Bx} {p : AV × Nat}, r.length = l.length → cellsB l r ++ [.I x.room, p.1] = cellsB (l ++ [x]) (r ++ [p])
  | [], [], _, _, _ => rfl
  | y :: l, q :: r, x, p, h => by simp only [cellsB, List.cons_append, cellsB_snoc (l := l) (r := r) (x := x) (p := p) (by simpa using h)]
  | [], _ :: _, _, _, h => by simp at h
  | _ :: _, [], _, _, h => by simp at h
theorem R_iboxesCopy_l {l : List Bx} (hll : l.length ≤ 1000) (hit : ∀ x ∈ l, x.items.length ≤ 1000) {base : Nat} {v : AV}
    {Q : Out → Env → AH → Prop} (m i : Nat) (him : i + m = l.length) {G : AH} {g : AV} {B : Nat} {rs : List (AV × Nat)} (hb : base ≤ G.n) (hv : BV (fun b => b < base) G v l) (hg : RB base G g (l.take i) B rs)
    (hQ : ∀ G' g' B' rs', RB base G' g' l B' rs' → (∀ b, b < base → G'.bk b = G.bk b) → G.n ≤ G'.n → Q (.brk 0) [(9, .b false), (3, g'), (6, v), (7, .I l.length), (8, .I l.length)] G') :
    W Cd (.loop c_iboxesCopy_l0) [(3, g), (6, v), (7, .I l.length), (8, .I i)] G Q := by
  induction m generalizing i G g B rs with
  | zero =>
    rw [W_loop_as c_iboxesCopy_l0.eq_1]
    have hi : i = l.length := by omega
    subst hi
    simp
    rw [List.take_length] at hg
    exact hQ G g B rs hg (fun _ _ => rfl) (Nat.le_refl _)
  | succ m ihm =>
    rw [W_loop_as c_iboxesCopy_l0.eq_1]
    have hi : i < l.length := by omega
    obtain ⟨s, hs⟩ : ∃ s, l[i]? = some s := ⟨_, List.getElem?_eq_getElem hi⟩
    have hmem := List.mem_of_getElem? hs
    have htl : (l.take i).length = i := by simp; omega
    obtain ⟨b, o, cap, vi, e1, ob, hbn, l1, iv⟩ := hv.at hs
    have q0 : (G.push [.I s.room, vi]).bk G.n = some ⟨[.I s.room, vi], true⟩ := push_new
    have x0 := Ext.push G [.I s.room, vi]
    have hlt : (i : Int) < l.length := by omega
    subst e1
    simp (disch := omega) [hlt, l1, AH.store, push_put, load_bk q0]
    refine K_cloneI (iv.ext x0).src (hit s hmem) fun vi' H1 B1 g1 x1 => ?_
    have f1 := g1.flat
    have n1 := x1.1
    simp only [push_n] at n1
    have x7 := (x0.trans x1).trans (Ext.push H1 [.I s.room, vi'])
    obtain ⟨r1, r2, r3, r4⟩ := hg
    obtain ⟨g', G', B', a1, a2, a3, a4⟩ := (r2.ext x7).app (by simp; omega) (k := 1) (new := [.I s.room, vi']) rfl (by omega)
    have n4 := a4.1
    simp only [push_n] at n4 a3
    have hmB : ∀ b, b ∈ grB g B → b = B ∧ base ≤ B ∧ B < G.n := fun b hb => r2.mem hb
    have hB : (B' = B ∧ base ≤ B ∧ B < G.n ∧ B ∈ grB g B) ∨ B' = H1.n + 1 := by
      rcases a3 with q | q
      · exact .inl ⟨q.1, (hmB _ q.2).2.1, (hmB _ q.2).2.2, q.2⟩
      · exact .inr q
    have hm1 : ∀ b, b ∈ grB vi' B1 → b = B1 ∧ G.n + 1 ≤ B1 ∧ B1 < H1.n := fun b hb => by have := g1.mem hb; simpa using this
    have old : ∀ (j : Nat) (q : AV × Nat), rs[j]? = some q → ∃ y, (l.take i)[j]? = some y ∧ ISl base G q.1 y.items q.2 ∧ B ∉ grB q.1 q.2 := fun j q hq => by
      obtain ⟨y, hy⟩ : ∃ y, (l.take i)[j]? = some y := ⟨_, List.getElem?_eq_getElem (by have := (List.getElem?_eq_some_iff.1 hq).1; omega)⟩
      exact ⟨y, hy, r3 j y q hy hq⟩
    have oldm : ∀ (j : Nat) (q : AV × Nat), rs[j]? = some q → ∀ b ∈ grB q.1 q.2, b < G.n := fun j q hq b hb => by obtain ⟨y, _, h1, _⟩ := old j q hq; have := h1.mem hb; omega
    have hrl : rs.length = i := by rw [r1, htl]
    simp (disch := omega) [x1, flat_cells f1, flat_tup f1, loadN_push, a1]
    have hk : ∀ b, b < base → G'.bk b = G.bk b := fun b hb' => by
      rw [a4.2 b (by simp; omega) (fun hq => by have := hmB b hq; omega), x7.2 b (by omega)]
    have rb : RB base G' g' (l.take (i + 1)) B' (rs ++ [(vi', B1)]) := by
      rw [take_snoc hs]
      refine ⟨by simp [r1], ?_, fun j y q hy hq => ?_, fun j j' q q' hjj hq hq' b hb1 hb2 => ?_, fun e => by simp at e⟩
      · rw [← cellsB_snoc (by rw [r1])]; simpa using a2
      · by_cases hj : j < i
        · rw [List.getElem?_append_left (by omega)] at hy hq
          obtain ⟨k1, k2⟩ := r3 j y q hy hq
          refine ⟨(k1.only (bs := []) x7.only (by simp)).only a4 (fun b hb1 hb2 => k2 (by rw [← (hmB b hb1).1]; exact hb2)), fun hm => ?_⟩
          rcases hB with z | z
          · exact k2 (by rw [← z.1]; exact hm)
          · have := oldm j q hq _ hm; omega
        · have hj' : j = i := by
            have := (List.getElem?_eq_some_iff.1 hq).1
            rw [List.length_append, hrl, List.length_singleton] at this; omega
          subst hj'
          rw [List.getElem?_append_right (by omega), htl, Nat.sub_self] at hy
          rw [List.getElem?_append_right (by omega), hrl, Nat.sub_self] at hq
          simp at hy hq
          subst hy hq
          refine ⟨?_, fun hm => by have := hm1 _ hm; omega⟩
          have g2 : ISl base H1 vi' s.items B1 := by
            obtain ⟨z1, z2 | ⟨z3, z4⟩⟩ := g1
            · exact ⟨z1, .inl z2⟩
            · exact ⟨z1, .inr ⟨by have : G.n + 1 ≤ B1 := z3; omega, z4⟩⟩
          exact (g2.only (bs := []) (Ext.push H1 [.I s.room, vi']).only (by simp)).only a4 (fun b hb1 hb2 => by have := hmB b hb1; have := hm1 b hb2; omega)
      · have key : ∀ (j : Nat) (q : AV × Nat), (rs ++ [(vi', B1)])[j]? = some q → (j < i ∧ rs[j]? = some q) ∨ (j = i ∧ q = (vi', B1)) := fun j q hq => by
          by_cases hj : j < i
          · rw [List.getElem?_append_left (by omega)] at hq; exact .inl ⟨hj, hq⟩
          · have := (List.getElem?_eq_some_iff.1 hq).1
            rw [List.length_append, hrl, List.length_singleton] at this
            have hj' : j = i := by omega
            subst hj'
            rw [List.getElem?_append_right (by omega), hrl, Nat.sub_self] at hq
            simp at hq
            exact .inr ⟨rfl, hq.symm⟩
        rcases key j q hq with ⟨u1, u2⟩ | ⟨u1, rfl⟩ <;> rcases key j' q' hq' with ⟨w1, w2⟩ | ⟨w1, rfl⟩
        · exact r4.1 j j' q q' hjj u2 w2 b hb1 hb2
        · have := oldm j q u2 b hb1; have := hm1 b hb2; omega
        · have := oldm j' q' w2 b hb2; have := hm1 b hb1; omega
        · omega
    have := ihm (i + 1) (by omega) (G := G') (g := g') (B := B') (rs := rs ++ [(vi', B1)]) (by omega) (hv.mono (by omega) (fun b hb' _ => hk b hb') (fun _ h _ => h)) rb (fun G2 g2 B2 rs2 u1 u2 u3 => hQ G2 g2 B2 rs2 u1 (fun b hb' => (u2 b hb').trans (hk b hb')) (by omega))
    simpa using this
theorem R_iboxesCopy {ok : Nat → Prop} {H : AH} {K : AV → AH → Prop} {w : Fk K} {v : AV} {l : List Bx} (h : BV ok H v l) (hl : l.length ≤ 1000) (hit : ∀ x ∈ l, x.items.length ≤ 1000)
    (k : ∀ v' B rs H', RB H.n H' v' l B rs → Ext H H' → K v' H') : CallF Cd f_iboxesCopy [v] H K w := by
  rw [CallF_eq e_iboxesCopy rfl]
  have hbig := h.big
  simp (disch := omega) [h.alen]
  have := R_iboxesCopy_l hl hit (Q := ?_) l.length 0 (by omega) (base := H.n) (G := H) (g := .nils) (B := H.n) (rs := []) (v := v) (Nat.le_refl _)
    (h.mono (Nat.le_refl _) (fun b _ hb => rfl) (fun b _ hb => hb)) ⟨rfl, GrS.nils, by simp, by simp, fun _ => rfl⟩ ?_
  · simpa using this
  · intro G g B rs u1 u2 u3
    simp
    exact k g B rs G u1 ⟨u3, u2⟩
end Go.Proofs.YtcibjklpaljadaaGreat.AM
namespace Go.Proofs.YtcibjklpaljadaaGreat.AM
set_option linter.unusedSimpArgs false
set_option linter.unusedVariables false
set_option maxRecDepth 100000
set_option maxHeartbeats 2000000
open Go
def RunT (base : Nat) (M : List Nat) (H : AH) (R : Nat) (vv : AV) (V : Nat) (p : AV) (t : Tk) : Prop :=
  H.bk R = some ⟨[vv, p], true⟩ ∧ R < H.n ∧ base ≤ R ∧ GrS base H vv t.vars.length 1 (Ints t.vars) V ∧ R ≠ V ∧ V < H.n ∧ base ≤ V ∧ PL (fun b => b ≠ R ∧ b ≠ V ∧ b ∉ M) H p t.rest.list
def evS (t : Tk) (bs : List Bx) : Option (Int × Int × Int) :=
  match t.rest.list with
  | [] => none
  | s :: _ =>
    if s.k = 4 then (match bs[s.b.toNat]? with | some b => if b.items.length < b.room then some (1, s.b, evE t.vars s.e) else none | none => none)
    else if s.k = 5 then (match bs[s.b.toNat]? with | some b => (match b.items with | [] => none | y :: _ => some (2, s.b, y)) | none => none)
    else if s.k = 7 then some (3, 0, evE t.vars s.e) else none
theorem RunT.only {base M cs H H' R vv V p t} (h : RunT base M H R vv V p t) (k : Only cs H H') (hR : R ∉ cs) (hV : V ∉ cs) (hM : ∀ b ∈ cs, b ∈ M ∨ H.n ≤ b) : RunT base M H' R vv V p t := by
  obtain ⟨h1, h2, h3, h4, h5, h6, h7, h8⟩ := h
  exact ⟨k.bk h2 hR h1, Nat.lt_of_lt_of_le h2 k.1, h3, h4.only k (fun b hb => .inr (fun e => hV (by rw [← e]; exact hb))), h5, Nat.lt_of_lt_of_le h6 k.1, h7,
    h8.mono k.1 (fun b hb hb2 => k.2 b hb2 (fun hm => by rcases hM b hm with q | q; exact hb.2.2 q; omega)) (fun _ h _ => h)⟩
theorem RB.mem' {base H v bs B rs} (h : RB base H v bs B rs) {b : Nat} (hb : b ∈ fpB B rs) : base ≤ b ∧ b < H.n := by
  rw [mem_fpB] at hb
  rcases hb with ⟨h1, rfl⟩ | ⟨p, hp, hb⟩
  · cases rs with
    | nil => exact absurd rfl h1
    | cons q rs =>
      cases bs with
      | nil => have := h.1; simp at this
      | cons x bs =>
        obtain ⟨_, _, _, _, e3, e4, _⟩ := h.at (i := 0) (x := x) rfl
        exact ⟨e3, e4⟩
  · obtain ⟨i, hi⟩ := List.getElem?_of_mem hp
    obtain ⟨y, hy⟩ : ∃ y, bs[i]? = some y := ⟨_, List.getElem?_eq_getElem (by rw [← h.1]; exact (List.getElem?_eq_some_iff.1 hi).1)⟩
    have := (h.2.2.1 i y p hy hi).1.mem hb
    omega
section
variable {H : AH} {K : AV → AH → Prop} {w : Fk K}
theorem PL.head {ok : Nat → Prop} {p : AV} {s : St1} {r : List St1} (h : PL ok H p (s :: r)) : ∃ q sb so c nx, p = .ptr q 0 ∧ ok q ∧ q < H.n ∧ H.bk q = some ⟨[.ptr sb so, nx], true⟩ ∧ ok sb ∧ sb < H.n ∧ H.loadN sb so 8 = some c ∧ S1 ok H c s ∧ nx.flat = true ∧ PL ok H nx r := h
theorem K_irunning_step_end {base : Nat} {M : List Nat} {R V : Nat} {vv p vb fv : AV} {t : Tk} (h : RunT base M H R vv V p t) (hr : t.rest.list = []) (k : K (.I 4) H) : CallF Cd f_irunning_step [.ptr R 0, vb, fv] H K w := by
  rw [CallF_eq e_irunning_step rfl]
  obtain ⟨h1, h2, h3, h4, h5, h6, h7, h8⟩ := h
  rw [hr] at h8
  have : p = .nilp := h8
  subst this
  simp [load_bk h1]
  exact k
theorem K_irunning_step_yield {base : Nat} {M : List Nat} {R V : Nat} {vv p vb fv : AV} {t : Tk} {s : St1} {r : List St1} (h : RunT base M H R vv V p t) (hr : t.rest.list = s :: r) (hk : s.k = 6)
    (k : ∀ p' H', RunT base M H' R vv V p' ⟨t.vars, Sts.of r⟩ → Only [R] H H' → K (.I 2) H') : CallF Cd f_irunning_step [.ptr R 0, vb, fv] H K w := by
  rw [CallF_eq e_irunning_step rfl]
  have h' := h
  obtain ⟨h1, h2, h3, h4, h5, h6, h7, h8⟩ := h
  rw [hr] at h8
  obtain ⟨q, sb, so, c, nx, rfl, oq, hq, gq, osb, hsb, l1, s1, fnx, hp⟩ := h8.head
  obtain ⟨va, vy, vz, rfl, ea, ey, ez⟩ := s1
  have g0 := loadN_get l1 (i := 0) (by omega)
  simp at g0
  have st : H.store R 1 [nx] = some (H.put R (some ⟨[vv, nx], true⟩)) := store_bk h1 (by simp)
  rw [hk] at g0
  simp [load_bk h1, load_bk gq, g0, flat_cells fnx, flat_tup fnx, st]
  have o : Only [R] H (H.put R (some ⟨[vv, nx], true⟩)) := Only.refl.put (by simp)
  refine k nx _ ⟨put_same, by simpa using h2, h3, h4.only o (by simp; omega), h5, by simpa using h6, h7, ?_⟩ o
  rw [Sts.list_of]
  exact PL.mono (H := H) (H' := H.put R (some ⟨[vv, nx], true⟩)) (Nat.le_refl _) (fun b hb _ => by rw [put_bk, if_neg hb.1]) (fun _ h _ => h) hp
theorem loadN_part {H : AH} {b o : Nat} {c : List AV} (h : H.loadN b o 8 = some c) {j n : Nat} (hj : j + n ≤ 8) : H.loadN b (o + j) n = seg c j n := by
  unfold AH.loadN at h ⊢
  obtain ⟨k, hk, hs⟩ := Option.bind_eq_some_iff.1 h
  rw [hk]; exact seg_seg hs hj
theorem K_irunning_step_set {base : Nat} {M : List Nat} {R V : Nat} {vv p vb fv : AV} {t : Tk} {s : St1} {r : List St1} (h : RunT base M H R vv V p t) (hr : t.rest.list = s :: r) (hk : s.k = 1) (hoe : okE 5 s.e = true) (h44 : t.vars.length = 4) (hw : t.vars.all isW = true) (hsv : 0 ≤ s.v ∧ s.v < 4)
    (k : ∀ p' H', RunT base M H' R vv V p' ⟨t.vars.set s.v.toNat (evE t.vars s.e), Sts.of r⟩ → Only [R, V] H H' → K (.I 1) H') : CallF Cd f_irunning_step [.ptr R 0, vb, fv] H K w := by
  rw [CallF_eq e_irunning_step rfl]
  obtain ⟨h1, h2, h3, h4, h5, h6, h7, h8⟩ := h
  rw [hr] at h8
  obtain ⟨q, sb, so, c, nx, rfl, oq, hq, gq, osb, hsb, l1, s1, fnx, hp⟩ := h8.head
  obtain ⟨va, vy, vz, rfl, ea, ey, ez⟩ := s1
  have g0 := loadN_get l1 (i := 0) (by omega)
  have g1 := loadN_get l1 (i := 1) (by omega)
  have g3 : H.loadN sb (so + 3) 3 = some [.I s.e.op, .I s.e.n, va] := (loadN_part l1 (by omega)).trans rfl
  simp at g0 g1
  rw [hk] at g0
  simp [load_bk h1, load_bk gq, g0, g1]
  refine K_iexprEval s.e.args (d := 5) ea hsb g3 h4.iv.sees h44 hw hoe fun H1 x1 => ?_
  have ev : evE t.vars s.e = evE1 t.vars s.e.op s.e.n (evF t.vars s.e.args) := rfl
  rw [ev] at k
  generalize evE1 t.vars s.e.op s.e.n (evF t.vars s.e.args) = X at *
  have n1 := x1.1
  obtain ⟨cap, H2, rfl, s2, s3, s4, s5, s6⟩ := (h4.ext x1).store (i := s.v.toNat) (c := [.I X]) (by omega) rfl
  rw [Nat.mul_one] at s2
  have hR2 : H2.bk R = some ⟨[.sl V 0 t.vars.length cap, .ptr q 0], true⟩ := s4.bk (by omega) (by simp; exact h5) ((x1.2 R h2).trans h1)
  have st : H2.store R 1 [nx] = some (H2.put R (some ⟨[.sl V 0 t.vars.length cap, nx], true⟩)) := store_bk hR2 (by simp)
  simp (disch := omega) [x1, s2, flat_cells fnx, flat_tup fnx, st]
  have n2 := s4.1
  have o : Only [R, V] H (H2.put R (some ⟨[.sl V 0 t.vars.length cap, nx], true⟩)) := ((show Only [R, V] H H1 from ⟨n1, fun b hb _ => x1.2 b hb⟩).trans ⟨n2, fun b hb hm => s4.2 b hb (fun hq => hm (by simp at hq; simp [hq]))⟩).put (by simp)
  have oR : Only [R] H2 (H2.put R (some ⟨[.sl V 0 t.vars.length cap, nx], true⟩)) := Only.refl.put (by simp)
  have e3 : splice (Ints t.vars) (s.v.toNat * 1) [.I X] = Ints (t.vars.set s.v.toNat X) := by rw [Nat.mul_one]; exact Ints_set (by omega)
  rw [e3] at s3
  have hl : (t.vars.set s.v.toNat X).length = t.vars.length := by simp
  refine k nx _ ⟨?_, by simp; omega, h3, by rw [hl]; exact s3.only oR (by simp; omega), h5, by simp; omega, h7, ?_⟩ o
  · rw [put_same]
  · rw [Sts.list_of]
    exact PL.mono (H := H) (H' := H2.put R (some ⟨[.sl V 0 t.vars.length cap, nx], true⟩)) (by simp; omega) (fun b hb hb2 => o.2 b hb2 (by simp; exact ⟨hb.1, hb.2.1⟩)) (fun _ h _ => h) hp
theorem K_irunning_step_blk {base : Nat} {M : List Nat} {R V : Nat} {vv p vb fv : AV} {t : Tk} {s : St1} {r : List St1} (h : RunT base M H R vv V p t) (hM : ∀ b ∈ M, b < H.n) (hr : t.rest.list = s :: r) (hk : s.k = 2 ∨ s.k = 3) (hoe : okE 5 s.e = true) (h44 : t.vars.length = 4) (hw : t.vars.all isW = true)
    (k : ∀ p' H', RunT base M H' R vv V p' ⟨t.vars, blkR s r (evE t.vars s.e)⟩ → Only [R] H H' → K (.I 1) H') : CallF Cd f_irunning_step [.ptr R 0, vb, fv] H K w := by
  rw [CallF_eq e_irunning_step rfl]
  obtain ⟨h1, h2, h3, h4, h5, h6, h7, h8⟩ := h
  rw [hr] at h8
  have h8' := h8
  obtain ⟨q, sb, so, c, nx, rfl, oq, hq, gq, osb, hsb, l1, s1, fnx, hp⟩ := h8.head
  obtain ⟨va, vy, vz, rfl, ea, ey, ez⟩ := s1
  have g0 := loadN_get l1 (i := 0) (by omega)
  have g6 := loadN_get l1 (i := 6) (by omega)
  have g7 := loadN_get l1 (i := 7) (by omega)
  have g3 : H.loadN sb (so + 3) 3 = some [.I s.e.op, .I s.e.n, va] := (loadN_part l1 (by omega)).trans rfl
  simp at g0 g6 g7
  have ev : evE t.vars s.e = evE1 t.vars s.e.op s.e.n (evF t.vars s.e.args) := rfl
  have fin : ∀ (H2 : AH) (p' : AV) (l : List St1), Ext H H2 → PL (fun b => b ≠ R ∧ b ≠ V ∧ b ∉ M) H2 p' l → blkR s r (evE t.vars s.e) = Sts.of l → ∃ H3, H2.store R 1 [p'] = some H3 ∧ K (.I 1) H3 := by
    intro H2 p' l x2 hp2 he
    have n2 := x2.1
    have hR2 : H2.bk R = some ⟨[vv, .ptr q 0], true⟩ := (x2.2 R h2).trans h1
    have st : H2.store R 1 [p'] = some (H2.put R (some ⟨[vv, p'], true⟩)) := store_bk hR2 (by simp)
    refine ⟨_, st, ?_⟩
    have oR : Only [R] H2 (H2.put R (some ⟨[vv, p'], true⟩)) := Only.refl.put (by simp)
    refine k p' _ ⟨put_same, by simp; omega, h3, (h4.ext x2).only oR (by simp; omega), h5, by simp; omega, h7, ?_⟩ ((show Only [R] H H2 from ⟨n2, fun b hb _ => x2.2 b hb⟩).trans oR)
    rw [he, Sts.list_of]
    exact PL.mono (H := H2) (H' := H2.put R (some ⟨[vv, p'], true⟩)) (Nat.le_refl _) (fun b hb _ => by rw [put_bk, if_neg hb.1]) (fun _ h _ => h) hp2
  rw [ev] at fin
  have okn : ∀ (H1 : AH), H.n ≤ H1.n → ∀ b, H1.n ≤ b → b ≠ R ∧ b ≠ V ∧ b ∉ M := fun H1 hn b hb => ⟨by omega, by omega, fun hm => by have := hM b hm; omega⟩
  rcases hk with hk | hk
  · rw [hk] at g0
    simp [load_bk h1, load_bk gq, g0, g7]
    refine K_iexprEval s.e.args (d := 5) ea hsb g3 h4.iv.sees h44 hw hoe fun H1 x1 => ?_
    generalize evE1 t.vars s.e.op s.e.n (evF t.vars s.e.args) = X at *
    have n1 := x1.1
    have g6' : H1.load sb (so + 6) = some vy := by rw [load_ext x1 hsb]; exact g6
    by_cases hX : X = 0
    · simp [x1, hX]
      refine K_iahead (ok := fun b => b ≠ R ∧ b ≠ V ∧ b ∉ M) (f := s.els) (rs := r) H1.n (Nat.le_refl _) (okn H1 n1) (ez.ext x1) (hp.ext x1) fun p' H2 hp2 x2 => ?_
      obtain ⟨H3, e1, e2⟩ := fin H2 p' _ (x1.trans x2) hp2 (by simp [blkR, hk, hX])
      have fp := hp2.flat
      simp [x2, flat_cells fp, flat_tup fp, e1]
      exact e2
    · simp [x1, hX, g6']
      refine K_iahead (ok := fun b => b ≠ R ∧ b ≠ V ∧ b ∉ M) (f := s.body) (rs := r) H1.n (Nat.le_refl _) (okn H1 n1) (ey.ext x1) (hp.ext x1) fun p' H2 hp2 x2 => ?_
      obtain ⟨H3, e1, e2⟩ := fin H2 p' _ (x1.trans x2) hp2 (by simp [blkR, hk, hX])
      have fp := hp2.flat
      simp [x2, flat_cells fp, flat_tup fp, e1]
      exact e2
  · rw [hk] at g0
    simp [load_bk h1, load_bk gq, g0]
    refine K_iexprEval s.e.args (d := 5) ea hsb g3 h4.iv.sees h44 hw hoe fun H1 x1 => ?_
    generalize evE1 t.vars s.e.op s.e.n (evF t.vars s.e.args) = X at *
    have n1 := x1.1
    have g6' : H1.load sb (so + 6) = some vy := by rw [load_ext x1 hsb]; exact g6
    have h1' : H1.bk R = _ := (x1.2 R h2).trans h1
    by_cases hX : X = 0
    · obtain ⟨H3, e1, e2⟩ := fin H1 nx r x1 (hp.ext x1) (by simp [blkR, hk, hX])
      simp [x1, hX, flat_cells fnx, flat_tup fnx, e1]
      exact e2
    · simp [x1, hX, g6', load_bk h1']
      refine K_iahead (ok := fun b => b ≠ R ∧ b ≠ V ∧ b ∉ M) (f := s.body) (rs := s :: r) H1.n (Nat.le_refl _) (okn H1 n1) (ey.ext x1) (h8'.ext x1) fun p' H2 hp2 x2 => ?_
      obtain ⟨H3, e1, e2⟩ := fin H2 p' _ (x1.trans x2) hp2 (by simp [blkR, hk, hX])
      have fp := hp2.flat
      simp [x2, flat_cells fp, flat_tup fp, e1]
      exact e2
def TellOk (ft : FuncId) (cap : List AV) (tb : List Nat) (P : AH → Prop) (TI : Int × Int × Int → AH → AH → Prop) : Prop :=
  ∀ (kd bx x : Int) (H1 : AH) (K1 : AV → AH → Prop) (w1 : Fk K1), P H1 → (∀ H2, TI (kd, bx, x) H1 H2 → Only tb H1 H2 → K1 (.tup []) H2) → CallF Cd ft (.I kd :: .I bx :: .I x :: cap) H1 K1 w1
theorem K_irunning_step_print {base : Nat} {M : List Nat} {R V : Nat} {vv p vb : AV} {t : Tk} {s : St1} {r : List St1} {ft : FuncId} {cap : List AV} {tb : List Nat} {P : AH → Prop} {TI : Int × Int × Int → AH → AH → Prop}
    (h : RunT base M H R vv V p t) (hr : t.rest.list = s :: r) (hk : s.k = 7) (hoe : okE 5 s.e = true) (h44 : t.vars.length = 4) (hw : t.vars.all isW = true)
    (hT : TellOk ft cap tb P TI) (hP : ∀ H1, Ext H H1 → P H1) (hRt : R ∉ tb) (hVt : V ∉ tb) (htM : ∀ b ∈ tb, b ∈ M)
    (k : ∀ p' H1 H2 H', (∀ M2 : List Nat, (∀ b ∈ M2, b ∈ M ∨ H.n ≤ b) → RunT base M2 H' R vv V p' ⟨t.vars, Sts.of r⟩) → Ext H H1 → TI (3, 0, evE t.vars s.e) H1 H2 → Only tb H1 H2 → Only [R] H2 H' → K (.I 1) H') : CallF Cd f_irunning_step [.ptr R 0, vb, .fn ft [] cap] H K w := by
  rw [CallF_eq e_irunning_step rfl]
  have h' := h
  obtain ⟨h1, h2, h3, h4, h5, h6, h7, h8⟩ := h
  rw [hr] at h8
  obtain ⟨q, sb, so, c, nx, rfl, oq, hq, gq, osb, hsb, l1, s1, fnx, hp⟩ := h8.head
  obtain ⟨va, vy, vz, rfl, ea, ey, ez⟩ := s1
  have g0 := loadN_get l1 (i := 0) (by omega)
  have g3 : H.loadN sb (so + 3) 3 = some [.I s.e.op, .I s.e.n, va] := (loadN_part l1 (by omega)).trans rfl
  simp at g0
  rw [hk] at g0
  simp [load_bk h1, load_bk gq, g0]
  refine K_iexprEval s.e.args (d := 5) ea hsb g3 h4.iv.sees h44 hw hoe fun H1 x1 => ?_
  have ev : evE t.vars s.e = evE1 t.vars s.e.op s.e.n (evF t.vars s.e.args) := rfl
  rw [ev] at k
  generalize evE1 t.vars s.e.op s.e.n (evF t.vars s.e.args) = X at *
  have n1 := x1.1
  simp [x1]
  refine hT 3 0 X H1 _ _ (hP H1 x1) fun H2 ti o2 => ?_
  have n2 := o2.1
  have hR2 : H2.bk R = some ⟨[vv, .ptr q 0], true⟩ := o2.bk (by omega) hRt ((x1.2 R h2).trans h1)
  have st : H2.store R 1 [nx] = some (H2.put R (some ⟨[vv, nx], true⟩)) := store_bk hR2 (by simp)
  simp [flat_cells fnx, flat_tup fnx, st]
  have oR : Only [R] H2 (H2.put R (some ⟨[vv, nx], true⟩)) := Only.refl.put (by simp)
  refine k nx H1 H2 _ (fun M2 hM2 => ⟨put_same, by simp; omega, h3, ((h4.ext x1).only o2 (fun b hb => .inr (fun e => hVt (by rw [← e]; exact hb)))).only oR (by simp; omega), h5, by simp; omega, h7, ?_⟩) x1 ti o2 oR
  rw [Sts.list_of]
  exact PL.mono (H := H) (H' := H2.put R (some ⟨[vv, nx], true⟩)) (by simp; omega) (fun b hb hb2 => by rw [put_bk, if_neg hb.1, o2.2 b (by omega) (fun hm => hb.2.2 (htM b hm)), x1.2 b hb2]) (fun b hb hb2 => ⟨hb.1, hb.2.1, fun hm => by rcases hM2 b hm with q | q; exact hb.2.2 q; omega⟩) hp
theorem grB_sub {v : AV} {I b : Nat} (h : b ∈ grB v I) : b = I := by
  cases v <;> simp [grB] at h <;> exact h
theorem fpB_set {B : Nat} {rs : List (AV × Nat)} {i : Nat} {v' : AV} {I' b : Nat} (h : b ∈ fpB B (rs.set i (v', I'))) : b ∈ fpB B rs ∨ b = I' := by
  rw [mem_fpB] at h ⊢
  rcases h with h | ⟨p, hp, hb⟩
  · exact .inl (.inl ⟨fun e => h.1 (by rw [e]; rfl), h.2⟩)
  · rcases List.mem_or_eq_of_mem_set hp with q | q
    · exact .inl (.inr ⟨p, q, hb⟩)
    · subst q; exact .inr (grB_sub hb)
theorem K_irunning_step_send {base : Nat} {M : List Nat} {R V : Nat} {vv p vb : AV} {t : Tk} {s : St1} {r : List St1} {ft : FuncId} {cap : List AV} {tb : List Nat} {P : AH → Prop} {TI : Int × Int × Int → AH → AH → Prop} {bs : List Bx} {B : Nat} {rs : List (AV × Nat)} {bx : Bx}
    (h : RunT base M H R vv V p t) (hr : t.rest.list = s :: r) (hk : s.k = 4) (hoe : okE 5 s.e = true) (h44 : t.vars.length = 4) (hw : t.vars.all isW = true) (hsb : 0 ≤ s.b) (hbase : base ≤ H.n)
    (hb : RB base H vb bs B rs) (hbx : bs[s.b.toNat]? = some bx) (hroom : bx.items.length ≤ bx.room ∧ bx.room ≤ 100) (hbl : bs.length ≤ 1000)
    (hRf : R ∉ fpB B rs) (hVf : V ∉ fpB B rs) (hfM : ∀ b ∈ fpB B rs, b ∈ M) (htf : ∀ b ∈ tb, b ∉ fpB B rs) (htn : ∀ b ∈ tb, b < H.n)
    (hT : TellOk ft cap tb P TI) (hP : ∀ H1, Only (fpB B rs) H H1 → P H1) (hRt : R ∉ tb) (hVt : V ∉ tb) (htM : ∀ b ∈ tb, b ∈ M)
    (k1 : (bx.items.length : Int) = bx.room → ∀ H1, Ext H H1 → K (.I 3) H1)
    (k2 : (bx.items.length : Int) < bx.room → ∀ p' rs' H1 H2 H', (∀ M2 : List Nat, (∀ b ∈ M2, b ∈ M ∨ H.n ≤ b) → RunT base M2 H' R vv V p' ⟨t.vars, Sts.of r⟩) → RB base H' vb (bs.set s.b.toNat ⟨bx.room, bx.items ++ [evE t.vars s.e]⟩) B rs' → (∀ b ∈ fpB B rs', b ∈ fpB B rs ∨ H.n ≤ b ∧ b < H1.n) →
      Only (fpB B rs) H H1 → TI (1, s.b, evE t.vars s.e) H1 H2 → Only tb H1 H2 → Only [R] H2 H' → K (.I 1) H') : CallF Cd f_irunning_step [.ptr R 0, vb, .fn ft [] cap] H K w := by
  rw [CallF_eq e_irunning_step rfl]
  obtain ⟨h1, h2, h3, h4, h5, h6, h7, h8⟩ := h
  rw [hr] at h8
  obtain ⟨q, sb, so, c, nx, rfl, oq, hq, gq, osb, hsb', l1, s1, fnx, hp⟩ := h8.head
  obtain ⟨va, vy, vz, rfl, ea, ey, ez⟩ := s1
  have g0 := loadN_get l1 (i := 0) (by omega)
  have g2 := loadN_get l1 (i := 2) (by omega)
  have g3 : H.loadN sb (so + 3) 3 = some [.I s.e.op, .I s.e.n, va] := (loadN_part l1 (by omega)).trans rfl
  simp at g0 g2
  rw [hk] at g0
  simp [load_bk h1, load_bk gq, g0]
  refine K_iexprEval s.e.args (d := 5) ea hsb' g3 h4.iv.sees h44 hw hoe fun H1 x1 => ?_
  have ev : evE t.vars s.e = evE1 t.vars s.e.op s.e.n (evF t.vars s.e.args) := rfl
  rw [ev] at k2
  generalize evE1 t.vars s.e.op s.e.n (evF t.vars s.e.args) = X at *
  have n1 := x1.1
  have hi := (List.getElem?_eq_some_iff.1 hbx).1
  have hne : bs ≠ [] := fun e => by rw [e] at hi; simp at hi
  have hb1 : RB base H1 vb bs B rs := hb.only x1.only (cs := []) (by simp) hne
  obtain ⟨pr, bcap, e1, e2, e3, e4, e5, e6, e7, e8⟩ := hb1.at hbx
  have g2' : H1.load sb (so + 2) = some (.I s.b) := by rw [load_ext x1 hsb']; exact g2
  subst e2
  simp (disch := omega) [x1, g2']
  refine K_iBox_put e5 e4 e6 e7 (by omega) e8 hroom (fun hq => ?_) (fun hlt v' I' H2 H3 i1 i2 i3 i4 i5 i6 i7 => ?_)
  · simp
    exact k1 hq H1 x1
  · obtain ⟨u1, u2, u3⟩ := hb1.upd hbx e1 i1 i2 (by omega) i3 i6
    have o3 : Only (fpB B rs) H H3 := (show Only (fpB B rs) H H1 from ⟨n1, fun b hb _ => x1.2 b hb⟩).trans u2
    have n3 := o3.1
    have hsf : sb ∉ fpB B rs := fun hm => osb.2.2 (hfM sb hm)
    have g2'' : H3.load sb (so + 2) = some (.I s.b) := by unfold AH.load at g2' ⊢; rw [u2.2 sb (by omega) hsf]; exact g2'
    simp [g2'']
    refine hT 1 s.b X H3 _ _ (hP H3 o3) fun H4 ti o4 => ?_
    have n4 := o4.1
    have hR4 : H4.bk R = some ⟨[vv, .ptr q 0], true⟩ := o4.bk (by omega) hRt (o3.bk h2 hRf h1)
    have st : H4.store R 1 [nx] = some (H4.put R (some ⟨[vv, nx], true⟩)) := store_bk hR4 (by simp)
    simp [flat_cells fnx, flat_tup fnx, st]
    have oR : Only [R] H4 (H4.put R (some ⟨[vv, nx], true⟩)) := Only.refl.put (by simp)
    have hI : I' ∈ M ∨ H.n ≤ I' := by
      rcases i2 with z | z
      · refine .inl (hfM I' ?_)
        rw [mem_fpB]
        exact .inr ⟨pr, List.mem_of_getElem? e1, by rw [z.1]; exact z.2⟩
      · exact .inr (by omega)
    have hIf : ∀ b, b ∈ fpB B (rs.set s.b.toNat (v', I')) → b ∈ fpB B rs ∨ H.n ≤ b := fun b hb => by
      rcases fpB_set hb with z | z
      · exact .inl z
      · subst z
        rcases i2 with y | y
        · refine .inl ?_
          rw [mem_fpB]
          exact .inr ⟨pr, List.mem_of_getElem? e1, by rw [y.1]; exact y.2⟩
        · exact .inr (by omega)
    have hne' : bs.set s.b.toNat (⟨bx.room, bx.items ++ [X]⟩ : Bx) ≠ [] := fun e => by
      have := congrArg List.length e
      simp at this; exact hne this
    have rb4 := (u1.only o4 (fun b hb => .inr (fun hm => by rcases hIf b hm with z | z; exact htf b hb z; have := htn b hb; omega)) hne').only oR (fun b hb => .inr (fun hm => by
      simp at hb; subst hb
      rcases hIf b hm with z | z
      · exact hRf z
      · omega)) hne'
    refine k2 hlt nx _ H3 H4 _ (fun M2 hM2 => ⟨put_same, by simp; omega, h3, ((h4.only o3 (fun b hb => .inr (fun e => hVf (by rw [← e]; exact hb)))).only o4 (fun b hb => .inr (fun e => hVt (by rw [← e]; exact hb)))).only oR (by simp; omega), h5, by simp; omega, h7, ?_⟩) rb4 (fun b hb => ?_) o3 ti o4 oR
    · rw [Sts.list_of]
      exact PL.mono (H := H) (H' := H4.put R (some ⟨[vv, nx], true⟩)) (by simp; omega) (fun b hb hb2 => by rw [put_bk, if_neg hb.1, o4.2 b (by omega) (fun hm => hb.2.2 (htM b hm)), o3.2 b hb2 (fun hm => hb.2.2 (hfM b hm))]) (fun b hb hb2 => ⟨hb.1, hb.2.1, fun hm => by rcases hM2 b hm with q | q; exact hb.2.2 q; omega⟩) hp
    · rcases hIf b hb with z | z
      · exact .inl z
      · exact .inr ⟨z, (u1.mem' hb).2⟩
theorem K_irunning_step_recv {base : Nat} {M : List Nat} {R V : Nat} {vv p vb : AV} {t : Tk} {s : St1} {r : List St1} {ft : FuncId} {cap : List AV} {tb : List Nat} {P : AH → Prop} {TI : Int × Int × Int → AH → AH → Prop} {bs : List Bx} {B : Nat} {rs : List (AV × Nat)} {bx : Bx}
    (h : RunT base M H R vv V p t) (hr : t.rest.list = s :: r) (hk : s.k = 5) (h44 : t.vars.length = 4) (hsv : 0 ≤ s.v ∧ s.v < 4) (hsb : 0 ≤ s.b) (hbase : base ≤ H.n)
    (hb : RB base H vb bs B rs) (hbx : bs[s.b.toNat]? = some bx) (hbl : bs.length ≤ 1000)
    (hRf : R ∉ fpB B rs) (hVf : V ∉ fpB B rs) (hfM : ∀ b ∈ fpB B rs, b ∈ M) (htf : ∀ b ∈ tb, b ∉ fpB B rs) (htn : ∀ b ∈ tb, b < H.n)
    (hT : TellOk ft cap tb P TI) (hP : ∀ H1, Only (V :: fpB B rs) H H1 → P H1) (hRt : R ∉ tb) (hVt : V ∉ tb) (htM : ∀ b ∈ tb, b ∈ M)
    (k1 : bx.items = [] → K (.I 3) H)
    (k2 : ∀ y q, bx.items = y :: q → ∀ p' rs' H1 H2 H', (∀ M2 : List Nat, (∀ b ∈ M2, b ∈ M ∨ H.n ≤ b) → RunT base M2 H' R vv V p' ⟨t.vars.set s.v.toNat y, Sts.of r⟩) → RB base H' vb (bs.set s.b.toNat ⟨bx.room, q⟩) B rs' → (∀ b ∈ fpB B rs', b ∈ fpB B rs) →
      Only (V :: fpB B rs) H H1 → TI (2, s.b, y) H1 H2 → Only tb H1 H2 → Only [R] H2 H' → K (.I 1) H') : CallF Cd f_irunning_step [.ptr R 0, vb, .fn ft [] cap] H K w := by
  rw [CallF_eq e_irunning_step rfl]
  obtain ⟨h1, h2, h3, h4, h5, h6, h7, h8⟩ := h
  rw [hr] at h8
  obtain ⟨q, sb, so, c, nx, rfl, oq, hq, gq, osb, hsb', l1, s1, fnx, hp⟩ := h8.head
  obtain ⟨va, vy, vz, rfl, ea, ey, ez⟩ := s1
  have g0 := loadN_get l1 (i := 0) (by omega)
  have g1 := loadN_get l1 (i := 1) (by omega)
  have g2 := loadN_get l1 (i := 2) (by omega)
  simp at g0 g1 g2
  rw [hk] at g0
  have hi := (List.getElem?_eq_some_iff.1 hbx).1
  have hne : bs ≠ [] := fun e => by rw [e] at hi; simp at hi
  obtain ⟨pr, bcap, e1, e2, e3, e4, e5, e6, e7, e8⟩ := hb.at hbx
  subst e2
  simp (disch := omega) [load_bk h1, load_bk gq, g0, g2]
  refine K_iBox_take e5 e4 e6 e7 e8 (fun hq => ?_) (fun y qq hyq v' H2 H3 i1 i3 i4 i5 i6 i7 => ?_)
  · simp
    exact k1 hq
  · have i3' : Only (grB pr.1 pr.2) H H2 := by rw [i4]; exact i3
    obtain ⟨u1, u2, u3⟩ := hb.upd hbx e1 i1 (.inl ⟨rfl, by rw [i4]; simp⟩) hbase i3' i6
    have n3 := u2.1
    have hsf : sb ∉ fpB B rs := fun hm => osb.2.2 (hfM sb hm)
    have g1'' : H3.load sb (so + 1) = some (.I s.v) := by unfold AH.load at g1 ⊢; rw [u2.2 sb hsb' hsf]; exact g1
    have hR3 : H3.bk R = some ⟨[vv, .ptr q 0], true⟩ := u2.bk h2 hRf h1
    obtain ⟨cap', H4, rfl, s2, s3, s4, s5, s6⟩ := (h4.only u2 (fun b hb => .inr (fun e => hVf (by rw [← e]; exact hb)))).store (i := s.v.toNat) (c := [.I y]) (by omega) rfl
    rw [Nat.mul_one] at s2
    have n4 := s4.1
    have g2'' : H4.load sb (so + 2) = some (.I s.b) := by
      unfold AH.load at g2 ⊢
      rw [s4.2 sb (by omega) (by simp; exact osb.2.1), u2.2 sb hsb' hsf]; exact g2
    have o4 : Only (V :: fpB B rs) H H4 := ⟨by omega, fun b hb hm => by
      simp only [List.mem_cons, not_or] at hm
      rw [s4.2 b (by omega) (by simp; exact hm.1), u2.2 b hb hm.2]⟩
    simp (disch := omega) [load_bk hR3, g1'', s2, g2'']
    refine hT 2 s.b y H4 _ _ (hP H4 o4) fun H5 ti o5 => ?_
    have n5 := o5.1
    have hR5 : H5.bk R = some ⟨[.sl V 0 t.vars.length cap', .ptr q 0], true⟩ := o5.bk (by omega) hRt (s4.bk (by omega) (by simp; exact h5) hR3)
    have st : H5.store R 1 [nx] = some (H5.put R (some ⟨[.sl V 0 t.vars.length cap', nx], true⟩)) := store_bk hR5 (by simp)
    simp [flat_cells fnx, flat_tup fnx, st]
    have oR : Only [R] H5 (H5.put R (some ⟨[.sl V 0 t.vars.length cap', nx], true⟩)) := Only.refl.put (by simp)
    have hIf : ∀ b, b ∈ fpB B (rs.set s.b.toNat (v', pr.2)) → b ∈ fpB B rs := fun b hb => by
      rcases fpB_set hb with z | z
      · exact z
      · subst z
        rw [mem_fpB]
        exact .inr ⟨pr, List.mem_of_getElem? e1, by rw [i4]; simp⟩
    have hne' : bs.set s.b.toNat (⟨bx.room, qq⟩ : Bx) ≠ [] := fun e => by
      have := congrArg List.length e
      simp at this; exact hne this
    have rb5 := ((u1.only s4 (fun b hb => .inr (fun hm => by simp at hb; subst hb; exact hVf (hIf _ hm))) hne').only o5 (fun b hb => .inr (fun hm => htf b hb (hIf b hm))) hne').only oR (fun b hb => .inr (fun hm => by
      simp at hb; subst hb; exact hRf (hIf _ hm))) hne'
    have e9 : splice (Ints t.vars) (s.v.toNat * 1) [.I y] = Ints (t.vars.set s.v.toNat y) := by rw [Nat.mul_one]; exact Ints_set (by omega)
    rw [e9] at s3
    have hl : (t.vars.set s.v.toNat y).length = t.vars.length := by simp
    refine k2 y qq hyq nx _ H4 H5 _ (fun M2 hM2 => ⟨put_same, by simp; omega, h3, by rw [hl]; exact (s3.only o5 (fun b hb => .inr (fun e => hVt (by rw [← e]; exact hb)))).only oR (by simp; omega), h5, by simp; omega, h7, ?_⟩) rb5 (fun b hb => hIf b hb) o4 ti o5 oR
    rw [Sts.list_of]
    exact PL.mono (H := H) (H' := H5.put R (some ⟨[.sl V 0 t.vars.length cap', nx], true⟩)) (by simp; omega) (fun b hb hb2 => by rw [put_bk, if_neg hb.1, o5.2 b (by omega) (fun hm => hb.2.2 (htM b hm)), o4.2 b hb2 (fun hm => by rcases List.mem_cons.1 hm with z | z; exact hb.2.1 z; exact hb.2.2 (hfM b z))]) (fun b hb hb2 => ⟨hb.1, hb.2.1, fun hm => by rcases hM2 b hm with q | q; exact hb.2.2 q; omega⟩) hp
end
end Go.Proofs.YtcibjklpaljadaaGreat.AM
namespace Go.Proofs.YtcibjklpaljadaaGreat.AM
set_option linter.unusedSimpArgs false
set_option linter.unusedVariables false
set_option maxRecDepth 100000
set_option maxHeartbeats 2000000
open Go
end Go.Proofs.YtcibjklpaljadaaGreat.AM
namespace Go.Proofs.YtcibjklpaljadaaGreat.AM
set_option linter.unusedSimpArgs false
set_option linter.unusedVariables false
set_option maxRecDepth 100000
set_option maxHeartbeats 2000000
open Go
theorem RunT.more {base M M' H R vv V p t} (h : RunT base M H R vv V p t) (hM : ∀ b ∈ M', b ∈ M ∨ H.n ≤ b) : RunT base M' H R vv V p t := by
  obtain ⟨h1, h2, h3, h4, h5, h6, h7, h8⟩ := h
  exact ⟨h1, h2, h3, h4, h5, h6, h7, h8.mono (Nat.le_refl _) (fun _ _ _ => rfl) (fun b hb hn => ⟨hb.1, hb.2.1, fun hm => by rcases hM b hm with q | q; exact hb.2.2 q; omega⟩)⟩
theorem Only.mono {bs cs H H'} (h : Only bs H H') (k : ∀ b ∈ bs, b ∈ cs ∨ H.n ≤ b) : Only cs H H' := ⟨h.1, fun b hb hm => h.2 b hb (fun q => by rcases k b q with q | q; exact hm q; omega)⟩
def Told (TI : Int × Int × Int → AH → AH → Prop) (tb : List Nat) (e : Option (Int × Int × Int)) (H1 H2 : AH) : Prop :=
  match e with
  | none => H2 = H1
  | some e => TI e H1 H2 ∧ Only tb H1 H2
theorem vaBs_facts {l : List Bx} (h : vaBs l = true) : l.length ≤ 3 ∧ ∀ x ∈ l, 1 ≤ x.room ∧ x.room ≤ 4 ∧ (x.items.length : Int) ≤ x.room ∧ x.items.all isW = true := by
  unfold vaBs at h
  simp only [Bool.and_eq_true, decide_eq_true_eq] at h
  refine ⟨h.2, fun x hx => ?_⟩
  have := List.all_eq_true.1 h.1 x hx
  unfold vaB at this
  simp only [Bool.and_eq_true, decide_eq_true_eq] at this
  exact ⟨this.1.1, this.1.2.1, this.1.2.2, this.2⟩
section
variable {H : AH} {K : AV → AH → Prop} {w : Fk K}
theorem K_irunning_step {base : Nat} {M : List Nat} {R V : Nat} {vv p vb : AV} {t : Tk} {ft : FuncId} {cap : List AV} {tb : List Nat} {P : AH → Prop} {TI : Int × Int × Int → AH → AH → Prop} {bs : List Bx} {B : Nat} {rs : List (AV × Nat)}
    (h : RunT base M H R vv V p t) (hM : ∀ b ∈ M, b < H.n) (hva : vaT 3 t = true) (hbase : base ≤ H.n) (hb : RB base H vb bs B rs) (hbs : vaBs bs = true) (hrd : rdT t bs.length = true)
    (hRf : R ∉ fpB B rs) (hVf : V ∉ fpB B rs) (hfM : ∀ b ∈ fpB B rs, b ∈ M) (htf : ∀ b ∈ tb, b ∉ fpB B rs) (htn : ∀ b ∈ tb, b < H.n)
    (hT : TellOk ft cap tb P TI) (hP : ∀ H1, Only (V :: fpB B rs) H H1 → P H1) (hRt : R ∉ tb) (hVt : V ∉ tb) (htM : ∀ b ∈ tb, b ∈ M)
    (k : ∀ p' rs' H1 H2 H', (∀ M2 : List Nat, (∀ b ∈ M2, b ∈ M ∨ (H1.n ≤ b ∧ b < H2.n) ∨ b ∈ fpB B rs') → RunT base M2 H' R vv V p' (stepP t bs).1) → RB base H' vb (stepP t bs).2.1 B rs' → (∀ b ∈ fpB B rs', b ∈ fpB B rs ∨ H.n ≤ b ∧ b < H1.n) →
      Only (V :: fpB B rs) H H1 → Told TI tb (evS t bs) H1 H2 → Only [R, V] H2 H' → K (.I (stepP t bs).2.2.2) H') : CallF Cd f_irunning_step [.ptr R 0, vb, .fn ft [] cap] H K w := by
  obtain ⟨f1, f2, f3, f4⟩ := vaT_facts hva
  obtain ⟨g1, g2⟩ := vaBs_facts hbs
  have plain : ∀ (H' : AH) (p' : AV) (t' : Tk), RunT base M H' R vv V p' t' → ∀ M2 : List Nat, (∀ b ∈ M2, b ∈ M ∨ (H.n ≤ b ∧ b < H.n) ∨ b ∈ fpB B rs) → RunT base M2 H' R vv V p' t' := fun H' p' t' r M2 hM2 => r.more (fun b hb => by
    rcases hM2 b hb with q | q | q
    · exact .inl q
    · omega
    · exact .inl (hfM b q))
  cases hr : t.rest.list with
  | nil =>
    refine K_irunning_step_end h hr ?_
    have e1 : stepP t bs = (t, bs, [], 4) := by unfold stepP; rw [hr]
    have e2 : evS t bs = none := by unfold evS; rw [hr]
    rw [e1, e2] at k
    exact k p rs H H H (plain _ _ _ h) hb (fun b hb => .inl hb) Only.refl rfl Only.refl
  | cons s r =>
    obtain ⟨q1, q2, q3, q4, q5⟩ := okT_facts (f3 s (by rw [hr]; exact List.mem_cons_self)).1
    have hcase : s.k = 1 ∨ s.k = 2 ∨ s.k = 3 ∨ s.k = 4 ∨ s.k = 5 ∨ s.k = 6 ∨ s.k = 7 := by omega
    rcases hcase with k1 | k2 | k3 | k4 | k5 | k6 | k7
    · have e1 : stepP t bs = (⟨t.vars.set s.v.toNat (evE t.vars s.e), Sts.of r⟩, bs, [], 1) := by unfold stepP; rw [hr]; simp [k1]
      have e2 : evS t bs = none := by unfold evS; rw [hr]; simp [k1]
      rw [e1, e2] at k
      refine K_irunning_step_set h hr k1 (q2 (by omega) (by omega)) f1 f2 (q3 (by omega)) fun p' H' r1 o1 => ?_
      exact k p' rs H H H' (plain _ _ _ r1) (hb.onlyA o1 (fun b hb => .inr (fun hm => by simp at hb; rcases hb with rfl | rfl; exact hRf hm; exact hVf hm))) (fun b hb => .inl hb) Only.refl rfl o1
    all_goals try
      have e1 : stepP t bs = (⟨t.vars, blkR s r (evE t.vars s.e)⟩, bs, [], 1) := by unfold stepP; rw [hr]; simp [*]
      have e2 : evS t bs = none := by unfold evS; rw [hr]; simp [*]
      rw [e1, e2] at k
      refine K_irunning_step_blk h hM hr (by omega) (q2 (by omega) (by omega)) f1 f2 fun p' H' r1 o1 => ?_
      exact k p' rs H H H' (plain _ _ _ r1) (hb.onlyA o1 (fun b hb => .inr (fun hm => by simp at hb; rcases hb with rfl; exact hRf hm))) (fun b hb => .inl hb) Only.refl rfl (o1.mono (fun b hb => .inl (by simp at hb; simp [hb])))
    · have hsb := q4 (.inl k4)
      have hlt : s.b < bs.length := by unfold rdT at hrd; rw [hr] at hrd; simpa [k4] using hrd
      obtain ⟨bx, hbx⟩ : ∃ x, bs[s.b.toNat]? = some x := ⟨_, List.getElem?_eq_getElem (by omega)⟩
      have hx := g2 bx (List.mem_of_getElem? hbx)
      refine K_irunning_step_send h hr k4 (q2 (by omega) (by omega)) f1 f2 hsb.1 hbase hb hbx (by omega) (by omega) hRf hVf hfM htf htn hT (fun H1 o => hP H1 (o.mono (fun b hb => .inl (List.mem_cons_of_mem _ hb)))) hRt hVt htM ?_ ?_
      · intro hfull H1 x1
        have hnl : ¬ (bx.items.length : Int) < bx.room := by omega
        have e1 : stepP t bs = (t, bs, [], 3) := by unfold stepP talkP; rw [hr]; simp [k4, hbx, hnl]
        have e2 : evS t bs = none := by unfold evS; rw [hr]; simp [k4, hbx, hnl]
        rw [e1, e2] at k
        exact k p rs H1 H1 H1 (fun M2 hM2 => (h.only (x1.only (bs := [])) (by simp) (by simp) (by simp)).more (fun b hb => by
          rcases hM2 b hb with q | q | q
          · exact .inl q
          · omega
          · exact .inl (hfM b q))) (hb.onlyA (x1.only (bs := [])) (by simp)) (fun b hb => .inl hb) x1.only rfl Only.refl
      · intro hroom p' rs' H1 H2 H' r1 b1 m1 o1 ti o2 o3
        have e1 : stepP t bs = (⟨t.vars, Sts.of r⟩, bs.set s.b.toNat ⟨bx.room, bx.items ++ [evE t.vars s.e]⟩, [], 1) := by unfold stepP talkP; rw [hr]; simp [k4, hbx, hroom]
        have e2 : evS t bs = some (1, s.b, evE t.vars s.e) := by unfold evS; rw [hr]; simp [k4, hbx, hroom]
        rw [e1, e2] at k
        have hfp : ∀ b ∈ fpB B rs', b ∈ M ∨ H.n ≤ b := fun b hb => by
          rcases m1 b hb with q | q
          · exact .inl (hfM b q)
          · exact .inr q.1
        have n1 := o1.1
        exact k p' rs' H1 H2 H' (fun M2 hM2 => r1 M2 (fun b hb => by
          rcases hM2 b hb with q | q | q
          · exact .inl q
          · exact .inr (by omega)
          · exact hfp b q)) b1 m1 (o1.mono (fun b hb => .inl (List.mem_cons_of_mem _ hb))) ⟨ti, o2⟩ (o3.mono (fun b hb => .inl (by simp at hb; simp [hb])))
    · have hsb := q4 (.inr k5)
      have hlt : s.b < bs.length := by unfold rdT at hrd; rw [hr] at hrd; simpa [k5] using hrd
      obtain ⟨bx, hbx⟩ : ∃ x, bs[s.b.toNat]? = some x := ⟨_, List.getElem?_eq_getElem (by omega)⟩
      refine K_irunning_step_recv h hr k5 f1 (q3 (.inr k5)) hsb.1 hbase hb hbx (by omega) hRf hVf hfM htf htn hT hP hRt hVt htM ?_ ?_
      · intro hemp
        have e1 : stepP t bs = (t, bs, [], 3) := by unfold stepP talkP; rw [hr]; simp [k5, hbx, hemp]
        have e2 : evS t bs = none := by unfold evS; rw [hr]; simp [k5, hbx, hemp]
        rw [e1, e2] at k
        exact k p rs H H H (plain _ _ _ h) hb (fun b hb => .inl hb) Only.refl rfl Only.refl
      · intro y q hy p' rs' H1 H2 H' r1 b1 m1 o1 ti o2 o3
        have e1 : stepP t bs = (⟨t.vars.set s.v.toNat y, Sts.of r⟩, bs.set s.b.toNat ⟨bx.room, q⟩, [], 1) := by unfold stepP talkP; rw [hr]; simp [k5, hbx, hy]
        have e2 : evS t bs = some (2, s.b, y) := by unfold evS; rw [hr]; simp [k5, hbx, hy]
        rw [e1, e2] at k
        have n1 := o1.1
        exact k p' rs' H1 H2 H' (fun M2 hM2 => r1 M2 (fun b hb => by
          rcases hM2 b hb with q | q | q
          · exact .inl q
          · exact .inr (by omega)
          · exact .inl (hfM b (m1 b q)))) b1 (fun b hb => .inl (m1 b hb)) o1 ⟨ti, o2⟩ (o3.mono (fun b hb => .inl (by simp at hb; simp [hb])))
    · have e1 : stepP t bs = (⟨t.vars, Sts.of r⟩, bs, [], 2) := by unfold stepP; rw [hr]; simp [k6]
      have e2 : evS t bs = none := by unfold evS; rw [hr]; simp [k6]
      rw [e1, e2] at k
      refine K_irunning_step_yield h hr k6 fun p' H' r1 o1 => ?_
      exact k p' rs H H H' (plain _ _ _ r1) (hb.onlyA o1 (fun b hb => .inr (fun hm => by simp at hb; rcases hb with rfl; exact hRf hm))) (fun b hb => .inl hb) Only.refl rfl (o1.mono (fun b hb => .inl (by simp at hb; simp [hb])))
    · have e1 : stepP t bs = (⟨t.vars, Sts.of r⟩, bs, [evE t.vars s.e], 1) := by unfold stepP; rw [hr]; simp [k7]
      have e2 : evS t bs = some (3, 0, evE t.vars s.e) := by unfold evS; rw [hr]; simp [k7]
      rw [e1, e2] at k
      refine K_irunning_step_print h hr k7 (q2 (by omega) (by omega)) f1 f2 hT (fun H1 x => hP H1 x.only) hRt hVt htM fun p' H1 H2 H' r1 x1 ti o2 o3 => ?_
      have n1 := x1.1
      refine k p' rs H1 H2 H' (fun M2 hM2 => r1 M2 (fun b hb => by
          rcases hM2 b hb with q | q | q
          · exact .inl q
          · exact .inr (by omega)
          · exact .inl (hfM b q))) ?_ (fun b hb => .inl hb) x1.only ⟨ti, o2⟩ (o3.mono (fun b hb => .inl (by simp at hb; simp [hb])))
      refine ((hb.onlyA (x1.only (bs := [])) (by simp)).onlyA o2 (fun b hb => .inr (htf b hb))).onlyA o3 (fun b hb => .inr (fun hm => by simp at hb; rcases hb with rfl; exact hRf hm))
end
end Go.Proofs.YtcibjklpaljadaaGreat.AM
namespace Go.Proofs.YtcibjklpaljadaaGreat.AM
set_option linter.unusedSimpArgs false
set_option linter.unusedVariables false
open Go
theorem okS_mono {boxes : Int} : ∀ {f : Sts} {n m : Int}, n ≤ m → okS boxes n f = true → okS boxes m f = true
  | .nil, _, _, _, _ => rfl
  | .cons k v b e y z r, n, m, hnm, h => by
    simp only [okS, Bool.and_eq_true] at h ⊢
    refine ⟨?_, okS_mono hnm h.2⟩
    have h1 := h.1
    unfold okS1 at h1 ⊢
    simp only [Bool.and_eq_true, Bool.or_eq_true, decide_eq_true_eq] at h1 ⊢
    refine ⟨h1.1, ?_⟩
    rcases h1.2 with q | q
    · exact .inl q
    · exact .inr ⟨⟨by omega, okS_mono (by omega) q.1.2⟩, okS_mono (by omega) q.2⟩
def vaW (boxes : Int) (s : St1) : Bool := vaS boxes (Sts.of [s])
theorem vaW_iff {boxes : Int} {s : St1} : vaW boxes s = true ↔ okT boxes 3 s = true ∧ ctT s ≤ 16 := by
  constructor
  · exact vaS_one
  · intro h
    unfold vaW vaS
    simp only [Bool.and_eq_true, decide_eq_true_eq]
    refine ⟨?_, ?_⟩
    · rw [okS_mem]; simpa using h.1
    · rw [ctS_of]; simpa using h.2
theorem vaT_iff {boxes : Int} {t : Tk} : vaT boxes t = true ↔ t.vars.length = 4 ∧ t.vars.all isW = true ∧ ∀ s ∈ t.rest.list, vaW boxes s = true := by
  unfold vaT
  simp only [Bool.and_eq_true, decide_eq_true_eq, List.all_eq_true, vaW, and_assoc]
theorem va_body {boxes : Int} {s : St1} (h : vaW boxes s = true) : (∀ x ∈ s.body.list, vaW boxes x = true) ∧ (∀ x ∈ s.els.list, vaW boxes x = true) := by
  obtain ⟨h1, h2⟩ := vaW_iff.1 h
  have h1' := h1
  unfold okT okS1 at h1
  simp only [Bool.and_eq_true, Bool.or_eq_true, decide_eq_true_eq] at h1
  unfold ctT at h2
  rcases h1.2 with q | q
  · obtain ⟨e1, e2⟩ := stV_leaf h1.1 q.1 q.2
    have e1 : s.body.list = [] := List.eq_nil_of_length_eq_zero e1
    have e2 : s.els.list = [] := List.eq_nil_of_length_eq_zero e2
    rw [e1, e2]; simp
  · refine ⟨fun x hx => vaW_iff.2 ⟨?_, ?_⟩, fun x hx => vaW_iff.2 ⟨?_, ?_⟩⟩
    · have := okS_mono (m := 3) (by omega) q.1.2
      rw [okS_mem] at this
      exact List.all_eq_true.1 this x hx
    · have := ctS_mem hx; unfold ctT; omega
    · have := okS_mono (m := 3) (by omega) q.2
      rw [okS_mem] at this
      exact List.all_eq_true.1 this x hx
    · have := ctS_mem hx; unfold ctT; omega
theorem body_len {boxes : Int} {s : St1} (h : vaW boxes s = true) : s.body.list.length ≤ 16 ∧ s.els.list.length ≤ 16 := by
  obtain ⟨_, h2⟩ := vaW_iff.1 h
  unfold ctT at h2
  have := @len_ctS s.body
  have := @len_ctS s.els
  omega
theorem blkR_va {boxes : Int} {s : St1} {r : List St1} {x : Int} (hs : vaW boxes s = true) (hr : ∀ x ∈ r, vaW boxes x = true) : (∀ y ∈ (blkR s r x).list, vaW boxes y = true) ∧ (blkR s r x).list.length ≤ r.length + 17 := by
  obtain ⟨h1, h2⟩ := va_body hs
  have := body_len hs
  unfold blkR
  split
  · rw [Sts.list_of]
    split
    · exact ⟨fun y hy => by rcases List.mem_append.1 hy with q | q; exact h1 y q; exact hr y q, by simp; omega⟩
    · exact ⟨fun y hy => by rcases List.mem_append.1 hy with q | q; exact h2 y q; exact hr y q, by simp; omega⟩
  · split
    · rw [Sts.list_of]
      refine ⟨fun y hy => ?_, by simp; omega⟩
      rcases List.mem_append.1 hy with q | q
      · exact h1 y q
      · rcases List.mem_cons.1 q with rfl | q
        · exact hs
        · exact hr y q
    · rw [Sts.list_of]; exact ⟨hr, by omega⟩
theorem all_set {l : List Int} {i : Nat} {x : Int} (h : l.all isW = true) (hx : isW x = true) : (l.set i x).all isW = true := by
  rw [List.all_eq_true] at h ⊢
  intro y hy
  rcases List.mem_or_eq_of_mem_set hy with q | q
  · exact h y q
  · subst q; exact hx
theorem vaBs_set {bs : List Bx} {i : Nat} {x : Bx} (h : vaBs bs = true) (hx : vaB x = true) : vaBs (bs.set i x) = true := by
  unfold vaBs at h ⊢
  simp only [Bool.and_eq_true, decide_eq_true_eq, List.length_set] at h ⊢
  refine ⟨?_, h.2⟩
  rw [List.all_eq_true] at h ⊢
  intro y hy
  rcases List.mem_or_eq_of_mem_set hy with q | q
  · exact h.1 y q
  · subst q; exact hx
theorem rooms_set {bs : List Bx} {i : Nat} {b : Bx} {l : List Int} (h : bs[i]? = some b) : (bs.set i ⟨b.room, l⟩).map (·.room) = bs.map (·.room) := by
  rw [List.map_set]
  refine List.ext_getElem? fun j => ?_
  by_cases hj : j = i
  · subst hj
    have := (List.getElem?_eq_some_iff.1 h).1
    rw [List.getElem?_set_self (by simpa using this), List.getElem?_map, h]; rfl
  · rw [List.getElem?_set_ne (by omega)]
theorem step_keeps {boxes : Int} {t : Tk} {bs : List Bx} (ht : vaT boxes t = true) (hb : vaBs bs = true) (hrd : rdT t bs.length = true) :
    vaT boxes (stepP t bs).1 = true ∧ vaBs (stepP t bs).2.1 = true ∧ (stepP t bs).2.1.length = bs.length ∧ (stepP t bs).2.1.map (·.room) = bs.map (·.room) ∧ (stepP t bs).2.2.1.all isW = true ∧ (stepP t bs).1.rest.list.length ≤ t.rest.list.length + 16 := by
  obtain ⟨h1, h2, h3⟩ := vaT_iff.1 ht
  cases hr : t.rest.list with
  | nil =>
    have e : stepP t bs = (t, bs, [], 4) := by unfold stepP; rw [hr]
    rw [e]; exact ⟨ht, hb, rfl, rfl, rfl, by simp [hr]⟩
  | cons s r =>
    rw [hr] at h3
    have hs := h3 s List.mem_cons_self
    have hrr : ∀ x ∈ r, vaW boxes x = true := fun x hx => h3 x (List.mem_cons_of_mem _ hx)
    obtain ⟨q1, q2, q3, q4, q5⟩ := okT_facts (vaW_iff.1 hs).1
    have hev : s.k ≠ 5 → s.k ≠ 6 → isW (evE t.vars s.e) = true := fun a b => evE_word h2 s.e.args (d := 5) (q2 a b)
    have tl : ∀ l : List Int, l.length = 4 → l.all isW = true → vaT boxes ⟨l, Sts.of r⟩ = true := fun l a b => vaT_iff.2 ⟨a, b, by rw [Sts.list_of]; exact hrr⟩
    have hcase : s.k = 1 ∨ s.k = 2 ∨ s.k = 3 ∨ s.k = 4 ∨ s.k = 5 ∨ s.k = 6 ∨ s.k = 7 := by omega
    by_cases k45 : s.k = 4 ∨ s.k = 5
    · have hlt : s.b < bs.length := by unfold rdT at hrd; rw [hr] at hrd; simp at hrd; omega
      have hsb := q4 k45
      obtain ⟨bx, hbx⟩ : ∃ x, bs[s.b.toNat]? = some x := ⟨_, List.getElem?_eq_getElem (by omega)⟩
      have hbv : vaB bx = true := by
        unfold vaBs at hb
        simp only [Bool.and_eq_true] at hb
        exact List.all_eq_true.1 hb.1 bx (List.mem_of_getElem? hbx)
      have e : stepP t bs = ((talkP t bs s r).1, (talkP t bs s r).2.1, [], (talkP t bs s r).2.2) := by unfold stepP; rw [hr]; simp [k45]
      rw [e]
      have same : talkP t bs s r = (t, bs, 3) → vaT boxes (talkP t bs s r).1 = true ∧ vaBs (talkP t bs s r).2.1 = true ∧ (talkP t bs s r).2.1.length = bs.length ∧ (talkP t bs s r).2.1.map (·.room) = bs.map (·.room) ∧ ([] : List Int).all isW = true ∧ (talkP t bs s r).1.rest.list.length ≤ (s :: r).length + 16 := by
        intro h; rw [h]; exact ⟨ht, hb, rfl, rfl, rfl, by simp [hr]⟩
      unfold vaB at hbv
      simp only [Bool.and_eq_true, decide_eq_true_eq] at hbv
      rcases k45 with k4 | k5
      · by_cases hroom : (bx.items.length : Int) < bx.room
        · have e2 : talkP t bs s r = (⟨t.vars, Sts.of r⟩, bs.set s.b.toNat ⟨bx.room, bx.items ++ [evE t.vars s.e]⟩, 1) := by unfold talkP; simp [k4, hbx, hroom]
          rw [e2]
          refine ⟨tl _ h1 h2, vaBs_set hb ?_, by simp, rooms_set hbx, rfl, by simp [Sts.list_of]; omega⟩
          unfold vaB
          simp only [Bool.and_eq_true, decide_eq_true_eq, List.length_append, List.length_singleton, List.all_append, List.all_cons, List.all_nil, Bool.and_true]
          exact ⟨by omega, hbv.2, hev (by omega) (by omega)⟩
        · exact same (by unfold talkP; simp [k4, hbx, hroom])
      · cases hi : bx.items with
        | nil => exact same (by unfold talkP; simp [k5, hbx, hi])
        | cons y q =>
          have e2 : talkP t bs s r = (⟨t.vars.set s.v.toNat y, Sts.of r⟩, bs.set s.b.toNat ⟨bx.room, q⟩, 1) := by unfold talkP; simp [k5, hbx, hi]
          rw [hi] at hbv
          simp only [List.all_cons, Bool.and_eq_true, List.length_cons] at hbv
          rw [e2]
          refine ⟨tl _ (by simpa using h1) (all_set h2 hbv.2.1), vaBs_set hb ?_, by simp, rooms_set hbx, rfl, by simp [Sts.list_of]; omega⟩
          unfold vaB
          simp only [Bool.and_eq_true, decide_eq_true_eq]
          exact ⟨by omega, hbv.2.2⟩
    · by_cases k23 : s.k = 2 ∨ s.k = 3
      · have e : stepP t bs = (⟨t.vars, blkR s r (evE t.vars s.e)⟩, bs, [], 1) := by unfold stepP; rw [hr]; simp [k45, k23]
        rw [e]
        obtain ⟨b1, b2⟩ := blkR_va (x := evE t.vars s.e) hs hrr
        exact ⟨vaT_iff.2 ⟨h1, h2, b1⟩, hb, rfl, rfl, rfl, by simp; omega⟩
      by_cases k1 : s.k = 1
      · have e : stepP t bs = (⟨t.vars.set s.v.toNat (evE t.vars s.e), Sts.of r⟩, bs, [], 1) := by unfold stepP; rw [hr]; simp [k1]
        rw [e]
        exact ⟨tl _ (by simpa using h1) (all_set h2 (hev (by omega) (by omega))), hb, rfl, rfl, rfl, by simp [Sts.list_of]; omega⟩
      by_cases k6 : s.k = 6
      · have e : stepP t bs = (⟨t.vars, Sts.of r⟩, bs, [], 2) := by unfold stepP; rw [hr]; simp [k6]
        rw [e]
        exact ⟨tl _ h1 h2, hb, rfl, rfl, rfl, by simp [Sts.list_of]; omega⟩
      · have k7 : s.k = 7 := by omega
        have e : stepP t bs = (⟨t.vars, Sts.of r⟩, bs, [evE t.vars s.e], 1) := by unfold stepP; rw [hr]; simp [k7]
        rw [e]
        exact ⟨tl _ h1 h2, hb, rfl, rfl, by simpa using hev (by omega) (by omega), by simp [Sts.list_of]; omega⟩
def prE : Option (Int × Int × Int) → List Int
  | some e => if e.1 = 3 then [e.2.2] else []
  | none => []
theorem step_prints {t : Tk} {bs : List Bx} (hk : ∀ s ∈ t.rest.list, 1 ≤ s.k ∧ s.k ≤ 7) : (stepP t bs).2.2.1 = prE (evS t bs) := by
  unfold stepP evS
  cases hr : t.rest.list with
  | nil => rfl
  | cons s r =>
    have h17 := hk s (by rw [hr]; exact List.mem_cons_self)
    have hcase : s.k = 1 ∨ s.k = 2 ∨ s.k = 3 ∨ s.k = 4 ∨ s.k = 5 ∨ s.k = 6 ∨ s.k = 7 := by omega
    rcases hcase with k1 | k2 | k3 | k4 | k5 | k6 | k7
    · simp [k1, prE]
    · simp [k2, prE]
    · simp [k3, prE]
    · simp [k4]
      cases bs[s.b.toNat]? with
      | none => rfl
      | some b => simp; split <;> rfl
    · simp [k5]
      cases bs[s.b.toNat]? with
      | none => rfl
      | some b => cases hb : b.items <;> simp [hb, prE]
    · simp [k6, prE]
    · simp [k7, prE]
end Go.Proofs.YtcibjklpaljadaaGreat.AM
namespace Go.Proofs.YtcibjklpaljadaaGreat.AM
set_option linter.unusedSimpArgs false
set_option linter.unusedVariables false
set_option maxRecDepth 100000
set_option maxHeartbeats 2000000
open Go
theorem cellsB_LF {base : Nat} {H : AH} : ∀ {l : List Bx} {r : List (AV × Nat)}, r.length = l.length → (∀ (i : Nat) (x : Bx) (p : AV × Nat), l[i]? = some x → r[i]? = some p → ISl base H p.1 x.items p.2) → LF 2 (BC (fun b => base ≤ b) H) l (cellsB l r)
  | [], [], _, _ => rfl
  | x :: l, p :: r, h, k => ⟨[.I x.room, p.1], cellsB l r, rfl, rfl, ⟨p.1, rfl, (k 0 x p rfl rfl).grs.iv⟩, cellsB_LF (by simpa using h) (fun i y q h1 h2 => k (i + 1) y q (by simpa using h1) (by simpa using h2))⟩
  | [], _ :: _, h, _ => by simp at h
  | _ :: _, [], h, _ => by simp at h
theorem RB.bv {base H v bs B rs} (h : RB base H v bs B rs) : BV (fun b => base ≤ b) H v bs := ⟨_, h.2.1.slc, cellsB_LF h.1 (fun i x p hx hp => (h.2.2.1 i x p hx hp).1)⟩
theorem ISl.up {base base' G v l I} (h : ISl base G v l I) (hb : base' ≤ base) : ISl base' G v l I := by
  obtain ⟨h1, h2 | ⟨h3, h4⟩⟩ := h
  · exact ⟨h1, .inl h2⟩
  · exact ⟨h1, .inr ⟨by omega, h4⟩⟩
theorem GrS.up {base base' G v n sz cs B} (h : GrS base G v n sz cs B) (hb : base' ≤ base) : GrS base' G v n sz cs B := by
  obtain ⟨h1, h0, h2 | ⟨h3, h4⟩⟩ := h
  · exact ⟨h1, h0, .inl h2⟩
  · exact ⟨h1, h0, .inr ⟨by omega, h4⟩⟩
theorem RB.up {base base' H v bs B rs} (h : RB base H v bs B rs) (hb : base' ≤ base) : RB base' H v bs B rs :=
  ⟨h.1, h.2.1.up hb, fun i x p hx hp => ⟨(h.2.2.1 i x p hx hp).1.up hb, (h.2.2.1 i x p hx hp).2⟩, h.2.2.2⟩
theorem RB.mem {base H v bs B rs} (h : RB base H v bs B rs) {b : Nat} (hb : b ∈ fpB B rs) : base ≤ b ∧ b < H.n := by
  rw [mem_fpB] at hb
  rcases hb with ⟨h1, rfl⟩ | ⟨p, hp, hb⟩
  · cases rs with
    | nil => exact absurd rfl h1
    | cons q rs =>
      cases bs with
      | nil => have := h.1; simp at this
      | cons x bs =>
        obtain ⟨_, _, _, _, e3, e4, _⟩ := h.at (i := 0) (x := x) rfl
        exact ⟨e3, e4⟩
  · obtain ⟨i, hi⟩ := List.getElem?_of_mem hp
    obtain ⟨y, hy⟩ : ∃ y, bs[i]? = some y := ⟨_, List.getElem?_eq_getElem (by rw [← h.1]; exact (List.getElem?_eq_some_iff.1 hi).1)⟩
    have := (h.2.2.1 i y p hy hi).1.mem hb
    omega
def tSa : AC := match c_iTaskStep.body with | .seq a _ => a | _ => .skip
def tSb : AC := match c_iTaskStep.body with | .seq _ (.seq b _) => b | _ => .skip
def tSc : AC := match c_iTaskStep.body with | .seq _ (.seq _ (.seq c _)) => c | _ => .skip
def tSd : AC := match c_iTaskStep.body with | .seq _ (.seq _ (.seq _ d)) => d | _ => .skip
theorem eq_tS : Cd f_iTaskStep = some ⟨2, .seq tSa (.seq tSb (.seq tSc tSd)), [.c 4 2, .t 5, .t 6, .t 7]⟩ := rfl
section
variable {ok : Nat → Prop} {H : AH} {K : AV → AH → Prop} {w : Fk K} {c : List AV} {t : Tk} {s : St1} {r : List St1} {bs : List Bx} {vb : AV}
end
end Go.Proofs.YtcibjklpaljadaaGreat.AM
namespace Go.Proofs.YtcibjklpaljadaaGreat.AM
set_option linter.unusedSimpArgs false
set_option linter.unusedVariables false
set_option maxRecDepth 100000
set_option maxHeartbeats 2000000
open Go
attribute [-simp] AM.elems
section
variable {ok : Nat → Prop} {H : AH} {K : AV → AH → Prop} {w : Fk K} {e : Ex} {va vv : AV} {vars : List Int}
end
theorem SV.elems {ok H v f} (h : SV ok H v f) : ∃ cs, AM.elems H 8 v = some cs ∧ SF ok H f cs ∧ cs.length = f.list.length * 8 := by
  obtain ⟨cs, h1, h2⟩ := h
  exact ⟨cs, h1.elems, h2, h1.2.1⟩
section
variable {ok o1 o2 : Nat → Prop} {H : AH} {K : AV → AH → Prop} {w : Fk K} {c : List AV} {b : Bx} {x : Int}
end
end Go.Proofs.YtcibjklpaljadaaGreat.AM
namespace Go.Proofs.YtcibjklpaljadaaGreat.AM
set_option linter.unusedSimpArgs false
set_option linter.unusedVariables false
open Go
structure Wd where
  tasks : List Tk
  boxes : List Bx
  turn : Int
  idle : Int
  out : List Int
deriving DecidableEq, Inhabited
def TV (ok : Nat → Prop) (H : AH) (v : AV) (l : List Tk) : Prop := ∃ ca, SlC ok H v l.length 2 ca ∧ LF 2 (TC ok H) l ca
theorem TV.mono {ok ok' : Nat → Prop} {H H' v l} (h : TV ok H v l) (hn : H.n ≤ H'.n) (hk : ∀ b, ok b → b < H.n → H'.bk b = H.bk b) (ho : ∀ b, ok b → b < H.n → ok' b) : TV ok' H' v l := by
  obtain ⟨ca, h1, h2⟩ := h
  exact ⟨ca, h1.mono hn hk ho, h2.imp fun c a h => h.mono hn hk ho⟩
theorem TV.ext {ok H H' c t} (h : TV ok H c t) (k : Ext H H') : TV ok H' c t := h.mono k.1 (fun b _ hb => k.2 b hb) (fun _ h _ => h)
theorem TV.alen {ok H v l} (h : TV ok H v l) : alen v = some l.length := h.choose_spec.1.alen
theorem TV.flat {ok H v l} (h : TV ok H v l) : v.flat = true := h.choose_spec.1.flat
theorem TV.big {ok H v l} (h : TV ok H v l) : l.length ≤ 8589934592 := h.choose_spec.1.1
theorem TV.at {ok H v l} (h : TV ok H v l) {i : Nat} {x : Tk} (hi : l[i]? = some x) : ∃ b o cap vv vr, v = .sl b o l.length cap ∧ ok b ∧ b < H.n ∧ H.loadN b (o + i * 2) 2 = some [vv, vr] ∧ IV ok H vv x.vars ∧ SV ok H vr x.rest := by
  obtain ⟨ca, h1, h2⟩ := h
  have hl := (List.getElem?_eq_some_iff.1 hi).1
  obtain ⟨b, o, cap, e, ob, hb, hs⟩ := h1.at hl
  obtain ⟨c, hc, vv, vr, rfl, i1, i2⟩ := h2.get hi
  exact ⟨b, o, cap, vv, vr, e, ob, hb, by rw [hs _ _ (by omega)]; exact hc, i1, i2⟩
def WC (ok : Nat → Prop) (H : AH) (c : List AV) (w : Wd) : Prop := ∃ vt vb vo, c = [vt, vb, .I w.turn, .I w.idle, vo] ∧ TV ok H vt w.tasks ∧ BV ok H vb w.boxes ∧ IV ok H vo w.out
theorem WC.mono {ok ok' : Nat → Prop} {H H' c t} (h : WC ok H c t) (hn : H.n ≤ H'.n) (hk : ∀ b, ok b → b < H.n → H'.bk b = H.bk b) (ho : ∀ b, ok b → b < H.n → ok' b) : WC ok' H' c t := by
  obtain ⟨vt, vb, vo, e, h1, h2, h3⟩ := h
  exact ⟨vt, vb, vo, e, h1.mono hn hk ho, h2.mono hn hk ho, h3.mono hn hk ho⟩
theorem WC.ext {ok H H' c t} (h : WC ok H c t) (k : Ext H H') : WC ok H' c t := h.mono k.1 (fun b _ hb => k.2 b hb) (fun _ h _ => h)
def vaWd (w : Wd) : Bool := decide (1 ≤ w.tasks.length ∧ w.tasks.length ≤ 3 ∧ 0 ≤ w.turn ∧ w.turn < w.tasks.length ∧ 0 ≤ w.idle ∧ w.idle ≤ w.tasks.length) && w.out.all isW && vaBs w.boxes && w.tasks.all (vaT w.boxes.length)
theorem vaWd_iff {w : Wd} : vaWd w = true ↔ (1 ≤ w.tasks.length ∧ w.tasks.length ≤ 3 ∧ 0 ≤ w.turn ∧ w.turn < w.tasks.length ∧ 0 ≤ w.idle ∧ w.idle ≤ w.tasks.length) ∧ w.out.all isW = true ∧ vaBs w.boxes = true ∧ ∀ t ∈ w.tasks, vaT w.boxes.length t = true := by
  unfold vaWd
  simp only [Bool.and_eq_true, decide_eq_true_eq, List.all_eq_true, and_assoc]
def nextT (many turn idle code : Int) : Int × Int :=
  if code = 1 then (turn, 0) else if code = 2 then ((turn + 1) % many, 0) else ((turn + 1) % many, idle + 1)
def stepW (w : Wd) : Wd :=
  match w.tasks[w.turn.toNat]? with
  | none => w
  | some t =>
    let r := stepP t w.boxes
    let n := nextT w.tasks.length w.turn w.idle r.2.2.2
    ⟨w.tasks.set w.turn.toNat r.1, r.2.1, n.1, n.2, w.out ++ r.2.2.1⟩
def runW : Nat → Wd → Wd
  | 0, w => w
  | n + 1, w => if w.idle < w.tasks.length then runW n (stepW w) else w
theorem rd_of_va {t : Tk} {many : Nat} (h : vaT many t = true) : rdT t many = true := by
  unfold rdT
  cases hr : t.rest.list with
  | nil => rfl
  | cons s r =>
    obtain ⟨_, _, h3⟩ := vaT_iff.1 h
    have := okT_facts (vaW_iff.1 (h3 s (by rw [hr]; exact List.mem_cons_self))).1
    simp only [Bool.or_eq_true, decide_eq_true_eq]
    by_cases hk : s.k = 4 ∨ s.k = 5
    · exact .inr (this.2.2.2.1 hk).2
    · exact .inl (by omega)
theorem okS_boxes {a b : Int} (hab : a ≤ b) : ∀ {f : Sts} {n : Int}, okS a n f = true → okS b n f = true
  | .nil, _, _ => rfl
  | .cons k v bx e y z r, n, h => by
    simp only [okS, Bool.and_eq_true] at h ⊢
    refine ⟨?_, okS_boxes hab h.2⟩
    have h1 := h.1
    unfold okS1 at h1 ⊢
    simp only [Bool.and_eq_true, Bool.or_eq_true, decide_eq_true_eq] at h1 ⊢
    refine ⟨?_, ?_⟩
    · have h2 := h1.1
      unfold stV at h2 ⊢
      split
      · rename_i q; rw [if_pos q] at h2; exact h2
      rename_i q; rw [if_neg q] at h2
      split
      · rename_i q; rw [if_pos q] at h2; exact h2
      rename_i q; rw [if_neg q] at h2
      split
      · rename_i q; rw [if_pos q] at h2; exact h2
      rename_i q; rw [if_neg q] at h2
      split
      · rename_i q; rw [if_pos q] at h2
        simp only [Bool.and_eq_true, decide_eq_true_eq] at h2 ⊢
        exact ⟨by omega, h2.2⟩
      rename_i q; rw [if_neg q] at h2
      split
      · rename_i q; rw [if_pos q] at h2
        simp only [Bool.and_eq_true, decide_eq_true_eq] at h2 ⊢
        exact ⟨by omega, h2.2⟩
      rename_i q; rw [if_neg q] at h2
      exact h2
    · rcases h1.2 with q | q
      · exact .inl q
      · exact .inr ⟨⟨q.1.1, okS_boxes hab q.1.2⟩, okS_boxes hab q.2⟩
theorem vaT_boxes {a b : Int} (hab : a ≤ b) {t : Tk} (h : vaT a t = true) : vaT b t = true := by
  obtain ⟨h1, h2, h3⟩ := vaT_iff.1 h
  refine vaT_iff.2 ⟨h1, h2, fun s hs => ?_⟩
  have := h3 s hs
  unfold vaW vaS at this ⊢
  simp only [Bool.and_eq_true] at this ⊢
  exact ⟨okS_boxes hab this.1, this.2⟩
theorem ctS_sum_le2 {boxes : Int} {t : Tk} (h : vaT boxes t = true) : ctS t.rest ≤ 16 * t.rest.list.length := by
  rw [ctS_sum]
  obtain ⟨_, _, h3⟩ := vaT_iff.1 h
  have : ∀ l : List St1, (∀ s ∈ l, vaW boxes s = true) → (l.map ctT).sum ≤ 16 * l.length := by
    intro l
    induction l with
    | nil => simp
    | cons s l ih =>
      intro hl
      have h1 := (vaW_iff.1 (hl s List.mem_cons_self)).2
      have h2 := ih (fun x hx => hl x (List.mem_cons_of_mem _ hx))
      simp only [List.map_cons, List.sum_cons, List.length_cons]
      omega
  exact this _ h3
theorem step_code' {boxes : Int} {t : Tk} {bs : List Bx} (ht : vaT boxes t = true) : 1 ≤ (stepP t bs).2.2.2 ∧ (stepP t bs).2.2.2 ≤ 4 := by
  unfold stepP
  cases hr : t.rest.list with
  | nil => simp
  | cons s r =>
    simp only
    split
    · unfold talkP
      split
      · simp
      · split
        · split <;> simp
        · split <;> simp
    split
    · simp
    split
    · simp
    split <;> simp
def uL : List St1 → Nat
  | [] => 0
  | s :: r => max (ctT s + r.length) (uL r)
theorem len_uL : ∀ l : List St1, l.length ≤ uL l
  | [] => by simp
  | s :: r => by
    have h1 : 1 ≤ ctT s := by
      unfold ctT; omega
    simp only [uL, List.length_cons]
    omega
theorem uL_app : ∀ (a b : List St1), uL (a ++ b) ≤ max ((a.map ctT).sum + b.length) (uL b)
  | [], b => by simp; omega
  | s :: a, b => by
    have := uL_app a b
    have h2 : a.length ≤ (a.map ctT).sum := by
      have := @len_ctS (Sts.of a)
      rw [Sts.list_of, ctS_of] at this; exact this
    simp only [List.cons_append, uL, List.map_cons, List.sum_cons, List.length_append]
    omega
theorem uL_le {l : List St1} {m : Nat} (h : ∀ s ∈ l, ctT s ≤ m) : uL l ≤ m + l.length := by
  induction l with
  | nil => simp [uL]
  | cons s r ih =>
    have := ih (fun x hx => h x (List.mem_cons_of_mem _ hx))
    have h1 := h s List.mem_cons_self
    simp only [uL, List.length_cons]; omega
theorem uL_tail {s : St1} {r : List St1} : uL r ≤ uL (s :: r) := by simp only [uL]; omega
theorem uL_blk {s : St1} {r : List St1} {x : Int} : uL (blkR s r x).list ≤ uL (s :: r) := by
  have hy : (s.body.list.map ctT).sum = ctS s.body := (ctS_sum ..).symm
  have hz : (s.els.list.map ctT).sum = ctS s.els := (ctS_sum ..).symm
  have a1 := uL_app s.body.list r
  have a2 := uL_app s.els.list r
  have a3 := uL_app s.body.list (s :: r)
  have e : ctT s = 1 + ctS s.body + ctS s.els := rfl
  unfold blkR
  split
  · rw [Sts.list_of]
    split
    · simp only [uL] at *; omega
    · simp only [uL] at *; omega
  · split
    · rw [Sts.list_of]
      simp only [uL, List.length_cons] at *; omega
    · rw [Sts.list_of]; exact uL_tail
theorem step_uL {t : Tk} {bs : List Bx} : uL (stepP t bs).1.rest.list ≤ uL t.rest.list := by
  unfold stepP
  cases hr : t.rest.list with
  | nil => simp [hr]
  | cons s r =>
    have tl := @uL_tail s r
    simp only
    split
    · unfold talkP
      split
      · rw [hr]; exact Nat.le_refl _
      · split
        · split
          · simpa [Sts.list_of] using tl
          · rw [hr]; exact Nat.le_refl _
        · split
          · rw [hr]; exact Nat.le_refl _
          · simpa [Sts.list_of] using tl
    split
    · exact uL_blk
    split
    · simpa [Sts.list_of] using tl
    split <;> simpa [Sts.list_of] using tl
theorem ctS_uL {boxes : Int} {t : Tk} (h : vaT boxes t = true) : ctS t.rest ≤ 16 * uL t.rest.list := by
  have := ctS_sum_le2 h
  have := len_uL t.rest.list
  omega
theorem stepW_keeps {w : Wd} (h : vaWd w = true) (hi : w.idle < w.tasks.length) : vaWd (stepW w) = true ∧ (stepW w).tasks.length = w.tasks.length ∧ (stepW w).boxes.length = w.boxes.length ∧ (stepW w).boxes.map (·.room) = w.boxes.map (·.room) ∧
    (∃ p, (stepW w).out = w.out ++ p ∧ p.length ≤ 1) ∧ (∀ m, (∀ t ∈ w.tasks, uL t.rest.list ≤ m) → ∀ t ∈ (stepW w).tasks, uL t.rest.list ≤ m) := by
  obtain ⟨h1, h2, h3, h4⟩ := vaWd_iff.1 h
  obtain ⟨t, ht⟩ : ∃ t, w.tasks[w.turn.toNat]? = some t := ⟨_, List.getElem?_eq_getElem (by omega)⟩
  have hm := List.mem_of_getElem? ht
  have hva := h4 t hm
  obtain ⟨u1, u2, u3, u4, u5, u6⟩ := step_keeps hva h3 (rd_of_va hva)
  have hc := step_code' (bs := w.boxes) hva
  have e : stepW w = ⟨w.tasks.set w.turn.toNat (stepP t w.boxes).1, (stepP t w.boxes).2.1, (nextT w.tasks.length w.turn w.idle (stepP t w.boxes).2.2.2).1, (nextT w.tasks.length w.turn w.idle (stepP t w.boxes).2.2.2).2, w.out ++ (stepP t w.boxes).2.2.1⟩ := by
    unfold stepW; rw [ht]
  have hn : 0 ≤ (nextT w.tasks.length w.turn w.idle (stepP t w.boxes).2.2.2).1 ∧ (nextT w.tasks.length w.turn w.idle (stepP t w.boxes).2.2.2).1 < w.tasks.length ∧ 0 ≤ (nextT w.tasks.length w.turn w.idle (stepP t w.boxes).2.2.2).2 ∧ (nextT w.tasks.length w.turn w.idle (stepP t w.boxes).2.2.2).2 ≤ w.tasks.length := by
    have m1 := Int.emod_nonneg (w.turn + 1) (show (w.tasks.length : Int) ≠ 0 by omega)
    have m2 := Int.emod_lt_of_pos (w.turn + 1) (show 0 < (w.tasks.length : Int) by omega)
    unfold nextT
    split
    · omega
    split <;> omega
  rw [e]
  refine ⟨vaWd_iff.2 ⟨by simp only [List.length_set]; omega, ?_, u2, fun x hx => ?_⟩, by simp, u3, u4, ⟨_, rfl, ?_⟩, fun m hm' x hx => ?_⟩
  · simp only [List.all_append, Bool.and_eq_true]; exact ⟨h2, u5⟩
  · rw [u3]
    rcases List.mem_or_eq_of_mem_set hx with q | q
    · exact h4 x q
    · subst q; exact u1
  · unfold stepP
    cases t.rest.list with
    | nil => simp
    | cons s r =>
      simp only
      split
      · simp
      split
      · simp
      split
      · simp
      split <;> simp
  · rcases List.mem_or_eq_of_mem_set hx with q | q
    · exact hm' x q
    · subst q; exact Nat.le_trans step_uL (hm' t hm)
theorem runW_keeps (n : Nat) : ∀ {w : Wd}, vaWd w = true → vaWd (runW n w) = true ∧ (runW n w).tasks.length = w.tasks.length ∧ (runW n w).boxes.length = w.boxes.length ∧ (runW n w).boxes.map (·.room) = w.boxes.map (·.room) ∧
    (∃ p, (runW n w).out = w.out ++ p ∧ p.length ≤ n) ∧ (∀ m, (∀ t ∈ w.tasks, uL t.rest.list ≤ m) → ∀ t ∈ (runW n w).tasks, uL t.rest.list ≤ m) := by
  induction n with
  | zero => intro w h; exact ⟨h, rfl, rfl, rfl, ⟨[], by simp [runW], by simp⟩, fun m hm => hm⟩
  | succ n ih =>
    intro w h
    unfold runW
    split
    · rename_i hi
      obtain ⟨a1, a2, a3, a4, ⟨p, a5, a6⟩, a7⟩ := stepW_keeps h hi
      obtain ⟨b1, b2, b3, b4, ⟨q, b5, b6⟩, b7⟩ := ih a1
      exact ⟨b1, b2.trans a2, b3.trans a3, b4.trans a4, ⟨p ++ q, by rw [b5, a5, List.append_assoc], by simp; omega⟩, fun m hm => b7 m (a7 m hm)⟩
    · exact ⟨h, rfl, rfl, rfl, ⟨[], by simp, by simp⟩, fun m hm => hm⟩
end Go.Proofs.YtcibjklpaljadaaGreat.AM
namespace Go.Proofs.YtcibjklpaljadaaGreat.AM
set_option linter.unusedSimpArgs false
set_option linter.unusedVariables false
set_option maxRecDepth 100000
set_option maxHeartbeats 2000000
open Go
section
variable {H : AH} {K : AV → AH → Prop} {w : Fk K} {many turn idle code : Int}
end
end Go.Proofs.YtcibjklpaljadaaGreat.AM
namespace Go.Proofs.YtcibjklpaljadaaGreat.AM
set_option linter.unusedSimpArgs false
set_option linter.unusedVariables false
set_option maxRecDepth 100000
set_option maxHeartbeats 2000000
open Go
def bxS (many : Int) : Sts → Bool
  | .nil => true
  | .cons k v b e y z r => (decide (¬ ((k = 4 ∨ k = 5) ∧ many ≤ b)) && (bxS many y && bxS many z)) && bxS many r
def bxT (many : Int) (s : St1) : Bool := decide (¬ ((s.k = 4 ∨ s.k = 5) ∧ many ≤ s.b)) && (bxS many s.body && bxS many s.els)
theorem ok_bx {many : Int} (hm : many ≤ 3) : ∀ {f : Sts} {n : Int}, okS 3 n f = true → (okS many n f = true ↔ bxS many f = true)
  | .nil, _, _ => by simp [okS, bxS]
  | .cons k v b e y z r, n, h => by
    simp only [okS, bxS, Bool.and_eq_true] at h ⊢
    have hr := ok_bx hm (f := r) h.2
    have h1 := h.1
    rw [hr]
    refine and_congr_left fun _ => ?_
    unfold okS1 at h1 ⊢
    simp only [Bool.and_eq_true, Bool.or_eq_true, decide_eq_true_eq] at h1 ⊢
    have hst : stV many k v b (okE 5 e) (plE e) y.list.length z.list.length = true ↔ ¬ ((k = 4 ∨ k = 5) ∧ many ≤ b) := by
      have h2 := h1.1
      by_cases k4 : k = 4
      · have e : ∀ m : Int, stV m k v b (okE 5 e) (plE e) y.list.length z.list.length = (decide (v = 0 ∧ 0 ≤ b ∧ b < m ∧ y.list.length = 0 ∧ z.list.length = 0) && okE 5 e) := fun m => by unfold stV; simp [k4]
        rw [e] at h2 ⊢
        simp only [Bool.and_eq_true, decide_eq_true_eq] at h2 ⊢
        exact ⟨fun h h' => by have := h.1; have := h'.2; omega, fun h => ⟨by have := h2.1; have : b < many := Int.not_le.1 (fun q => h ⟨.inl k4, q⟩); omega, h2.2⟩⟩
      by_cases k5 : k = 5
      · have e : ∀ m : Int, stV m k v b (okE 5 e) (plE e) y.list.length z.list.length = (decide (0 ≤ v ∧ v < 4 ∧ 0 ≤ b ∧ b < m ∧ y.list.length = 0 ∧ z.list.length = 0) && plE e) := fun m => by unfold stV; simp [k5]
        rw [e] at h2 ⊢
        simp only [Bool.and_eq_true, decide_eq_true_eq] at h2 ⊢
        exact ⟨fun h h' => by have := h.1; have := h'.2; omega, fun h => ⟨by have := h2.1; have : b < many := Int.not_le.1 (fun q => h ⟨.inr k5, q⟩); omega, h2.2⟩⟩
      · have e : stV many k v b (okE 5 e) (plE e) y.list.length z.list.length = stV 3 k v b (okE 5 e) (plE e) y.list.length z.list.length := by unfold stV; simp only [k4, k5, if_false]
        rw [e]
        exact ⟨fun _ h => by omega, fun _ => h2⟩
    rw [hst]
    refine and_congr_right fun _ => ?_
    rcases h1.2 with q | q
    · obtain ⟨e1, e2⟩ := stV_leaf h1.1 q.1 q.2
      have e1 : y = .nil := by rw [← Sts.of_list y, List.eq_nil_of_length_eq_zero e1]; rfl
      have e2 : z = .nil := by rw [← Sts.of_list z, List.eq_nil_of_length_eq_zero e2]; rfl
      subst e1 e2
      simp [bxS, q]
    · have hy := ok_bx hm (f := y) q.1.2
      have hz := ok_bx hm (f := z) q.2
      rw [← hy, ← hz]
      constructor
      · rintro (p | p)
        · obtain ⟨e1, e2⟩ := stV_leaf h1.1 p.1 p.2
          have e1 : y = .nil := by rw [← Sts.of_list y, List.eq_nil_of_length_eq_zero e1]; rfl
          have e2 : z = .nil := by rw [← Sts.of_list z, List.eq_nil_of_length_eq_zero e2]; rfl
          subst e1 e2
          simp [okS]
        · exact ⟨p.1.2, p.2⟩
      · intro p
        exact .inr ⟨⟨q.1.1, p.1⟩, p.2⟩
end Go.Proofs.YtcibjklpaljadaaGreat.AM
namespace Go.Proofs.YtcibjklpaljadaaGreat.AM
set_option linter.unusedSimpArgs false
set_option linter.unusedVariables false
set_option maxRecDepth 100000
set_option maxHeartbeats 2000000
open Go
end Go.Proofs.YtcibjklpaljadaaGreat.AM
namespace Go.Proofs.YtcibjklpaljadaaGreat.AM
set_option linter.unusedSimpArgs false
set_option linter.unusedVariables false
set_option maxRecDepth 100000
set_option maxHeartbeats 2000000
open Go
attribute [-simp] AM.elems
def smW (w : Wd) : Prop := vaWd w = true ∧ (∀ t ∈ w.tasks, uL t.rest.list ≤ 4000) ∧ w.out.length ≤ 900000
theorem smW.task {w : Wd} (h : smW w) {t : Tk} (ht : t ∈ w.tasks) : vaT 3 t = true ∧ ctS t.rest ≤ 64000 ∧ t.rest.list.length ≤ 4000 ∧ cpS t.rest = true ∧ t.vars.length = 4 := by
  obtain ⟨h1, h2, h3⟩ := h
  obtain ⟨g1, g2, g3, g4⟩ := vaWd_iff.1 h1
  have hb := (vaBs_facts g3).1
  have h4 := vaT_boxes (b := 3) (by omega) (g4 t ht)
  have h5 := h2 t ht
  have h6 := ctS_uL h4
  have h7 := len_uL t.rest.list
  obtain ⟨f1, f2, f3, f4⟩ := vaT_facts h4
  exact ⟨h4, by omega, by omega, f4, f1⟩
end Go.Proofs.YtcibjklpaljadaaGreat.AM
namespace Go.Proofs.YtcibjklpaljadaaGreat.AM
set_option linter.unusedSimpArgs false
set_option linter.unusedVariables false
set_option maxRecDepth 100000
set_option maxHeartbeats 2000000
open Go
attribute [-simp] AM.elems
theorem GrS.same {base H G v n sz cs B} (h : GrS base H v n sz cs B) (hn : H.n ≤ G.n) (hk : G.bk B = H.bk B) : GrS base G v n sz cs B := by
  obtain ⟨h1, h2, h3 | ⟨h4, h5, h6⟩⟩ := h
  · exact ⟨h1, h2, .inl h3⟩
  · exact ⟨h1, h2, .inr ⟨h4, by omega, by rw [hk]; exact h6⟩⟩
def WX (ok : Nat → Prop) (H : AH) (c : List AV) (w : Wd) : Prop := ∃ vt vb vo OB, c = [vt, vb, .I w.turn, .I w.idle, vo] ∧ TV (fun b => ok b ∧ b ≠ OB) H vt w.tasks ∧ BV (fun b => ok b ∧ b ≠ OB) H vb w.boxes ∧ GrS 0 H vo w.out.length 1 (Ints w.out) OB ∧ (vo = .nils ∨ ok OB)
theorem WX.mono {ok ok' : Nat → Prop} {H H' c w} (h : WX ok H c w) (hn : H.n ≤ H'.n) (hk : ∀ b, ok b → b < H.n → H'.bk b = H.bk b) (ho : ∀ b, ok b → b < H.n → ok' b) : WX ok' H' c w := by
  obtain ⟨vt, vb, vo, OB, e, h1, h2, h3, h4⟩ := h
  refine ⟨vt, vb, vo, OB, e, h1.mono hn (fun b hb => hk b hb.1) (fun b hb hb2 => ⟨ho b hb.1 hb2, hb.2⟩), h2.mono hn (fun b hb => hk b hb.1) (fun b hb hb2 => ⟨ho b hb.1 hb2, hb.2⟩), ?_, ?_⟩
  · rcases h4 with z | z
    · subst z
      obtain ⟨a, b, c | ⟨c, d, c' | ⟨_, _, c', _⟩⟩⟩ := h3
      · exact ⟨a, b, .inl c⟩
      · exact absurd c'.1 (by simp)
      · exact absurd c' (by simp)
    · by_cases q : OB < H.n
      · exact h3.same hn (hk OB z q)
      · obtain ⟨a, b, c | ⟨c, d, _⟩⟩ := h3
        · exact ⟨a, b, .inl c⟩
        · exact absurd d q
  · rcases h4 with z | z
    · exact .inl z
    · obtain ⟨a, b, c | ⟨c, d, _⟩⟩ := h3
      · exact .inl c.1
      · exact .inr (ho OB z d)
theorem WX.ext {ok H H' c t} (h : WX ok H c t) (k : Ext H H') : WX ok H' c t := h.mono k.1 (fun b _ hb => k.2 b hb) (fun _ h _ => h)
end Go.Proofs.YtcibjklpaljadaaGreat.AM
namespace Go.Proofs.YtcibjklpaljadaaGreat.AM
set_option linter.unusedSimpArgs false
set_option linter.unusedVariables false
set_option maxRecDepth 100000
set_option maxHeartbeats 2000000
open Go
attribute [-simp] AM.elems
end Go.Proofs.YtcibjklpaljadaaGreat.AM
namespace Go.Proofs.YtcibjklpaljadaaGreat.AM
set_option linter.unusedSimpArgs false
set_option linter.unusedVariables false
set_option maxRecDepth 100000
set_option maxHeartbeats 2000000
open Go
attribute [-simp] AM.elems
abbrev zeroW : Wd := ⟨[], [], 0, 0, []⟩
theorem TV.nil {ok H v} (h : v = .nils ∨ v = .esl) : TV ok H v [] := ⟨[], ⟨by simp, rfl, .inl ⟨rfl, h⟩⟩, rfl⟩
theorem BV.nil {ok H v} (h : v = .nils ∨ v = .esl) : BV ok H v [] := ⟨[], ⟨by simp, rfl, .inl ⟨rfl, h⟩⟩, rfl⟩
def boW (w : Wd) (n : Nat) : Prop := (∀ t ∈ w.tasks, ctS t.rest ≤ 10000000 ∧ uL t.rest.list ≤ 4000) ∧ w.out.length + n ≤ 900000
theorem boW.step {w : Wd} {n : Nat} (h : boW w (n + 1)) (hv : vaWd w = true) (hi : w.idle < w.tasks.length) : boW (stepW w) n := by
  obtain ⟨a1, a2, a3, a4, ⟨p, a5, a6⟩, a7⟩ := stepW_keeps hv hi
  have hu := a7 4000 (fun t ht => (h.1 t ht).2)
  refine ⟨fun t ht => ⟨?_, hu t ht⟩, ?_⟩
  · have := (show smW (stepW w) from ⟨a1, hu, by rw [a5, List.length_append]; have := h.2; omega⟩).task ht
    omega
  · rw [a5, List.length_append]; have := h.2; omega
end Go.Proofs.YtcibjklpaljadaaGreat.AM
namespace Go.Proofs.YtcibjklpaljadaaGreat.AM
set_option linter.unusedSimpArgs false
set_option linter.unusedVariables false
set_option maxRecDepth 100000
set_option maxHeartbeats 2000000
open Go
attribute [-simp] AM.elems
theorem nextT_ok {many t i c : Int} (hm : 1 ≤ many ∧ many ≤ 3) (ht : 0 ≤ t ∧ t < many) (hi : 0 ≤ i ∧ i < many) : (0 ≤ (nextT many t i c).1 ∧ (nextT many t i c).1 < many) ∧ (0 ≤ (nextT many t i c).2 ∧ (nextT many t i c).2 ≤ many) := by
  have m1 := Int.emod_nonneg (t + 1) (show many ≠ 0 by omega)
  have m2 := Int.emod_lt_of_pos (t + 1) (show 0 < many by omega)
  unfold nextT
  split
  · omega
  split <;> omega
end Go.Proofs.YtcibjklpaljadaaGreat.AM
namespace Go.Proofs.YtcibjklpaljadaaGreat.AM
set_option linter.unusedSimpArgs false
set_option linter.unusedVariables false
set_option maxRecDepth 100000
set_option maxHeartbeats 2000000
open Go
attribute [-simp] AM.elems
abbrev Evt := Int × Int × Int × Int
def evC (e : Evt) : List AV := [.I e.1, .I e.2.1, .I e.2.2.1, .I e.2.2.2]
def evCs (l : List Evt) : List AV := l.flatMap evC
theorem evCs_len {l : List Evt} : (evCs l).length = l.length * 4 := by
  induction l with
  | nil => rfl
  | cons e l ih =>
    have : evCs (e :: l) = evC e ++ evCs l := rfl
    rw [this, List.length_append, ih]
    simp [evC]; omega
theorem GrS.onlyB {base G G' v n sz cs B bs} (h : GrS base G v n sz cs B) (k : Only bs G G') (hb : ∀ b ∈ bs, b ∉ grB v B) : GrS base G' v n sz cs B := by
  obtain ⟨h1, h2, h3 | ⟨h4, h5, h6⟩⟩ := h
  · exact ⟨h1, h2, .inl h3⟩
  · have hg : grB v B = [B] := by
      rcases h6 with ⟨q, _⟩ | ⟨_, _, q, _⟩
      · rw [q]; rfl
      · rw [q]; rfl
    have hB : B ∉ bs := fun hm => hb B hm (by rw [hg]; simp)
    refine ⟨h1, h2, .inr ⟨h4, Nat.lt_of_lt_of_le h5 k.1, ?_⟩⟩
    rw [k.2 B h5 hB]
    exact h6
end Go.Proofs.YtcibjklpaljadaaGreat.AM
namespace Go.Proofs.YtcibjklpaljadaaGreat.AM
set_option linter.unusedSimpArgs false
set_option linter.unusedVariables false
set_option maxRecDepth 100000
set_option maxHeartbeats 4000000
open Go
attribute [-simp] AM.elems
abbrev RV := Nat × AV × Nat × AV
end Go.Proofs.YtcibjklpaljadaaGreat.AM
namespace Go.Proofs.YtcibjklpaljadaaGreat.AM
set_option linter.unusedSimpArgs false
set_option linter.unusedVariables false
set_option maxRecDepth 100000
set_option maxHeartbeats 4000000
open Go
attribute [-simp] AM.elems
def rvB (l : List RV) : List Nat := l.flatMap fun q => [q.1, q.2.2.1]
theorem rvB_mem {l : List RV} {q : RV} (h : q ∈ l) : q.1 ∈ rvB l ∧ q.2.2.1 ∈ rvB l := ⟨List.mem_flatMap.2 ⟨q, h, by simp⟩, List.mem_flatMap.2 ⟨q, h, by simp⟩⟩
def TSt (base lo : Nat) (F : List Nat) (G : AH) (ts : List Tk) (rvs : List RV) : Prop :=
  rvs.length = ts.length ∧ (∀ (j : Nat) (t : Tk) (q : RV), ts[j]? = some t → rvs[j]? = some q → RunT base (F ++ rvB rvs) G q.1 q.2.1 q.2.2.1 q.2.2.2 t) ∧ (∀ b ∈ rvB rvs, lo ≤ b ∧ b < G.n) ∧
  (∀ (i j : Nat) (q q' : RV), i ≠ j → rvs[i]? = some q → rvs[j]? = some q' → q.1 ≠ q'.1 ∧ q.1 ≠ q'.2.2.1 ∧ q.2.2.1 ≠ q'.2.2.1)
theorem TSt.only {base lo F G G' ts rvs cs} (h : TSt base lo F G ts rvs) (k : Only cs G G') (hF : ∀ b ∈ cs, b ∈ F ∨ G.n ≤ b) (hr : ∀ b ∈ cs, b ∉ rvB rvs) : TSt base lo F G' ts rvs := by
  obtain ⟨h1, h2, h3, h4⟩ := h
  refine ⟨h1, fun j t q ht hq => ?_, fun b hb => ⟨(h3 b hb).1, by have := (h3 b hb).2; have := k.1; omega⟩, h4⟩
  have hm := rvB_mem (List.mem_of_getElem? hq)
  exact (h2 j t q ht hq).only k (fun hc => hr _ hc hm.1) (fun hc => hr _ hc hm.2) (fun b hb => by rcases hF b hb with z | z; exact .inl (List.mem_append_left _ z); exact .inr z)
theorem TSt.more {base lo F F' G ts rvs} (h : TSt base lo F G ts rvs) (hF : ∀ b ∈ F', b ∈ F ∨ G.n ≤ b) : TSt base lo F' G ts rvs :=
  ⟨h.1, fun j t q ht hq => (h.2.1 j t q ht hq).more (fun b hb => by
    rcases List.mem_append.1 hb with z | z
    · rcases hF b z with u | u
      · exact .inl (List.mem_append_left _ u)
      · exact .inr u
    · exact .inl (List.mem_append_right _ z)), h.2.2.1, h.2.2.2⟩
end Go.Proofs.YtcibjklpaljadaaGreat.AM
namespace Go.Proofs.YtcibjklpaljadaaGreat.AM
set_option linter.unusedSimpArgs false
set_option linter.unusedVariables false
set_option maxRecDepth 100000
set_option maxHeartbeats 4000000
open Go
attribute [-simp] AM.elems
end Go.Proofs.YtcibjklpaljadaaGreat.AM
namespace Go.Proofs.YtcibjklpaljadaaGreat.AM
set_option linter.unusedSimpArgs false
set_option linter.unusedVariables false
set_option maxRecDepth 100000
set_option maxHeartbeats 2000000
open Go
attribute [-simp] AM.elems
section
variable {ok : Nat → Prop} {H : AH} {K : AV → AH → Prop} {wf : Fk K} {c : List AV} {w : Wd} {n : Int}
end
section
variable {o1 o2 : Nat → Prop}
end
end Go.Proofs.YtcibjklpaljadaaGreat.AM
namespace Go.Proofs.YtcibjklpaljadaaGreat.AM
set_option linter.unusedSimpArgs false
set_option linter.unusedVariables false
set_option maxRecDepth 100000
set_option maxHeartbeats 2000000
open Go
attribute [-simp] AM.elems
structure Pg where
  rooms : List Int
  tasks : List Sts
deriving DecidableEq, Inhabited
def L1 (ok : Nat → Prop) (H : AH) (c : List AV) (f : Sts) : Prop := ∃ v, c = [v] ∧ SV ok H v f
theorem L1.mono {ok ok' : Nat → Prop} {H H' c f} (h : L1 ok H c f) (hn : H.n ≤ H'.n) (hk : ∀ b, ok b → b < H.n → H'.bk b = H.bk b) (ho : ∀ b, ok b → b < H.n → ok' b) : L1 ok' H' c f := by
  obtain ⟨v, e, h⟩ := h; exact ⟨v, e, h.mono hn hk ho⟩
def LV (ok : Nat → Prop) (H : AH) (v : AV) (l : List Sts) : Prop := ∃ ca, SlC ok H v l.length 1 ca ∧ LF 1 (L1 ok H) l ca
theorem LV.mono {ok ok' : Nat → Prop} {H H' v l} (h : LV ok H v l) (hn : H.n ≤ H'.n) (hk : ∀ b, ok b → b < H.n → H'.bk b = H.bk b) (ho : ∀ b, ok b → b < H.n → ok' b) : LV ok' H' v l := by
  obtain ⟨ca, h1, h2⟩ := h
  exact ⟨ca, h1.mono hn hk ho, h2.imp fun c a h => h.mono hn hk ho⟩
theorem LV.ext {ok H H' c t} (h : LV ok H c t) (k : Ext H H') : LV ok H' c t := h.mono k.1 (fun b _ hb => k.2 b hb) (fun _ h _ => h)
theorem LV.alen {ok H v l} (h : LV ok H v l) : alen v = some l.length := h.choose_spec.1.alen
theorem LV.flat {ok H v l} (h : LV ok H v l) : v.flat = true := h.choose_spec.1.flat
theorem LV.big {ok H v l} (h : LV ok H v l) : l.length ≤ 8589934592 := h.choose_spec.1.1
theorem LV.at {ok H v l} (h : LV ok H v l) {i : Nat} {f : Sts} (hi : l[i]? = some f) : ∃ b o cap u, v = .sl b o l.length cap ∧ b < H.n ∧ H.load b (o + i) = some u ∧ SV ok H u f := by
  obtain ⟨ca, h1, h2⟩ := h
  have hl := (List.getElem?_eq_some_iff.1 hi).1
  obtain ⟨b, o, cap, e, ob, hb, hs⟩ := h1.at hl
  obtain ⟨c, hc, u, rfl, i1⟩ := h2.get hi
  have hh := hs i 1 (by omega)
  rw [Nat.mul_one] at hc
  rw [hc] at hh
  have := loadN_get hh (i := 0) (by omega)
  exact ⟨b, o, cap, u, e, hb, by simpa using this, i1⟩
def PgC (ok : Nat → Prop) (H : AH) (c : List AV) (p : Pg) : Prop := ∃ vr vt, c = [vr, vt] ∧ IV ok H vr p.rooms ∧ LV ok H vt p.tasks
theorem PgC.mono {ok ok' : Nat → Prop} {H H' c p} (h : PgC ok H c p) (hn : H.n ≤ H'.n) (hk : ∀ b, ok b → b < H.n → H'.bk b = H.bk b) (ho : ∀ b, ok b → b < H.n → ok' b) : PgC ok' H' c p := by
  obtain ⟨vr, vt, e, h1, h2⟩ := h
  exact ⟨vr, vt, e, h1.mono hn hk ho, h2.mono hn hk ho⟩
theorem PgC.ext {ok H H' c t} (h : PgC ok H c t) (k : Ext H H') : PgC ok H' c t := h.mono k.1 (fun b _ hb => k.2 b hb) (fun _ h _ => h)
def vaRm (l : List Int) : Bool := l.all (fun x => decide (1 ≤ x ∧ x ≤ 4)) && decide (l.length ≤ 3)
def vaF (many : Int) (f : Sts) : Bool := vaS 3 f && bxS many f
def vaPg (p : Pg) : Bool := vaRm p.rooms && decide (1 ≤ p.tasks.length ∧ p.tasks.length ≤ 3) && p.tasks.all (vaF p.rooms.length)
def newW (p : Pg) : Wd := ⟨p.tasks.map fun f => ⟨[0, 0, 0, 0], f⟩, p.rooms.map fun x => ⟨x, []⟩, 0, 0, []⟩
theorem newW_ok {p : Pg} (h : vaPg p = true) : vaWd (newW p) = true ∧ (∀ t ∈ (newW p).tasks, uL t.rest.list ≤ 40) := by
  unfold vaPg vaRm at h
  simp only [Bool.and_eq_true, decide_eq_true_eq, List.all_eq_true] at h
  obtain ⟨⟨⟨h1, h2⟩, h3⟩, h4⟩ := h
  have hw : ∀ f ∈ p.tasks, ∀ s ∈ f.list, vaW p.rooms.length s = true := fun f hf s hs => by
    have h5 := h4 f hf
    unfold vaF vaS at h5
    simp only [Bool.and_eq_true, decide_eq_true_eq] at h5
    refine vaW_iff.2 ⟨?_, ?_⟩
    · have := (ok_bx (many := p.rooms.length) (by omega) h5.1.1).2 h5.2
      rw [okS_mem, List.all_eq_true] at this
      exact this s hs
    · have := ctS_mem hs; unfold ctT; omega
  refine ⟨vaWd_iff.2 ⟨by simp [newW]; omega, rfl, ?_, fun t ht => ?_⟩, fun t ht => ?_⟩
  · unfold vaBs newW
    simp only [Bool.and_eq_true, decide_eq_true_eq, List.length_map, List.all_map, List.all_eq_true]
    refine ⟨fun x hx => ?_, h2⟩
    have := h1 x hx
    unfold vaB
    simp; omega
  · simp only [newW, List.mem_map] at ht
    obtain ⟨f, hf, rfl⟩ := ht
    refine vaT_iff.2 ⟨rfl, by simp [isW], fun s hs => ?_⟩
    simp only [newW, List.length_map]
    exact hw f hf s hs
  · simp only [newW, List.mem_map] at ht
    obtain ⟨f, hf, rfl⟩ := ht
    have h5 := h4 f hf
    unfold vaF vaS at h5
    simp only [Bool.and_eq_true, decide_eq_true_eq] at h5
    have hl := @len_ctS f
    have := uL_le (l := f.list) (m := 16) (fun s hs => (vaW_iff.1 (hw f hf s hs)).2)
    simp only; omega
section
variable {H : AH} {K : AV → AH → Prop} {w : Fk K}
end
end Go.Proofs.YtcibjklpaljadaaGreat.AM
namespace Go.Proofs.YtcibjklpaljadaaGreat.AM
set_option linter.unusedSimpArgs false
set_option linter.unusedVariables false
set_option maxRecDepth 100000
set_option maxHeartbeats 2000000
open Go
attribute [-simp] AM.elems
end Go.Proofs.YtcibjklpaljadaaGreat.AM
namespace Go.Proofs.YtcibjklpaljadaaGreat.AM
set_option linter.unusedSimpArgs false
set_option linter.unusedVariables false
set_option maxRecDepth 100000
set_option maxHeartbeats 2000000
open Go
section
variable {H : AH} {K : AV → AH → Prop} {r : Nat} {w : Fk K} {m boxes : Int}
end
end Go.Proofs.YtcibjklpaljadaaGreat.AM
namespace Go.Proofs.YtcibjklpaljadaaGreat.AM
set_option linter.unusedSimpArgs false
set_option linter.unusedVariables false
set_option maxRecDepth 100000
set_option maxHeartbeats 2000000
open Go
attribute [-simp] AM.elems
theorem GrS.keep {base : Nat} {H G : AH} {v n sz cs B} (h : GrS base H v n sz cs B) (hn : H.n ≤ G.n) (hk : ∀ b, base ≤ b → b < H.n → G.bk b = H.bk b) : GrS base G v n sz cs B := by
  obtain ⟨h1, h2, h3 | ⟨h4, h5, h6⟩⟩ := h
  · exact ⟨h1, h2, .inl h3⟩
  · exact ⟨h1, h2, .inr ⟨h4, by omega, by rw [hk B h4 h5]; exact h6⟩⟩
theorem GrS.keep1 {base : Nat} {H G : AH} {v n sz cs B} (h : GrS base H v n sz cs B) (hn : H.n ≤ G.n) (hk : base ≤ B → B < H.n → G.bk B = H.bk B) : GrS base G v n sz cs B := by
  obtain ⟨h1, h2, h3 | ⟨h4, h5, h6⟩⟩ := h
  · exact ⟨h1, h2, .inl h3⟩
  · exact ⟨h1, h2, .inr ⟨h4, by omega, by rw [hk h4 h5]; exact h6⟩⟩
def T0 (lo B : Nat) (G : AH) (l : List Sts) (cs : List AV) : Prop :=
  (l = [] ∧ cs = []) ∨ ∃ v0 c0 B0 f0 l' cs', l = f0 :: l' ∧ cs = v0 :: cs' ∧ GrS lo G v0 f0.list.length 8 c0 B0 ∧ B0 ≠ B ∧ B0 < G.n ∧ SF (fun b => lo ≤ b ∧ b ≠ B ∧ b ≠ B0) G f0 c0 ∧ LF 1 (L1 (fun b => lo ≤ b ∧ b ≠ B ∧ b ≠ B0) G) l' cs'
theorem T0.up {lo lo' B G l cs} (h : T0 lo B G l cs) (hl : lo' ≤ lo) : T0 lo' B G l cs := by
  rcases h with ⟨rfl, rfl⟩ | ⟨v0, c0, B0, f0, l', cs', rfl, rfl, h1, h2, h3, h4, h5⟩
  · exact .inl ⟨rfl, rfl⟩
  · exact .inr ⟨v0, c0, B0, f0, l', cs', rfl, rfl, h1.up hl, h2, h3, h4.mono (Nat.le_refl _) (fun _ _ _ => rfl) (fun b hb _ => ⟨by omega, hb.2⟩), h5.imp fun c a h => h.mono (Nat.le_refl _) (fun _ _ _ => rfl) (fun b hb _ => ⟨by omega, hb.2⟩)⟩
theorem T0.keep {lo B G G' l cs} (h : T0 lo B G l cs) (hn : G.n ≤ G'.n) (hk : ∀ b, lo ≤ b → b ≠ B → b < G.n → G'.bk b = G.bk b) : T0 lo B G' l cs := by
  rcases h with ⟨rfl, rfl⟩ | ⟨v0, c0, B0, f0, l', cs', rfl, rfl, h1, h2, h3, h4, h5⟩
  · exact .inl ⟨rfl, rfl⟩
  · exact .inr ⟨v0, c0, B0, f0, l', cs', rfl, rfl, h1.keep1 hn (fun a b => hk _ a h2 b), h2, by omega, h4.mono hn (fun b hb hb2 => hk b hb.1 hb.2.1 hb2) (fun _ h _ => h), h5.imp fun c a h => h.mono hn (fun b hb hb2 => hk b hb.1 hb.2.1 hb2) (fun _ h _ => h)⟩
theorem GrS.name {base lo G v n sz cs B} (h : GrS base G v n sz cs B) (hb : lo ≤ base) (h0 : 0 < base) (hG : 0 < G.n) : ∃ B', GrS lo G v n sz cs B' ∧ ((B' = B ∧ base ≤ B' ∧ B' < G.n) ∨ (B' = 0 ∧ cs = [])) := by
  obtain ⟨h1, h2, ⟨h3, h3'⟩ | ⟨h4, h5, h6⟩⟩ := h
  · refine ⟨0, ⟨h1, h2, .inl ⟨h3, h3'⟩⟩, .inr ⟨rfl, List.eq_nil_of_length_eq_zero (by rw [h2, h3']; simp)⟩⟩
  · exact ⟨B, ⟨h1, h2, .inr ⟨by omega, h5, h6⟩⟩, .inl ⟨rfl, h4, h5⟩⟩
theorem T0.snoc {base lo B B' r : Nat} {G G1 G' : AH} {g v : AV} {l : List Sts} {f : Sts} {n : Nat} {cs c : List AV} {B1 : Nat} (hg : GrS base G g n 1 cs B) (h : T0 lo B G l cs) (hb0 : 0 < base) (hBb : base ≤ B) (hbl : base ≤ lo) (hlo : lo ≤ G.n) (hr : r < lo) (x1 : St r G G1) (o : Only (grB g B) G1 G') (hB : (B' = B ∧ B ∈ grB g B) ∨ B' = G1.n)
    (gs : GrS G.n G1 v f.list.length 8 c B1) (sf : SF (fun b => G.n ≤ b ∧ b ≠ B1) G1 f c) : T0 lo B' G' (l ++ [f]) (cs ++ [v]) := by
  have hm : ∀ b, b ∈ grB g B → b = B ∧ base ≤ B ∧ B < G.n := fun b hb => hg.mem hb
  have hB2 : (B' = B ∧ B < G.n) ∨ B' = G1.n := by
    rcases hB with q | q
    · exact .inl ⟨q.1, (hm _ q.2).2.2⟩
    · exact .inr q
  have n1 := x1.1
  have n2 := o.1
  have hk1 : ∀ b, G.n ≤ b → b < G1.n → G'.bk b = G1.bk b := fun b h1 h2 => o.2 b h2 (fun hq => by have := hm b hq; omega)
  have hk2 : ∀ b, lo ≤ b → b ≠ B → b < G.n → G'.bk b = G.bk b := fun b h1 h2 h3 => by rw [o.2 b (by omega) (fun hq => h2 (hm b hq).1), x1.2 b h3 (by omega)]
  rcases h with ⟨rfl, rfl⟩ | ⟨v0, c0, B0, f0, l', cs', rfl, rfl, h1, h2, h3, h4, h5⟩
  · obtain ⟨B2, g2, q⟩ := gs.name (lo := lo) hlo (by omega) (by omega)
    refine .inr ⟨v, c, B2, f, [], [], rfl, rfl, g2.keep1 n2 (fun a b => hk1 _ ?_ b), by omega, by omega, ?_, rfl⟩
    · rcases q with q | q
      · exact q.2.1
      · omega
    · rcases q with q | q
      · exact sf.mono n2 (fun b hb hb2 => hk1 b hb.1 hb2) (fun b hb hb2 => ⟨by omega, by omega, by omega⟩)
      · exact sf.mono n2 (fun b hb hb2 => hk1 b hb.1 hb2) (fun b hb hb2 => ⟨by omega, by omega, by omega⟩)
  · refine .inr ⟨v0, c0, B0, f0, l' ++ [f], cs' ++ [v], rfl, rfl, h1.keep1 (by omega) (fun a b => hk2 _ a h2 b), by omega, by omega, h4.mono (by omega) (fun b hb hb2 => hk2 b hb.1 hb.2.1 hb2) (fun b hb hb2 => ⟨hb.1, by omega, hb.2.2⟩), ?_⟩
    refine LF.app (h5.imp fun c a h => h.mono (by omega) (fun b hb hb2 => hk2 b hb.1 hb.2.1 hb2) (fun b hb hb2 => ⟨hb.1, by omega, hb.2.2⟩)) (LF.one ⟨v, rfl, (gs.sv sf).mono n2 (fun b hb hb2 => hk1 b hb hb2) (fun b hb hb2 => ⟨by omega, by omega, by omega⟩)⟩ rfl)
section
variable {H : AH} {K : AV → AH → Prop} {r : Nat} {w : Fk K} {m boxes : Int}
end
end Go.Proofs.YtcibjklpaljadaaGreat.AM
namespace Go.Proofs.YtcibjklpaljadaaGreat.AM
set_option linter.unusedSimpArgs false
set_option linter.unusedVariables false
set_option maxRecDepth 100000
set_option maxHeartbeats 2000000
open Go
attribute [-simp] AM.elems
def w0 (p : Pg) : Wd := if vaPg p = true then newW p else zeroW
theorem WC.st {base r : Nat} {H H' : AH} {c : List AV} {t : Wd} (h : WC (fun b => base ≤ b) H c t) (k : St r H H') (hr : r < base) : WC (fun b => base ≤ b) H' c t := h.mono k.1 (fun b hb hb2 => k.2 b hb2 (by omega)) (fun _ h _ => h)
theorem WX.st {base r : Nat} {H H' : AH} {c : List AV} {t : Wd} (h : WX (fun b => base ≤ b) H c t) (k : St r H H') (hr : r < base) : WX (fun b => base ≤ b) H' c t := h.mono k.1 (fun b hb hb2 => k.2 b hb2 (by omega)) (fun _ h _ => h)
section
variable {H : AH} {K : AV → AH → Prop} {r : Nat} {w : Fk K} {m boxes : Int}
end
end Go.Proofs.YtcibjklpaljadaaGreat.AM
namespace Go.Proofs.YtcibjklpaljadaaGreat.AM
set_option linter.unusedSimpArgs false
set_option linter.unusedVariables false
set_option maxRecDepth 100000
set_option maxHeartbeats 2000000
open Go
attribute [-simp] AM.elems
section
variable {H : AH} {K : AV → AH → Prop} {w : Fk K}
end
end Go.Proofs.YtcibjklpaljadaaGreat.AM
namespace Go.Proofs.YtcibjklpaljadaaGreat.AM
set_option linter.unusedSimpArgs false
set_option linter.unusedVariables false
set_option maxRecDepth 100000
set_option maxHeartbeats 2000000
open Go
attribute [-simp] AM.elems
theorem runW_rest {w : Wd} (h : ¬ w.idle < w.tasks.length) : ∀ n, runW n w = w
  | 0 => rfl
  | n + 1 => by unfold runW; rw [if_neg h]
theorem boW.run {w : Wd} {n m : Nat} (h : boW w (n + m)) (hv : vaWd w = true) : boW (runW n w) m := by
  obtain ⟨a1, a2, a3, a4, ⟨p, a5, a6⟩, a7⟩ := runW_keeps n hv
  have hu := a7 4000 (fun t ht => (h.1 t ht).2)
  have ho := h.2
  refine ⟨fun t ht => ⟨?_, hu t ht⟩, by rw [a5, List.length_append]; omega⟩
  have := (show smW (runW n w) from ⟨a1, hu, by rw [a5, List.length_append]; omega⟩).task ht
  omega
theorem boW.le {w : Wd} {n m : Nat} (h : boW w n) (hm : m ≤ n) : boW w m := ⟨h.1, by have := h.2; omega⟩
end Go.Proofs.YtcibjklpaljadaaGreat.AM
namespace Go.Proofs.YtcibjklpaljadaaGreat.AM
set_option linter.unusedSimpArgs false
set_option linter.unusedVariables false
set_option maxRecDepth 100000
set_option maxHeartbeats 2000000
open Go
attribute [-simp] AM.elems
theorem AH.same {G G' : AH} (hn : G.n = G'.n) (h : ∀ b, G.bk b = G'.bk b) : G = G' := by
  cases G; cases G'; simp only [AH.mk.injEq] at *; exact ⟨hn, funext h⟩
theorem GrS.out {base G v n sz cs B} (h : GrS base G v n sz cs B) (hn : 0 < n) : ∃ cap xs, v = .sl B 0 n cap ∧ base ≤ B ∧ B < G.n ∧ G.bk B = some ⟨cs ++ xs, true⟩ := by
  obtain ⟨h1, h2, ⟨h3, h3'⟩ | ⟨h4, h5, ⟨rfl, h6⟩ | ⟨c0, ex, rfl, h7, h8, h9⟩⟩⟩ := h
  · omega
  · exact ⟨_, [], rfl, h4, h5, by simpa using h6⟩
  · exact ⟨_, ex, rfl, h4, h5, h9⟩
section
variable {H : AH} {K : AV → AH → Prop} {r : Nat} {w : Fk K} {m boxes : Int}
end
end Go.Proofs.YtcibjklpaljadaaGreat.AM
namespace Go.Proofs.YtcibjklpaljadaaGreat.AM
set_option linter.unusedSimpArgs false
set_option linter.unusedVariables false
set_option maxRecDepth 100000
set_option maxHeartbeats 2000000
open Go
attribute [-simp] AM.elems
section
variable {H : AH} {K : AV → AH → Prop} {w : Fk K}
end
end Go.Proofs.YtcibjklpaljadaaGreat.AM
namespace Go.Proofs.YtcibjklpaljadaaGreat.AM
set_option linter.unusedSimpArgs false
set_option linter.unusedVariables false
set_option maxRecDepth 100000
set_option maxHeartbeats 2000000
open Go
attribute [-simp] AM.elems
end Go.Proofs.YtcibjklpaljadaaGreat.AM
namespace Go.Proofs.YtcibjklpaljadaaGreat.AM
set_option linter.unusedSimpArgs false
set_option linter.unusedVariables false
set_option maxRecDepth 100000
set_option maxHeartbeats 2000000
open Go
attribute [-simp] AM.elems
theorem newW_bo {p : Pg} (hv : vaPg p = true) : vaWd (newW p) = true ∧ boW (newW p) 850000 ∧ (newW p).boxes.length ≤ 3 := by
  obtain ⟨h1, h2⟩ := newW_ok hv
  have hv' := hv
  unfold vaPg vaRm at hv'
  simp only [Bool.and_eq_true, decide_eq_true_eq, List.all_eq_true] at hv'
  refine ⟨h1, ⟨fun t ht => ⟨?_, by have := h2 t ht; omega⟩, by simp [newW]⟩, by simp [newW]; omega⟩
  simp only [newW, List.mem_map] at ht
  obtain ⟨f, hf, rfl⟩ := ht
  have := hv'.2 f hf
  unfold vaF vaS at this
  simp only [Bool.and_eq_true, decide_eq_true_eq] at this
  simp only; omega
section
variable {H : AH} {K : AV → AH → Prop} {w : Fk K}
end
end Go.Proofs.YtcibjklpaljadaaGreat.AM
namespace Go.Proofs.YtcibjklpaljadaaGreat.AM
set_option linter.unusedSimpArgs false
set_option linter.unusedVariables false
set_option maxRecDepth 100000
set_option maxHeartbeats 2000000
open Go
attribute [-simp] AM.elems
def EvV (ok : Nat → Prop) (H : AH) (v : AV) (l : List Evt) : Prop := SlC ok H v l.length 4 (evCs l)
theorem EvV.mono {ok ok' : Nat → Prop} {H H' v l} (h : EvV ok H v l) (hn : H.n ≤ H'.n) (hk : ∀ b, ok b → b < H.n → H'.bk b = H.bk b) (ho : ∀ b, ok b → b < H.n → ok' b) : EvV ok' H' v l := SlC.mono h hn hk ho
theorem EvV.ext {ok H H' v l} (h : EvV ok H v l) (k : Ext H H') : EvV ok H' v l := h.mono k.1 (fun b _ hb => k.2 b hb) (fun _ h _ => h)
theorem EvV.alen {ok H v l} (h : EvV ok H v l) : alen v = some l.length := SlC.alen h
theorem EvV.flat {ok H v l} (h : EvV ok H v l) : v.flat = true := SlC.flat h
theorem EvV.big {ok H v l} (h : EvV ok H v l) : l.length ≤ 8589934592 := h.1
theorem EvV.nil {ok H} : EvV ok H .nils [] := ⟨by simp, rfl, .inl ⟨rfl, .inl rfl⟩⟩
theorem EvV.emp {ok : Nat → Prop} {H : AH} {b : Nat} (h : H.bk b = some ⟨[], true⟩) (hb : b < H.n) (ho : ok b) : EvV ok H (.sl b 0 0 (.ex 0)) [] :=
  ⟨by simp, rfl, .inr ⟨b, 0, _, rfl, ⟨ho, by simp [capOk]⟩, hb, by rw [loadN_bk h]; rfl⟩⟩
theorem seg_evCs : ∀ {l : List Evt} {i : Nat} {e : Evt}, l[i]? = some e → seg (evCs l) (i * 4) 4 = some (evC e)
  | [], i, e, h => by simp at h
  | x :: l, 0, e, h => by
    simp at h; subst h
    unfold seg
    rw [if_pos (by rw [evCs_len]; simp; omega)]
    simp [evCs, evC]
  | x :: l, i + 1, e, h => by
    have := seg_evCs (l := l) (i := i) (e := e) (by simpa using h)
    rw [← this]
    have e1 : evCs (x :: l) = evC x ++ evCs l := by simp [evCs]
    have e2 : (i + 1) * 4 = (evC x).length + i * 4 := by simp [evC]; omega
    unfold seg
    rw [e1, e2, ← List.drop_drop, List.drop_left]
    simp only [List.length_append]
    by_cases hq : i * 4 + 4 ≤ (evCs l).length
    · rw [if_pos (by omega), if_pos hq]
    · rw [if_neg (by omega), if_neg hq]
theorem EvV.at {ok H v l} (h : EvV ok H v l) {i : Nat} {e : Evt} (hi : l[i]? = some e) : ∃ b o cap, v = .sl b o l.length cap ∧ b < H.n ∧ H.loadN b (o + i * 4) 4 = some (evC e) := by
  have hl := (List.getElem?_eq_some_iff.1 hi).1
  obtain ⟨b, o, cap, e1, ob, hb, hs⟩ := SlC.at h hl
  exact ⟨b, o, cap, e1, hb, by rw [hs _ _ (by omega)]; exact seg_evCs hi⟩
section
variable {ok : Nat → Prop} {H : AH} {K : AV → AH → Prop} {wf : Fk K} {c : List AV} {w : Wd} {n : Int}
end
end Go.Proofs.YtcibjklpaljadaaGreat.AM
namespace Go.Proofs.YtcibjklpaljadaaGreat.AM
set_option linter.unusedSimpArgs false
set_option linter.unusedVariables false
set_option maxRecDepth 100000
set_option maxHeartbeats 2000000
open Go
attribute [-simp] AM.elems
section
variable {ok : Nat → Prop} {H : AH} {K : AV → AH → Prop} {wf : Fk K} {c : List AV} {w : Wd}
end
end Go.Proofs.YtcibjklpaljadaaGreat.AM
namespace Go.Proofs.YtcibjklpaljadaaGreat.AM
set_option linter.unusedSimpArgs false
set_option linter.unusedVariables false
set_option maxRecDepth 100000
set_option maxHeartbeats 2000000
open Go
attribute [-simp] AM.elems
theorem EvV.elems {ok H v l} (h : EvV ok H v l) : AM.elems H 4 v = some (evCs l) := SlC.elems h
section
variable {ok : Nat → Prop} {H : AH} {K : AV → AH → Prop} {wf : Fk K} {c : List AV} {w : Wd} {n : Int}
end
end Go.Proofs.YtcibjklpaljadaaGreat.AM
namespace Go.Proofs.YtcibjklpaljadaaGreat.AM
set_option linter.unusedSimpArgs false
set_option linter.unusedVariables false
set_option maxRecDepth 100000
set_option maxHeartbeats 2000000
open Go
attribute [-simp] AM.elems
section
variable {H : AH} {K : AV → AH → Prop} {w : Fk K}
end
end Go.Proofs.YtcibjklpaljadaaGreat.AM
namespace Go.Proofs.YtcibjklpaljadaaGreat.AM
set_option linter.unusedSimpArgs false
set_option linter.unusedVariables false
set_option maxRecDepth 100000
set_option maxHeartbeats 2000000
open Go
attribute [-simp] AM.elems
section
variable {ok : Nat → Prop} {H : AH} {K : AV → AH → Prop} {w : Fk K} {l : List Evt} {v : AV} {box : Int}
end
end Go.Proofs.YtcibjklpaljadaaGreat.AM
namespace Go.Proofs.YtcibjklpaljadaaGreat.AM
set_option linter.unusedSimpArgs false
set_option linter.unusedVariables false
set_option maxRecDepth 100000
set_option maxHeartbeats 2000000
open Go
attribute [-simp] AM.elems
theorem runW_succ {w : Wd} (h : w.idle < w.tasks.length) (n : Nat) : runW (n + 1) w = runW n (stepW w) := by
  conv => lhs; unfold runW
  rw [if_pos h]
end Go.Proofs.YtcibjklpaljadaaGreat.AM
namespace Go.Proofs.YtcibjklpaljadaaGreat.AM
set_option linter.unusedSimpArgs false
set_option linter.unusedVariables false
set_option maxRecDepth 100000
set_option maxHeartbeats 2000000
open Go
attribute [-simp] AM.elems
end Go.Proofs.YtcibjklpaljadaaGreat.AM
namespace Go.Proofs.YtcibjklpaljadaaGreat.AM
set_option linter.unusedSimpArgs false
set_option linter.unusedVariables false
set_option maxRecDepth 100000
set_option maxHeartbeats 2000000
open Go
attribute [-simp] AM.elems
theorem set_same {α : Type} {l : List α} {i : Nat} {x : α} (h : l[i]? = some x) : l.set i x = l := by
  obtain ⟨hl, rfl⟩ := List.getElem?_eq_some_iff.1 h
  exact List.set_getElem_self hl
def stillT (t : Tk) (bs : List Bx) : Prop := (stepP t bs).2.2.2 = 3 ∨ (stepP t bs).2.2.2 = 4
theorem talk_still {t : Tk} {bs : List Bx} {s : St1} {r : List St1} (h : (talkP t bs s r).2.2 = 3 ∨ (talkP t bs s r).2.2 = 4) : (talkP t bs s r).1 = t ∧ (talkP t bs s r).2.1 = bs := by
  unfold talkP at h ⊢
  split
  · exact ⟨rfl, rfl⟩
  · rename_i b hb
    rw [hb] at h
    simp only at h ⊢
    split
    · rename_i hk
      rw [if_pos hk] at h
      split
      · rename_i hr; rw [if_pos hr] at h; simp at h
      · exact ⟨rfl, rfl⟩
    · rename_i hk
      rw [if_neg hk] at h
      split
      · exact ⟨rfl, rfl⟩
      · rename_i y q hq; rw [hq] at h; simp at h
theorem still_same {t : Tk} {bs : List Bx} (h : stillT t bs) : (stepP t bs).1 = t ∧ (stepP t bs).2.1 = bs ∧ (stepP t bs).2.2.1 = [] := by
  unfold stillT stepP at h
  unfold stepP
  split
  · exact ⟨rfl, rfl, rfl⟩
  · rename_i s r hr
    rw [hr] at h
    simp only at h
    split
    · rename_i hk
      rw [if_pos hk] at h
      have := talk_still h
      exact ⟨this.1, this.2, rfl⟩
    · rename_i hk
      rw [if_neg hk] at h
      split
      · rename_i h2; rw [if_pos h2] at h; simp at h
      · rename_i h2
        rw [if_neg h2] at h
        split
        · rename_i h3; rw [if_pos h3] at h; simp at h
        · rename_i h3
          rw [if_neg h3] at h
          split
          · rename_i h4; rw [if_pos h4] at h; simp at h
          · rename_i h4; rw [if_neg h4] at h; simp at h
def idleI (w : Wd) : Prop := ∀ j : Int, 1 ≤ j → j ≤ w.idle → ∀ t, w.tasks[((w.turn - j) % w.tasks.length).toNat]? = some t → stillT t w.boxes
theorem idleI.step {w : Wd} (h : idleI w) (hv : vaWd w = true) (hi : w.idle < w.tasks.length) : idleI (stepW w) := by
  obtain ⟨h1, h2, h3, h4⟩ := vaWd_iff.1 hv
  obtain ⟨t, ht⟩ : ∃ t, w.tasks[w.turn.toNat]? = some t := ⟨_, List.getElem?_eq_getElem (by omega)⟩
  have hc := step_code' (bs := w.boxes) (h4 t (List.mem_of_getElem? ht))
  have e : stepW w = ⟨w.tasks.set w.turn.toNat (stepP t w.boxes).1, (stepP t w.boxes).2.1, (nextT w.tasks.length w.turn w.idle (stepP t w.boxes).2.2.2).1, (nextT w.tasks.length w.turn w.idle (stepP t w.boxes).2.2.2).2, w.out ++ (stepP t w.boxes).2.2.1⟩ := by
    unfold stepW; rw [ht]
  rw [e]
  intro j hj1 hj2 u hu
  simp only at hj2 hu ⊢
  by_cases c1 : (stepP t w.boxes).2.2.2 = 1
  · rw [c1] at hj2; simp [nextT] at hj2; omega
  by_cases c2 : (stepP t w.boxes).2.2.2 = 2
  · rw [c2] at hj2; simp [nextT] at hj2; omega
  have hs : stillT t w.boxes := by unfold stillT; omega
  obtain ⟨s1, s2, s3⟩ := still_same hs
  rw [s1, set_same ht] at hu
  rw [s2]
  have en : nextT w.tasks.length w.turn w.idle (stepP t w.boxes).2.2.2 = ((w.turn + 1) % w.tasks.length, w.idle + 1) := by unfold nextT; rw [if_neg c1, if_neg c2]
  rw [en] at hj2 hu
  simp only at hj2 hu
  have hm : (((w.turn + 1) % w.tasks.length - j) % w.tasks.length) = (w.turn + 1 - j) % w.tasks.length := by
    rw [Int.emod_sub_emod]
  rw [hm] at hu
  by_cases j1 : j = 1
  · subst j1
    rw [show w.turn + 1 - 1 = w.turn by omega, Int.emod_eq_of_lt (by omega) (by omega), ht] at hu
    cases hu; exact hs
  · exact h (j - 1) (by omega) (by omega) u (by rw [show w.turn - (j - 1) = w.turn + 1 - j by omega]; exact hu)
theorem idleI.run : ∀ (n : Nat) {w : Wd}, idleI w → vaWd w = true → idleI (runW n w)
  | 0, _, h, _ => h
  | n + 1, w, h, hv => by
    unfold runW
    split
    · rename_i hi
      exact idleI.run n (h.step hv hi) (stepW_keeps hv hi).1
    · exact h
theorem idleI.rest {w : Wd} (h : idleI w) (hv : vaWd w = true) (hi : ¬ w.idle < w.tasks.length) : ∀ t ∈ w.tasks, stillT t w.boxes := by
  intro t ht
  obtain ⟨h1, h2, h3, h4⟩ := vaWd_iff.1 hv
  obtain ⟨i, hi2⟩ := List.mem_iff_getElem?.1 ht
  have hl := (List.getElem?_eq_some_iff.1 hi2).1
  by_cases c : (i : Int) < w.turn
  · refine h (w.turn - i) (by omega) (by omega) t ?_
    rw [show w.turn - (w.turn - i) = i by omega, Int.emod_eq_of_lt (by omega) (by omega)]; exact hi2
  · refine h (w.turn - i + w.tasks.length) (by omega) (by omega) t ?_
    rw [show w.turn - (w.turn - i + w.tasks.length) = (i : Int) - w.tasks.length by omega, Int.sub_emod_right, Int.emod_eq_of_lt (by omega) (by omega)]; exact hi2
end Go.Proofs.YtcibjklpaljadaaGreat.AM
namespace Go.Proofs.YtcibjklpaljadaaGreat.AM
set_option linter.unusedSimpArgs false
set_option linter.unusedVariables false
set_option maxRecDepth 100000
set_option maxHeartbeats 2000000
open Go
attribute [-simp] AM.elems
end Go.Proofs.YtcibjklpaljadaaGreat.AM
namespace Go.Proofs.YtcibjklpaljadaaGreat.AM
set_option linter.unusedSimpArgs false
set_option linter.unusedVariables false
set_option maxRecDepth 100000
set_option maxHeartbeats 2000000
open Go
attribute [-simp] AM.elems
structure Oc where
  out : List Int
  items : List (List Int)
  ended : List Bool
  rest : Bool
deriving DecidableEq, Inhabited
def LIc (ok : Nat → Prop) (H : AH) (c : List AV) (x : List Int) : Prop := ∃ v, c = [v] ∧ IV ok H v x
theorem LIc.mono {ok ok' : Nat → Prop} {H H' c f} (h : LIc ok H c f) (hn : H.n ≤ H'.n) (hk : ∀ b, ok b → b < H.n → H'.bk b = H.bk b) (ho : ∀ b, ok b → b < H.n → ok' b) : LIc ok' H' c f := by
  obtain ⟨v, e, h⟩ := h; exact ⟨v, e, h.mono hn hk ho⟩
def LIV (ok : Nat → Prop) (H : AH) (v : AV) (l : List (List Int)) : Prop := ∃ ca, SlC ok H v l.length 1 ca ∧ LF 1 (LIc ok H) l ca
theorem LIV.mono {ok ok' : Nat → Prop} {H H' v l} (h : LIV ok H v l) (hn : H.n ≤ H'.n) (hk : ∀ b, ok b → b < H.n → H'.bk b = H.bk b) (ho : ∀ b, ok b → b < H.n → ok' b) : LIV ok' H' v l := by
  obtain ⟨ca, h1, h2⟩ := h
  exact ⟨ca, h1.mono hn hk ho, h2.imp fun c a h => h.mono hn hk ho⟩
theorem LIV.ext {ok H H' c t} (h : LIV ok H c t) (k : Ext H H') : LIV ok H' c t := h.mono k.1 (fun b _ hb => k.2 b hb) (fun _ h _ => h)
theorem LIV.alen {ok H v l} (h : LIV ok H v l) : alen v = some l.length := h.choose_spec.1.alen
theorem LIV.at {ok H v l} (h : LIV ok H v l) {i : Nat} {f : List Int} (hi : l[i]? = some f) : ∃ b o cap u, v = .sl b o l.length cap ∧ b < H.n ∧ H.load b (o + i) = some u ∧ IV ok H u f := by
  obtain ⟨ca, h1, h2⟩ := h
  have hl := (List.getElem?_eq_some_iff.1 hi).1
  obtain ⟨b, o, cap, e, ob, hb, hs⟩ := h1.at hl
  obtain ⟨c, hc, u, rfl, i1⟩ := h2.get hi
  have hh := hs i 1 (by omega)
  rw [Nat.mul_one] at hc
  rw [hc] at hh
  have := loadN_get hh (i := 0) (by omega)
  exact ⟨b, o, cap, u, e, hb, by simpa using this, i1⟩
def Bls (l : List Bool) : List AV := l.map .b
def FlV (ok : Nat → Prop) (H : AH) (v : AV) (l : List Bool) : Prop := SlC ok H v l.length 1 (Bls l)
theorem FlV.mono {ok ok' : Nat → Prop} {H H' v l} (h : FlV ok H v l) (hn : H.n ≤ H'.n) (hk : ∀ b, ok b → b < H.n → H'.bk b = H.bk b) (ho : ∀ b, ok b → b < H.n → ok' b) : FlV ok' H' v l := SlC.mono h hn hk ho
theorem FlV.ext {ok H H' v l} (h : FlV ok H v l) (k : Ext H H') : FlV ok H' v l := h.mono k.1 (fun b _ hb => k.2 b hb) (fun _ h _ => h)
theorem FlV.alen {ok H v l} (h : FlV ok H v l) : alen v = some l.length := SlC.alen h
theorem FlV.at {ok H v l} (h : FlV ok H v l) {i : Nat} {x : Bool} (hi : l[i]? = some x) : ∃ b o cap, v = .sl b o l.length cap ∧ b < H.n ∧ H.load b (o + i) = some (.b x) := by
  have hl := (List.getElem?_eq_some_iff.1 hi).1
  obtain ⟨b, o, cap, e, ob, hb, hs⟩ := SlC.at h hl
  have hh := hs i 1 (by omega)
  have h2 : seg (Bls l) i 1 = some [.b x] := by
    unfold seg
    rw [if_pos (by simp [Bls]; omega)]
    congr 1
    have hl2 : i < (Bls l).length := by simp [Bls]; omega
    have hx : (Bls l)[i] = .b x := by
      have h3 := List.getElem?_eq_getElem hl2
      have h4 : (Bls l)[i]? = some (.b x) := by simp [Bls, hi]
      rw [h4] at h3; exact (Option.some.inj h3).symm
    rw [List.drop_eq_getElem_cons hl2, hx]; rfl
  rw [h2] at hh
  have := loadN_get hh (i := 0) (by omega)
  exact ⟨b, o, cap, e, hb, by simpa using this⟩
def OC (ok : Nat → Prop) (H : AH) (c : List AV) (o : Oc) : Prop := ∃ v1 v2 v3, c = [v1, v2, v3, .b o.rest] ∧ IV ok H v1 o.out ∧ LIV ok H v2 o.items ∧ FlV ok H v3 o.ended
theorem OC.mono {ok ok' : Nat → Prop} {H H' c t} (h : OC ok H c t) (hn : H.n ≤ H'.n) (hk : ∀ b, ok b → b < H.n → H'.bk b = H.bk b) (ho : ∀ b, ok b → b < H.n → ok' b) : OC ok' H' c t := by
  obtain ⟨v1, v2, v3, e, h1, h2, h3⟩ := h
  exact ⟨v1, v2, v3, e, h1.mono hn hk ho, h2.mono hn hk ho, h3.mono hn hk ho⟩
theorem OC.ext {ok H H' c t} (h : OC ok H c t) (k : Ext H H') : OC ok H' c t := h.mono k.1 (fun b _ hb => k.2 b hb) (fun _ h _ => h)
section
variable {ok : Nat → Prop} {H : AH} {K : AV → AH → Prop} {wf : Fk K}
end
section
variable {ok : Nat → Prop} {H : AH} {K : AV → AH → Prop} {wf : Fk K} {c : List AV} {w : Wd}
end
end Go.Proofs.YtcibjklpaljadaaGreat.AM
namespace Go.Proofs.YtcibjklpaljadaaGreat.AM
set_option linter.unusedSimpArgs false
set_option linter.unusedVariables false
set_option maxRecDepth 100000
set_option maxHeartbeats 2000000
open Go
attribute [-simp] AM.elems
end Go.Proofs.YtcibjklpaljadaaGreat.AM
namespace Go.Proofs.YtcibjklpaljadaaGreat.AM
set_option linter.unusedSimpArgs false
set_option linter.unusedVariables false
set_option maxRecDepth 100000
set_option maxHeartbeats 2000000
open Go
attribute [-simp] AM.elems
section
variable {ok : Nat → Prop} {H : AH} {K : AV → AH → Prop} {w : Fk K} {c : List AV} {p : Pg}
end
end Go.Proofs.YtcibjklpaljadaaGreat.AM
namespace Go.Proofs.YtcibjklpaljadaaGreat.AM
set_option linter.unusedSimpArgs false
set_option linter.unusedVariables false
set_option maxRecDepth 100000
set_option maxHeartbeats 2000000
open Go
attribute [-simp] AM.elems
end Go.Proofs.YtcibjklpaljadaaGreat.AM
namespace Go.Proofs.YtcibjklpaljadaaGreat.AM
set_option linter.unusedSimpArgs false
set_option linter.unusedVariables false
set_option maxRecDepth 100000
set_option maxHeartbeats 2000000
open Go
attribute [-simp] AM.elems
end Go.Proofs.YtcibjklpaljadaaGreat.AM
namespace Go.Proofs.YtcibjklpaljadaaGreat.AM
set_option linter.unusedSimpArgs false
set_option linter.unusedVariables false
set_option maxRecDepth 100000
set_option maxHeartbeats 100000000
open Go
attribute [-simp] AM.elems
structure Qd where
  op : Int
  dst : Int
  a : Int
  b : Int
  n : Int
deriving DecidableEq, Inhabited
def qC (q : Qd) : List AV := [.I q.op, .I q.dst, .I q.a, .I q.b, .I q.n]
def qCs (l : List Qd) : List AV := l.flatMap qC
theorem qCs_len {l : List Qd} : (qCs l).length = l.length * 5 := by
  induction l with
  | nil => rfl
  | cons a l ih =>
    have : qCs (a :: l) = qC a ++ qCs l := by simp [qCs]
    rw [this, List.length_append, ih, List.length_cons]
    simp [qC]; omega
theorem qCs_app {a b : List Qd} : qCs (a ++ b) = qCs a ++ qCs b := by simp [qCs]
def QV (ok : Nat → Prop) (H : AH) (v : AV) (l : List Qd) : Prop := SlC ok H v l.length 5 (qCs l)
theorem QV.mono {ok ok' : Nat → Prop} {H H' v l} (h : QV ok H v l) (hn : H.n ≤ H'.n) (hk : ∀ b, ok b → b < H.n → H'.bk b = H.bk b) (ho : ∀ b, ok b → b < H.n → ok' b) : QV ok' H' v l := SlC.mono h hn hk ho
theorem QV.ext {ok H H' v l} (h : QV ok H v l) (k : Ext H H') : QV ok H' v l := h.mono k.1 (fun b _ hb => k.2 b hb) (fun _ h _ => h)
theorem QV.alen {ok H v l} (h : QV ok H v l) : alen v = some l.length := SlC.alen h
theorem QV.flat {ok H v l} (h : QV ok H v l) : v.flat = true := SlC.flat h
theorem QV.big {ok H v l} (h : QV ok H v l) : l.length ≤ 8589934592 := h.1
theorem QV.elems {ok H v l} (h : QV ok H v l) : AM.elems H 5 v = some (qCs l) := SlC.elems h
theorem seg_qCs : ∀ {l : List Qd} {i : Nat} {e : Qd}, l[i]? = some e → seg (qCs l) (i * 5) 5 = some (qC e)
  | [], i, e, h => by simp at h
  | x :: l, 0, e, h => by
    simp at h; subst h
    unfold seg
    rw [if_pos (by rw [qCs_len]; simp; omega)]
    simp [qCs, qC]
  | x :: l, i + 1, e, h => by
    have := seg_qCs (l := l) (i := i) (e := e) (by simpa using h)
    rw [← this]
    have e1 : qCs (x :: l) = qC x ++ qCs l := by simp [qCs]
    have e2 : (i + 1) * 5 = (qC x).length + i * 5 := by simp [qC]; omega
    unfold seg
    rw [e1, e2, ← List.drop_drop, List.drop_left]
    simp only [List.length_append]
    by_cases hq : i * 5 + 5 ≤ (qCs l).length
    · rw [if_pos (by omega), if_pos hq]
    · rw [if_neg (by omega), if_neg hq]
theorem QV.at {ok H v l} (h : QV ok H v l) {i : Nat} {e : Qd} (hi : l[i]? = some e) : ∃ b o cap, v = .sl b o l.length cap ∧ ok b ∧ b < H.n ∧ H.loadN b (o + i * 5) 5 = some (qC e) := by
  have hl := (List.getElem?_eq_some_iff.1 hi).1
  obtain ⟨b, o, cap, e1, ob, hb, hs⟩ := SlC.at h hl
  exact ⟨b, o, cap, e1, ob, hb, by rw [hs _ _ (by omega)]; exact seg_qCs hi⟩
def reg (r : Int) : Bool := decide (0 ≤ r ∧ r < 12)
def quV (many : Int) (q : Qd) : Bool :=
  if q.op = 1 then decide (q.a = 0 ∧ q.b = 0) && reg q.dst && isW q.n
  else if q.op = 2 then decide (q.b = 0 ∧ q.n = 0) && reg q.dst && reg q.a
  else if q.op = 3 then reg q.dst && reg q.a && reg q.b && decide (1 ≤ q.n ∧ q.n ≤ 12)
  else if q.op = 4 then decide (q.dst = 0 ∧ q.a = 0 ∧ q.b = 0) && decide (0 ≤ q.n ∧ q.n < many)
  else if q.op = 5 then decide (q.dst = 0 ∧ q.b = 0) && reg q.a && decide (0 ≤ q.n ∧ q.n < many)
  else if q.op = 6 then decide (q.dst = 0 ∧ q.b = 0) && reg q.a && decide (0 ≤ q.n ∧ q.n < 3)
  else if q.op = 7 then decide (q.a = 0 ∧ q.b = 0) && reg q.dst && decide (0 ≤ q.n ∧ q.n < 3)
  else if q.op = 9 then decide (q.dst = 0 ∧ q.b = 0 ∧ q.n = 0) && reg q.a
  else if q.op = 8 ∨ q.op = 10 then decide (q.dst = 0 ∧ q.a = 0 ∧ q.b = 0 ∧ q.n = 0)
  else false
section
variable {H : AH} {K : AV → AH → Prop} {w : Fk K}
end
end Go.Proofs.YtcibjklpaljadaaGreat.AM
namespace Go.Proofs.YtcibjklpaljadaaGreat.AM
set_option linter.unusedSimpArgs false
set_option linter.unusedVariables false
set_option maxRecDepth 100000
set_option maxHeartbeats 100000000
open Go
attribute [-simp] AM.elems
def lastOp (l : List Qd) : Bool := match l.getLast? with | none => false | some q => decide (q.op = 10 ∨ q.op = 4)
def codeV (l : List Qd) : Bool := decide (1 ≤ l.length ∧ l.length ≤ 600) && l.all (quV l.length) && lastOp l
section
variable {ok : Nat → Prop} {H : AH} {K : AV → AH → Prop} {w : Fk K} {v : AV} {l : List Qd}
structure Th where
  regs : List Int
  pc : Int
deriving DecidableEq, Inhabited
def thFit (t : Th) (many : Nat) : Bool := decide (t.regs.length = 12) && t.regs.all isW && decide (0 ≤ t.pc ∧ t.pc < many)
def ThC (ok : Nat → Prop) (H : AH) (c : List AV) (t : Th) : Prop := ∃ vr, c = [vr, .I t.pc] ∧ IV ok H vr t.regs
theorem ThC.mono {ok ok' : Nat → Prop} {H H' c t} (h : ThC ok H c t) (hn : H.n ≤ H'.n) (hk : ∀ b, ok b → b < H.n → H'.bk b = H.bk b) (ho : ∀ b, ok b → b < H.n → ok' b) : ThC ok' H' c t := by
  obtain ⟨v, e, h⟩ := h; exact ⟨v, e, h.mono hn hk ho⟩
theorem ThC.ext {ok H H' c t} (h : ThC ok H c t) (k : Ext H H') : ThC ok H' c t := h.mono k.1 (fun b _ hb => k.2 b hb) (fun _ h _ => h)
def boxQ (many : Int) (q : Qd) : Bool := decide (q.op = 6 ∨ q.op = 7 → q.n < many)
end
end Go.Proofs.YtcibjklpaljadaaGreat.AM
namespace Go.Proofs.YtcibjklpaljadaaGreat.AM
set_option linter.unusedSimpArgs false
set_option linter.unusedVariables false
set_option maxRecDepth 100000
set_option maxHeartbeats 2000000
open Go
attribute [-simp] AM.elems
structure TM (base : Nat) (H : AH) (T o R P po B : Nat) (cT cP : List AV) (vr vb vo : AV) (rs : List (AV × Nat)) (O : Nat) (t : Th) (bs : List Bx) (out : List Int) : Prop where
  bT : H.bk T = some ⟨cT, true⟩
  sT : seg cT o 2 = some [vr, .I t.pc]
  nT : T < H.n
  gR : GrS base H vr 12 1 (Ints t.regs) R
  rb : RB base H vb bs B rs
  bP : H.bk P = some ⟨cP, true⟩
  sP : cP[po]? = some vo
  nP : P < H.n
  gO : GrS base H vo out.length 1 (Ints out) O
  hb : base ≤ H.n
  d : T ≠ R ∧ T ≠ P ∧ R ≠ P
  f : T ∉ fpB B rs ∧ R ∉ fpB B rs ∧ P ∉ fpB B rs
  g : T ∉ grB vo O ∧ R ∉ grB vo O ∧ P ∉ grB vo O
  fg : ∀ b ∈ grB vo O, b ∉ fpB B rs
section
variable {base : Nat} {H H' : AH} {T o R P po B : Nat} {cT cP : List AV} {vr vb vo : AV} {rs : List (AV × Nat)} {O : Nat} {t : Th} {bs : List Bx} {out : List Int}
theorem TM.regs (h : TM base H T o R P po B cT cP vr vb vo rs O t bs out) : t.regs.length = 12 := by
  have := h.gR.2.1
  rw [Ints_len] at this; omega
theorem TM.only {ds : List Nat} (h : TM base H T o R P po B cT cP vr vb vo rs O t bs out) (k : Only ds H H') (hd : ∀ b ∈ ds, b ≠ T ∧ b ≠ R ∧ b ≠ P ∧ b ∉ fpB B rs ∧ b ∉ grB vo O) : TM base H' T o R P po B cT cP vr vb vo rs O t bs out :=
  { h with
    bT := k.bk h.nT (fun hm => (hd T hm).1 rfl) h.bT
    nT := Nat.lt_of_lt_of_le h.nT k.1
    gR := h.gR.only k (fun b hb => .inr (hd b hb).2.1)
    rb := h.rb.onlyA k (fun b hb => .inr (hd b hb).2.2.2.1)
    bP := k.bk h.nP (fun hm => (hd P hm).2.2.1 rfl) h.bP
    nP := Nat.lt_of_lt_of_le h.nP k.1
    gO := h.gO.onlyB k (fun b hb => (hd b hb).2.2.2.2)
    hb := Nat.le_trans h.hb k.1 }
theorem TM.ext (h : TM base H T o R P po B cT cP vr vb vo rs O t bs out) (k : Ext H H') : TM base H' T o R P po B cT cP vr vb vo rs O t bs out := h.only (ds := []) k.only (by simp)
end
def rg (t : Th) (r : Int) : Int := (t.regs[r.toNat]?).getD 0
def stepQ (q : Qd) (t : Th) (bs : List Bx) : Th × List Bx × List Int × Int :=
  if q.op = 1 then (⟨t.regs.set q.dst.toNat q.n, t.pc + 1⟩, bs, [], 1)
  else if q.op = 2 then (⟨t.regs.set q.dst.toNat (rg t q.a), t.pc + 1⟩, bs, [], 1)
  else if q.op = 3 then (⟨t.regs.set q.dst.toNat (applyM q.n (rg t q.a) (rg t q.b)), t.pc + 1⟩, bs, [], 1)
  else if q.op = 4 then (⟨t.regs, q.n⟩, bs, [], 1)
  else if q.op = 5 then (⟨t.regs, if rg t q.a = 0 then q.n else t.pc + 1⟩, bs, [], 1)
  else if q.op = 6 then
    match bs[q.n.toNat]? with
    | none => (t, bs, [], 3)
    | some bx => if (bx.items.length : Int) < bx.room then (⟨t.regs, t.pc + 1⟩, bs.set q.n.toNat ⟨bx.room, bx.items ++ [rg t q.a]⟩, [], 1) else (t, bs, [], 3)
  else if q.op = 7 then
    match bs[q.n.toNat]? with
    | none => (t, bs, [], 3)
    | some bx =>
      match bx.items with
      | [] => (t, bs, [], 3)
      | y :: r => (⟨t.regs.set q.dst.toNat y, t.pc + 1⟩, bs.set q.n.toNat ⟨bx.room, r⟩, [], 1)
  else if q.op = 8 then (⟨t.regs, t.pc + 1⟩, bs, [], 2)
  else if q.op = 9 then (⟨t.regs, t.pc + 1⟩, bs, [rg t q.a], 1)
  else (t, bs, [], 4)
end Go.Proofs.YtcibjklpaljadaaGreat.AM
namespace Go.Proofs.YtcibjklpaljadaaGreat.AM
set_option linter.unusedSimpArgs false
set_option linter.unusedVariables false
set_option maxRecDepth 100000
set_option maxHeartbeats 4000000
open Go
attribute [-simp] AM.elems
section
variable {base : Nat} {H : AH} {K : AV → AH → Prop} {w : Fk K} {T o R P po B : Nat} {cT cP : List AV} {vr vb vo vc : AV} {rs : List (AV × Nat)} {O : Nat} {t : Th} {bs : List Bx} {out : List Int} {okc : Nat → Prop} {l : List Qd} {q : Qd}
end
end Go.Proofs.YtcibjklpaljadaaGreat.AM
namespace Go.Proofs.YtcibjklpaljadaaGreat.AM
set_option linter.unusedSimpArgs false
set_option linter.unusedVariables false
set_option maxRecDepth 100000
set_option maxHeartbeats 4000000
open Go
attribute [-simp] AM.elems
theorem reg_iff {r : Int} : reg r = true ↔ 0 ≤ r ∧ r < 12 := by unfold reg; simp
theorem quV_cases {many : Int} {q : Qd} (h : quV many q = true) :
    (q.op = 1 ∧ (0 ≤ q.dst ∧ q.dst < 12) ∧ isW q.n = true) ∨ (q.op = 2 ∧ (0 ≤ q.dst ∧ q.dst < 12) ∧ (0 ≤ q.a ∧ q.a < 12)) ∨ (q.op = 3 ∧ (0 ≤ q.dst ∧ q.dst < 12) ∧ (0 ≤ q.a ∧ q.a < 12) ∧ (0 ≤ q.b ∧ q.b < 12)) ∨
    (q.op = 4 ∧ 0 ≤ q.n ∧ q.n < many) ∨ (q.op = 5 ∧ (0 ≤ q.a ∧ q.a < 12) ∧ 0 ≤ q.n ∧ q.n < many) ∨ (q.op = 6 ∧ (0 ≤ q.a ∧ q.a < 12) ∧ 0 ≤ q.n ∧ q.n < 3) ∨ (q.op = 7 ∧ (0 ≤ q.dst ∧ q.dst < 12) ∧ 0 ≤ q.n ∧ q.n < 3) ∨ q.op = 8 ∨ (q.op = 9 ∧ (0 ≤ q.a ∧ q.a < 12)) ∨ q.op = 10 := by
  unfold quV at h
  by_cases h1 : q.op = 1
  · rw [if_pos h1] at h; simp only [Bool.and_eq_true, decide_eq_true_eq, reg_iff] at h; exact .inl ⟨h1, h.1.2, h.2⟩
  rw [if_neg h1] at h
  refine .inr ?_
  by_cases h2 : q.op = 2
  · rw [if_pos h2] at h; simp only [Bool.and_eq_true, decide_eq_true_eq, reg_iff] at h; exact .inl ⟨h2, h.1.2, h.2⟩
  rw [if_neg h2] at h
  refine .inr ?_
  by_cases h3 : q.op = 3
  · rw [if_pos h3] at h; simp only [Bool.and_eq_true, decide_eq_true_eq, reg_iff] at h; exact .inl ⟨h3, h.1.1.1, h.1.1.2, h.1.2⟩
  rw [if_neg h3] at h
  refine .inr ?_
  by_cases h4 : q.op = 4
  · rw [if_pos h4] at h; simp only [Bool.and_eq_true, decide_eq_true_eq, reg_iff] at h; exact .inl ⟨h4, h.2⟩
  rw [if_neg h4] at h
  refine .inr ?_
  by_cases h5 : q.op = 5
  · rw [if_pos h5] at h; simp only [Bool.and_eq_true, decide_eq_true_eq, reg_iff] at h; exact .inl ⟨h5, h.1.2, h.2⟩
  rw [if_neg h5] at h
  refine .inr ?_
  by_cases h6 : q.op = 6
  · rw [if_pos h6] at h; simp only [Bool.and_eq_true, decide_eq_true_eq, reg_iff] at h; exact .inl ⟨h6, h.1.2, h.2⟩
  rw [if_neg h6] at h
  refine .inr ?_
  by_cases h7 : q.op = 7
  · rw [if_pos h7] at h; simp only [Bool.and_eq_true, decide_eq_true_eq, reg_iff] at h; exact .inl ⟨h7, h.1.2, h.2⟩
  rw [if_neg h7] at h
  refine .inr ?_
  by_cases h9 : q.op = 9
  · rw [if_pos h9] at h; simp only [Bool.and_eq_true, decide_eq_true_eq, reg_iff] at h; exact .inr (.inl ⟨h9, h.2⟩)
  rw [if_neg h9] at h
  by_cases h8 : q.op = 8 ∨ q.op = 10
  · rcases h8 with h8 | h8
    · exact .inl h8
    · exact .inr (.inr h8)
  · rw [if_neg h8] at h; cases h
theorem rg_W {t : Th} (h : t.regs.all isW = true) (r : Int) : isW (rg t r) = true := by
  unfold rg
  cases hx : t.regs[r.toNat]? with
  | none => rfl
  | some x => exact List.all_eq_true.1 h x (List.mem_of_getElem? hx)
theorem thFit_iff {t : Th} {many : Nat} : thFit t many = true ↔ t.regs.length = 12 ∧ t.regs.all isW = true ∧ 0 ≤ t.pc ∧ t.pc < many := by
  unfold thFit; simp only [Bool.and_eq_true, decide_eq_true_eq]; exact and_assoc
theorem codeV_facts {l : List Qd} (h : codeV l = true) : 1 ≤ l.length ∧ l.length ≤ 600 ∧ (∀ q ∈ l, quV l.length q = true) ∧ (∀ q, l[l.length - 1]? = some q → q.op = 10 ∨ q.op = 4) := by
  unfold codeV at h
  simp only [Bool.and_eq_true, decide_eq_true_eq] at h
  refine ⟨h.1.1.1, h.1.1.2, List.all_eq_true.1 h.1.2, fun q hq => ?_⟩
  have h2 := h.2
  unfold lastOp at h2
  rw [List.getLast?_eq_getElem?, hq] at h2
  simpa using h2
theorem stepQ_keeps {l : List Qd} {q : Qd} {t : Th} {bs : List Bx} (hl : codeV l = true) (hq : l[t.pc.toNat]? = some q) (ht : thFit t l.length = true) (hb : vaBs bs = true) :
    thFit (stepQ q t bs).1 l.length = true ∧ vaBs (stepQ q t bs).2.1 = true ∧ (stepQ q t bs).2.1.length = bs.length ∧ (stepQ q t bs).2.1.map (·.room) = bs.map (·.room) ∧ (stepQ q t bs).2.2.1.all isW = true ∧ (stepQ q t bs).2.2.1.length ≤ 1 ∧ (1 ≤ (stepQ q t bs).2.2.2 ∧ (stepQ q t bs).2.2.2 ≤ 4) := by
  obtain ⟨c1, c2, c3, c4⟩ := codeV_facts hl
  obtain ⟨t1, t2, t3, t4⟩ := thFit_iff.1 ht
  have hv := c3 q (List.mem_of_getElem? hq)
  have hnx : q.op ≠ 4 → q.op ≠ 10 → t.pc + 1 < l.length := fun h4 h10 => by
    by_cases he : t.pc.toNat = l.length - 1
    · rw [he] at hq
      rcases c4 q hq with z | z
      · exact absurd z h10
      · exact absurd z h4
    · omega
  have stay : thFit t l.length = true ∧ vaBs bs = true ∧ bs.length = bs.length ∧ bs.map (·.room) = bs.map (·.room) ∧ ([] : List Int).all isW = true ∧ ([] : List Int).length ≤ 1 ∧ ((1 : Int) ≤ 3 ∧ (3 : Int) ≤ 4) := ⟨ht, hb, rfl, rfl, rfl, by simp, by omega⟩
  have hset : ∀ (d x : Int), isW x = true → q.op ≠ 4 → q.op ≠ 10 → thFit ⟨t.regs.set d.toNat x, t.pc + 1⟩ l.length = true := fun d x hx h4 h10 => thFit_iff.2 ⟨by simpa using t1, all_set t2 hx, by simp only; omega, hnx h4 h10⟩
  have hgo : q.op ≠ 4 → q.op ≠ 10 → thFit ⟨t.regs, t.pc + 1⟩ l.length = true := fun h4 h10 => thFit_iff.2 ⟨t1, t2, by simp only; omega, hnx h4 h10⟩
  rcases quV_cases hv with ⟨h, _, hw⟩ | ⟨h, _⟩ | ⟨h, _⟩ | ⟨h, hn⟩ | ⟨h, _, hn⟩ | ⟨h, _, hn⟩ | ⟨h, _, hn⟩ | h | ⟨h, _⟩ | h
  · have e : stepQ q t bs = (⟨t.regs.set q.dst.toNat q.n, t.pc + 1⟩, bs, [], 1) := by unfold stepQ; rw [if_pos h]
    rw [e]; exact ⟨hset _ _ hw (by omega) (by omega), hb, rfl, rfl, rfl, by simp, by simp⟩
  · have e : stepQ q t bs = (⟨t.regs.set q.dst.toNat (rg t q.a), t.pc + 1⟩, bs, [], 1) := by unfold stepQ; rw [if_neg (by omega), if_pos h]
    rw [e]; exact ⟨hset _ _ (rg_W t2 _) (by omega) (by omega), hb, rfl, rfl, rfl, by simp, by simp⟩
  · have e : stepQ q t bs = (⟨t.regs.set q.dst.toNat (applyM q.n (rg t q.a) (rg t q.b)), t.pc + 1⟩, bs, [], 1) := by unfold stepQ; rw [if_neg (by omega), if_neg (by omega), if_pos h]
    rw [e]; exact ⟨hset _ _ (isW_iff.2 (apply_W (isW_iff.1 (rg_W t2 _)) (isW_iff.1 (rg_W t2 _)))) (by omega) (by omega), hb, rfl, rfl, rfl, by simp, by simp⟩
  · have e : stepQ q t bs = (⟨t.regs, q.n⟩, bs, [], 1) := by unfold stepQ; rw [if_neg (by omega), if_neg (by omega), if_neg (by omega), if_pos h]
    rw [e]; exact ⟨thFit_iff.2 ⟨t1, t2, hn.1, hn.2⟩, hb, rfl, rfl, rfl, by simp, by simp⟩
  · have e : stepQ q t bs = (⟨t.regs, if rg t q.a = 0 then q.n else t.pc + 1⟩, bs, [], 1) := by unfold stepQ; rw [if_neg (by omega), if_neg (by omega), if_neg (by omega), if_neg (by omega), if_pos h]
    rw [e]
    refine ⟨thFit_iff.2 ⟨t1, t2, ?_⟩, hb, rfl, rfl, rfl, by simp, by simp⟩
    have := hnx (by omega) (by omega)
    simp only
    split <;> omega
  · have e : stepQ q t bs = match bs[q.n.toNat]? with
        | none => (t, bs, [], 3)
        | some bx => if (bx.items.length : Int) < bx.room then (⟨t.regs, t.pc + 1⟩, bs.set q.n.toNat ⟨bx.room, bx.items ++ [rg t q.a]⟩, [], 1) else (t, bs, [], 3) := by
      unfold stepQ; rw [if_neg (by omega), if_neg (by omega), if_neg (by omega), if_neg (by omega), if_neg (by omega), if_pos h]
      all_goals (cases bs[q.n.toNat]? <;> rfl)
    rw [e]
    cases hbx : bs[q.n.toNat]? with
    | none => exact stay
    | some bx =>
      simp only
      have hbv := (vaBs_facts hb).2 bx (List.mem_of_getElem? hbx)
      split
      · rename_i hr
        refine ⟨hgo (by omega) (by omega), vaBs_set hb ?_, by simp, rooms_set hbx, rfl, by simp, by simp⟩
        unfold vaB
        simp only [Bool.and_eq_true, decide_eq_true_eq, List.length_append, List.length_singleton, List.all_append, List.all_cons, List.all_nil, Bool.and_true]
        exact ⟨by omega, hbv.2.2.2, rg_W t2 _⟩
      · exact stay
  · have e : stepQ q t bs = match bs[q.n.toNat]? with
        | none => (t, bs, [], 3)
        | some bx =>
          match bx.items with
          | [] => (t, bs, [], 3)
          | y :: r => (⟨t.regs.set q.dst.toNat y, t.pc + 1⟩, bs.set q.n.toNat ⟨bx.room, r⟩, [], 1) := by
      unfold stepQ; rw [if_neg (by omega), if_neg (by omega), if_neg (by omega), if_neg (by omega), if_neg (by omega), if_neg (by omega), if_pos h]
      all_goals (rcases bs[q.n.toNat]? with _ | ⟨_, _ | _⟩ <;> rfl)
    rw [e]
    cases hbx : bs[q.n.toNat]? with
    | none => exact stay
    | some bx =>
      simp only
      have hbv := (vaBs_facts hb).2 bx (List.mem_of_getElem? hbx)
      cases hi : bx.items with
      | nil => exact stay
      | cons y r =>
        rw [hi] at hbv
        simp only [List.all_cons, Bool.and_eq_true, List.length_cons] at hbv
        refine ⟨hset _ _ hbv.2.2.2.1 (by omega) (by omega), vaBs_set hb ?_, by simp, rooms_set hbx, rfl, by simp, by simp⟩
        unfold vaB
        simp only [Bool.and_eq_true, decide_eq_true_eq]
        exact ⟨by omega, hbv.2.2.2.2⟩
  · have e : stepQ q t bs = (⟨t.regs, t.pc + 1⟩, bs, [], 2) := by unfold stepQ; rw [if_neg (by omega), if_neg (by omega), if_neg (by omega), if_neg (by omega), if_neg (by omega), if_neg (by omega), if_neg (by omega), if_pos h]
    rw [e]; exact ⟨hgo (by omega) (by omega), hb, rfl, rfl, rfl, by simp, by simp⟩
  · have e : stepQ q t bs = (⟨t.regs, t.pc + 1⟩, bs, [rg t q.a], 1) := by unfold stepQ; rw [if_neg (by omega), if_neg (by omega), if_neg (by omega), if_neg (by omega), if_neg (by omega), if_neg (by omega), if_neg (by omega), if_neg (by omega), if_pos h]
    rw [e]; exact ⟨hgo (by omega) (by omega), hb, rfl, rfl, by simp [rg_W t2], by simp, by simp⟩
  · have e : stepQ q t bs = (t, bs, [], 4) := by unfold stepQ; rw [if_neg (by omega), if_neg (by omega), if_neg (by omega), if_neg (by omega), if_neg (by omega), if_neg (by omega), if_neg (by omega), if_neg (by omega), if_neg (by omega)]
    rw [e]; exact ⟨ht, hb, rfl, rfl, rfl, by simp, by simp⟩
section
variable {base : Nat} {H : AH} {K : AV → AH → Prop} {w : Fk K} {T o R P po B : Nat} {cT cP : List AV} {vr vb vo vc : AV} {rs : List (AV × Nat)} {O : Nat} {t : Th} {bs : List Bx} {out : List Int} {okc : Nat → Prop} {l : List Qd} {q : Qd}
end
end Go.Proofs.YtcibjklpaljadaaGreat.AM
namespace Go.Proofs.YtcibjklpaljadaaGreat.AM
set_option linter.unusedSimpArgs false
set_option linter.unusedVariables false
set_option maxRecDepth 100000
set_option maxHeartbeats 4000000
open Go
attribute [-simp] AM.elems
def CLc (ok : Nat → Prop) (H : AH) (c : List AV) (l : List Qd) : Prop := ∃ v, c = [v] ∧ QV ok H v l
theorem CLc.mono {ok ok' : Nat → Prop} {H H' c t} (h : CLc ok H c t) (hn : H.n ≤ H'.n) (hk : ∀ b, ok b → b < H.n → H'.bk b = H.bk b) (ho : ∀ b, ok b → b < H.n → ok' b) : CLc ok' H' c t := by
  obtain ⟨v, e, h⟩ := h; exact ⟨v, e, h.mono hn hk ho⟩
def CLV (ok : Nat → Prop) (H : AH) (v : AV) (l : List (List Qd)) : Prop := ∃ ca, SlC ok H v l.length 1 ca ∧ LF 1 (CLc ok H) l ca
theorem CLV.mono {ok ok' : Nat → Prop} {H H' v l} (h : CLV ok H v l) (hn : H.n ≤ H'.n) (hk : ∀ b, ok b → b < H.n → H'.bk b = H.bk b) (ho : ∀ b, ok b → b < H.n → ok' b) : CLV ok' H' v l := by
  obtain ⟨ca, h1, h2⟩ := h
  exact ⟨ca, h1.mono hn hk ho, h2.imp fun c a h => h.mono hn hk ho⟩
theorem CLV.ext {ok H H' c t} (h : CLV ok H c t) (k : Ext H H') : CLV ok H' c t := h.mono k.1 (fun b _ hb => k.2 b hb) (fun _ h _ => h)
theorem CLV.alen {ok H v l} (h : CLV ok H v l) : alen v = some l.length := h.choose_spec.1.alen
theorem CLV.flat {ok H v l} (h : CLV ok H v l) : v.flat = true := h.choose_spec.1.flat
theorem CLV.big {ok H v l} (h : CLV ok H v l) : l.length ≤ 8589934592 := h.choose_spec.1.1
theorem CLV.at {ok H v l} (h : CLV ok H v l) {i : Nat} {x : List Qd} (hi : l[i]? = some x) : ∃ b o cap vc, v = .sl b o l.length cap ∧ ok b ∧ b < H.n ∧ H.load b (o + i) = some vc ∧ QV ok H vc x := by
  obtain ⟨ca, h1, h2⟩ := h
  have hl := (List.getElem?_eq_some_iff.1 hi).1
  obtain ⟨b, o, cap, e, ob, hb, hs⟩ := h1.at hl
  obtain ⟨c, hc, vc, rfl, i1⟩ := h2.get hi
  have l1 : H.loadN b (o + i * 1) 1 = some [vc] := by rw [hs _ _ (by omega)]; exact hc
  have l2 := loadN_get l1 (i := 0) (by omega)
  rw [Nat.mul_one] at l2
  exact ⟨b, o, cap, vc, e, ob, hb, by simpa using l2, i1⟩
def ThV (ok : Nat → Prop) (H : AH) (v : AV) (l : List Th) : Prop := ∃ ca, SlC ok H v l.length 2 ca ∧ LF 2 (ThC ok H) l ca
theorem ThV.mono {ok ok' : Nat → Prop} {H H' v l} (h : ThV ok H v l) (hn : H.n ≤ H'.n) (hk : ∀ b, ok b → b < H.n → H'.bk b = H.bk b) (ho : ∀ b, ok b → b < H.n → ok' b) : ThV ok' H' v l := by
  obtain ⟨ca, h1, h2⟩ := h
  exact ⟨ca, h1.mono hn hk ho, h2.imp fun c a h => h.mono hn hk ho⟩
theorem ThV.ext {ok H H' c t} (h : ThV ok H c t) (k : Ext H H') : ThV ok H' c t := h.mono k.1 (fun b _ hb => k.2 b hb) (fun _ h _ => h)
theorem ThV.alen {ok H v l} (h : ThV ok H v l) : alen v = some l.length := h.choose_spec.1.alen
theorem ThV.flat {ok H v l} (h : ThV ok H v l) : v.flat = true := h.choose_spec.1.flat
theorem ThV.big {ok H v l} (h : ThV ok H v l) : l.length ≤ 8589934592 := h.choose_spec.1.1
theorem ThV.at {ok H v l} (h : ThV ok H v l) {i : Nat} {x : Th} (hi : l[i]? = some x) : ∃ b o cap vr, v = .sl b o l.length cap ∧ ok b ∧ b < H.n ∧ H.loadN b (o + i * 2) 2 = some [vr, .I x.pc] ∧ IV ok H vr x.regs := by
  obtain ⟨ca, h1, h2⟩ := h
  have hl := (List.getElem?_eq_some_iff.1 hi).1
  obtain ⟨b, o, cap, e, ob, hb, hs⟩ := h1.at hl
  obtain ⟨c, hc, vr, rfl, i1⟩ := h2.get hi
  exact ⟨b, o, cap, vr, e, ob, hb, by rw [hs _ _ (by omega)]; exact hc, i1⟩
structure Cw where
  codes : List (List Qd)
  threads : List Th
  boxes : List Bx
  turn : Int
  idle : Int
  out : List Int
deriving DecidableEq, Inhabited
def CwC (ok : Nat → Prop) (H : AH) (c : List AV) (w : Cw) : Prop := ∃ vc vt vb vo, c = [vc, vt, vb, .I w.turn, .I w.idle, vo] ∧ CLV ok H vc w.codes ∧ ThV ok H vt w.threads ∧ BV ok H vb w.boxes ∧ IV ok H vo w.out
theorem CwC.mono {ok ok' : Nat → Prop} {H H' c t} (h : CwC ok H c t) (hn : H.n ≤ H'.n) (hk : ∀ b, ok b → b < H.n → H'.bk b = H.bk b) (ho : ∀ b, ok b → b < H.n → ok' b) : CwC ok' H' c t := by
  obtain ⟨vc, vt, vb, vo, e, h0, h1, h2, h3⟩ := h
  exact ⟨vc, vt, vb, vo, e, h0.mono hn hk ho, h1.mono hn hk ho, h2.mono hn hk ho, h3.mono hn hk ho⟩
theorem CwC.ext {ok H H' c t} (h : CwC ok H c t) (k : Ext H H') : CwC ok H' c t := h.mono k.1 (fun b _ hb => k.2 b hb) (fun _ h _ => h)
def vaTh (many : Int) (p : List Qd × Th) : Bool := codeV p.1 && thFit p.2 p.1.length && p.1.all (boxQ many)
def vaCw (w : Cw) : Bool := decide (1 ≤ w.codes.length ∧ w.codes.length ≤ 3 ∧ 0 ≤ w.turn ∧ w.turn < w.codes.length ∧ 0 ≤ w.idle ∧ w.idle ≤ w.codes.length) && w.out.all isW && decide (w.threads.length = w.codes.length) && vaBs w.boxes && (w.codes.zip w.threads).all (vaTh w.boxes.length)
section
variable {ok : Nat → Prop} {H : AH} {K : AV → AH → Prop} {wf : Fk K} {v : AV} {l : List Qd}
end
end Go.Proofs.YtcibjklpaljadaaGreat.AM
namespace Go.Proofs.YtcibjklpaljadaaGreat.AM
set_option linter.unusedSimpArgs false
set_option linter.unusedVariables false
set_option maxRecDepth 100000
set_option maxHeartbeats 4000000
open Go
attribute [-simp] AM.elems
section
variable {ok : Nat → Prop} {H : AH} {K : AV → AH → Prop} {w : Fk K} {v : AV}
end
end Go.Proofs.YtcibjklpaljadaaGreat.AM
namespace Go.Proofs.YtcibjklpaljadaaGreat.AM
set_option linter.unusedSimpArgs false
set_option linter.unusedVariables false
set_option maxRecDepth 100000
set_option maxHeartbeats 4000000
open Go
attribute [-simp] AM.elems
def RgT (lo : Nat) (G : AH) (ths : List Th) (qs : List (AV × Nat)) (bad : List Nat) : Prop :=
  (∀ (i : Nat) (t : Th) (q : AV × Nat), ths[i]? = some t → qs[i]? = some q → GrS lo G q.1 12 1 (Ints t.regs) q.2 ∧ q.2 ∉ bad ∧ q.2 < G.n ∧ lo ≤ q.2) ∧
  (∀ (i j : Nat) (q q' : AV × Nat), i ≠ j → qs[i]? = some q → qs[j]? = some q' → q.2 ≠ q'.2)
theorem RgT.only {lo G G' ths qs bad cs} (h : RgT lo G ths qs bad) (k : Only cs G G') (hlen : qs.length = ths.length) (hc : ∀ b ∈ cs, b ∈ bad ∨ b < lo ∨ G.n ≤ b) : RgT lo G' ths qs bad :=
  ⟨fun i t q ht hq => by
    obtain ⟨a1, a2, a3, a4⟩ := h.1 i t q ht hq
    exact ⟨a1.only k (fun b hb => by
      rcases hc b hb with z | z | z
      · exact .inr (fun e => a2 (by rw [← e]; exact z))
      · exact .inl z
      · exact .inr (by omega)), a2, Nat.lt_of_lt_of_le a3 k.1, a4⟩, h.2⟩
section
variable {K : AV → AH → Prop}
end
end Go.Proofs.YtcibjklpaljadaaGreat.AM
namespace Go.Proofs.YtcibjklpaljadaaGreat.AM
set_option linter.unusedSimpArgs false
set_option linter.unusedVariables false
set_option maxRecDepth 100000
set_option maxHeartbeats 4000000
open Go
attribute [-simp] AM.elems
def qAt (codes : List (List Qd)) (ths : List Th) (t : Int) : Option (Qd × Th) :=
  match ths[t.toNat]?, codes[t.toNat]? with
  | some x, some l => (l[x.pc.toNat]?).map fun q => (q, x)
  | _, _ => none
def stepC (c : Cw) : Cw :=
  match qAt c.codes c.threads c.turn with
  | none => c
  | some (q, x) => ⟨c.codes, c.threads.set c.turn.toNat (stepQ q x c.boxes).1, (stepQ q x c.boxes).2.1, (nextT c.threads.length c.turn c.idle (stepQ q x c.boxes).2.2.2).1, (nextT c.threads.length c.turn c.idle (stepQ q x c.boxes).2.2.2).2, c.out ++ (stepQ q x c.boxes).2.2.1⟩
def runC : Nat → Cw → Cw
  | 0, c => c
  | n + 1, c => if c.idle < c.threads.length then runC n (stepC c) else c
theorem zip_all {α β : Type} {f : α × β → Bool} : ∀ {a : List α} {b : List β}, (a.zip b).all f = true ↔ ∀ (i : Nat) (x : α) (y : β), a[i]? = some x → b[i]? = some y → f (x, y) = true
  | [], b => by simp
  | x :: a, [] => by simp
  | x :: a, y :: b => by
    simp only [List.zip_cons_cons, List.all_cons, Bool.and_eq_true, zip_all (a := a) (b := b)]
    constructor
    · intro h i u v hu hv
      cases i with
      | zero => simp at hu hv; subst hu; subst hv; exact h.1
      | succ i => exact h.2 i u v (by simpa using hu) (by simpa using hv)
    · intro h
      exact ⟨h 0 x y rfl rfl, fun i u v hu hv => h (i + 1) u v (by simpa using hu) (by simpa using hv)⟩
theorem vaTh_iff {many : Int} {l : List Qd} {t : Th} : vaTh many (l, t) = true ↔ codeV l = true ∧ thFit t l.length = true ∧ l.all (boxQ many) = true := by
  unfold vaTh; simp only [Bool.and_eq_true]; exact and_assoc
theorem vaCw_iff {w : Cw} : vaCw w = true ↔ (1 ≤ w.codes.length ∧ w.codes.length ≤ 3 ∧ 0 ≤ w.turn ∧ w.turn < w.codes.length ∧ 0 ≤ w.idle ∧ w.idle ≤ w.codes.length) ∧ w.out.all isW = true ∧ w.threads.length = w.codes.length ∧ vaBs w.boxes = true ∧
    ∀ (i : Nat) (l : List Qd) (t : Th), w.codes[i]? = some l → w.threads[i]? = some t → vaTh w.boxes.length (l, t) = true := by
  unfold vaCw
  simp only [Bool.and_eq_true, decide_eq_true_eq, zip_all, and_assoc]
theorem qAt_some {codes : List (List Qd)} {ths : List Th} {t many : Int} (hl : ths.length = codes.length) (ht : 0 ≤ t ∧ t < codes.length) (hv : ∀ (i : Nat) (l : List Qd) (t : Th), codes[i]? = some l → ths[i]? = some t → vaTh many (l, t) = true) :
    ∃ q x l, qAt codes ths t = some (q, x) ∧ ths[t.toNat]? = some x ∧ codes[t.toNat]? = some l ∧ l[x.pc.toNat]? = some q ∧ codeV l = true ∧ thFit x l.length = true ∧ l.all (boxQ many) = true ∧ boxQ many q = true := by
  obtain ⟨x, hx⟩ : ∃ x, ths[t.toNat]? = some x := ⟨_, List.getElem?_eq_getElem (by omega)⟩
  obtain ⟨l, hl⟩ : ∃ l, codes[t.toNat]? = some l := ⟨_, List.getElem?_eq_getElem (by omega)⟩
  obtain ⟨h1, h2, h3⟩ := vaTh_iff.1 (hv _ l x hl hx)
  obtain ⟨_, _, h4, h5⟩ := thFit_iff.1 h2
  obtain ⟨q, hq⟩ : ∃ q, l[x.pc.toNat]? = some q := ⟨_, List.getElem?_eq_getElem (by omega)⟩
  exact ⟨q, x, l, by unfold qAt; simp [hx, hl, hq], hx, hl, hq, h1, h2, h3, List.all_eq_true.1 h3 q (List.mem_of_getElem? hq)⟩
theorem stepC_keeps {w : Cw} (h : vaCw w = true) (hi : w.idle < w.threads.length) : vaCw (stepC w) = true ∧ (stepC w).codes = w.codes ∧ (stepC w).threads.length = w.threads.length ∧ (stepC w).boxes.length = w.boxes.length ∧ (stepC w).boxes.map (·.room) = w.boxes.map (·.room) ∧ (∃ p, (stepC w).out = w.out ++ p ∧ p.length ≤ 1) := by
  obtain ⟨h1, h2, h3, h4, h5⟩ := vaCw_iff.1 h
  obtain ⟨q, x, l, e, hx, hl, hq, c1, c2, c3, c4⟩ := qAt_some (t := w.turn) h3 (by omega) h5
  obtain ⟨u1, u2, u3, u4, u5, u6, u7⟩ := stepQ_keeps (bs := w.boxes) c1 hq c2 h4
  have hn := nextT_ok (many := w.threads.length) (t := w.turn) (i := w.idle) (c := (stepQ q x w.boxes).2.2.2) (by omega) (by omega) (by omega)
  have es : stepC w = ⟨w.codes, w.threads.set w.turn.toNat (stepQ q x w.boxes).1, (stepQ q x w.boxes).2.1, (nextT w.threads.length w.turn w.idle (stepQ q x w.boxes).2.2.2).1, (nextT w.threads.length w.turn w.idle (stepQ q x w.boxes).2.2.2).2, w.out ++ (stepQ q x w.boxes).2.2.1⟩ := by
    unfold stepC; rw [e]
  rw [es]
  refine ⟨vaCw_iff.2 ⟨by simp only; omega, ?_, by simpa using h3, u2, fun i l' t' hl' ht' => ?_⟩, rfl, by simp, u3, u4, ⟨_, rfl, u6⟩⟩
  · simp only [List.all_append, Bool.and_eq_true]; exact ⟨h2, u5⟩
  · simp only at hl' ht'
    rw [u3]
    by_cases hit : i = w.turn.toNat
    · subst hit
      rw [List.getElem?_set_self (by omega)] at ht'
      cases ht'
      rw [hl] at hl'; cases hl'
      exact vaTh_iff.2 ⟨c1, u1, c3⟩
    · rw [List.getElem?_set_ne (Ne.symm hit)] at ht'
      exact h5 i l' t' hl' ht'
end Go.Proofs.YtcibjklpaljadaaGreat.AM
namespace Go.Proofs.YtcibjklpaljadaaGreat.AM
set_option linter.unusedSimpArgs false
set_option linter.unusedVariables false
set_option maxRecDepth 100000
set_option maxHeartbeats 4000000
open Go
attribute [-simp] AM.elems
theorem CLV.nil {ok H v} (h : v = .nils ∨ v = .esl) : CLV ok H v [] := ⟨[], ⟨by simp, rfl, .inl ⟨rfl, h⟩⟩, rfl⟩
theorem ThV.nil {ok H v} (h : v = .nils ∨ v = .esl) : ThV ok H v [] := ⟨[], ⟨by simp, rfl, .inl ⟨rfl, h⟩⟩, rfl⟩
section
variable {ok : Nat → Prop} {H : AH} {K : AV → AH → Prop} {wf : Fk K} {c : List AV} {w : Cw} {n : Int}
end
end Go.Proofs.YtcibjklpaljadaaGreat.AM
namespace Go.Proofs.YtcibjklpaljadaaGreat.AM
set_option linter.unusedSimpArgs false
set_option linter.unusedVariables false
set_option maxRecDepth 100000
set_option maxHeartbeats 4000000
open Go
attribute [-simp] AM.elems
abbrev z12 : List Int := [0, 0, 0, 0, 0, 0, 0, 0, 0, 0, 0, 0]
def newK (rooms : List Int) (codes : List (List Qd)) : Cw := ⟨codes, codes.map fun _ => ⟨z12, 0⟩, rooms.map fun x => ⟨x, []⟩, 0, 0, []⟩
section
variable {ok ok2 : Nat → Prop} {H : AH} {K : AV → AH → Prop} {wf : Fk K} {c : List AV}
end
end Go.Proofs.YtcibjklpaljadaaGreat.AM
namespace Go.Proofs.YtcibjklpaljadaaGreat.AM
set_option linter.unusedSimpArgs false
set_option linter.unusedVariables false
set_option maxRecDepth 100000
set_option maxHeartbeats 4000000
open Go
attribute [-simp] AM.elems
section
variable {ok ok2 : Nat → Prop} {H : AH} {K : AV → AH → Prop} {wf : Fk K} {c : List AV} {w : Cw}
theorem stepC_out {w : Cw} (h : vaCw w = true) (hi : w.idle < w.threads.length) : (stepC w).out.length ≤ w.out.length + 1 := by
  obtain ⟨_, _, _, _, _, p, e, hp⟩ := stepC_keeps h hi
  rw [e, List.length_append]; omega
theorem runC_keeps (n : Nat) : ∀ {w : Cw}, vaCw w = true → vaCw (runC n w) = true ∧ (runC n w).out.length ≤ w.out.length + n ∧ ∃ p, (runC n w).out = w.out ++ p := by
  induction n with
  | zero => intro w h; exact ⟨h, by simp [runC], [], by simp [runC]⟩
  | succ n ih =>
    intro w h
    unfold runC
    split
    · rename_i hi
      obtain ⟨a, b, p, e⟩ := ih (stepC_keeps h hi).1
      have := stepC_out h hi
      obtain ⟨_, _, _, _, _, p', e', hp⟩ := stepC_keeps h hi
      exact ⟨a, by omega, p' ++ p, by rw [e, e', List.append_assoc]⟩
    · exact ⟨h, by omega, [], by simp⟩
end
end Go.Proofs.YtcibjklpaljadaaGreat.AM
namespace Go.Proofs.YtcibjklpaljadaaGreat.AM
set_option linter.unusedSimpArgs false
set_option linter.unusedVariables false
set_option maxRecDepth 100000
set_option maxHeartbeats 4000000
open Go
attribute [-simp] AM.elems
def cE1 (at_ op n : Int) (sub : List Qd) : List Qd :=
  if op = 0 then [⟨1, at_, 0, 0, n⟩] else if op = 13 then [⟨2, at_, n, 0, 0⟩] else sub ++ [⟨3, at_, at_, at_ + 1, op⟩]
def compF : Exs → Int → List Qd
  | .nil, _ => []
  | .cons op n a r, at_ => cE1 at_ op n (compF a at_) ++ compF r (at_ + 1)
def compE (at_ : Int) (e : Ex) : List Qd := cE1 at_ e.op e.n (compF e.args at_)
theorem compF_two {a : Exs} {x y : Ex} (h : a.list = [x, y]) (at_ : Int) : compF a at_ = compE at_ x ++ compE (at_ + 1) y := by
  cases a with
  | nil => simp at h
  | cons op n a r =>
    cases r with
    | nil => simp at h
    | cons op' n' a' r' =>
      cases r' with
      | nil =>
        simp at h
        obtain ⟨rfl, rfl⟩ := h
        simp [compF, compE]
      | cons _ _ _ _ => simp at h
def CS (base : Nat) (H H' : AH) (v : AV) (B : Nat) (v' : AV) (B' : Nat) (L' : List Qd) : Prop :=
  GrS base H' v' L'.length 5 (qCs L') B' ∧ Only (grB v B) H H' ∧ (∀ b ∈ grB v' B', b ∈ grB v B ∨ H.n ≤ b)
theorem CS.trans {base H H1 H2 v B v1 B1 v2 B2 L1 L2} (h : CS base H H1 v B v1 B1 L1) (k : CS base H1 H2 v1 B1 v2 B2 L2) : CS base H H2 v B v2 B2 L2 := by
  obtain ⟨a1, a2, a3⟩ := h
  obtain ⟨b1, b2, b3⟩ := k
  have n1 := a2.1
  have n2 := b2.1
  refine ⟨b1, ⟨by omega, fun b hb hm => ?_⟩, fun b hb => ?_⟩
  · rw [b2.2 b (by omega) (fun hm1 => by rcases a3 b hm1 with z | z; exact hm z; omega), a2.2 b hb hm]
  · rcases b3 b hb with z | z
    · exact a3 b z
    · exact .inr (by omega)
theorem CS.post {base H H1 H2 v B v' B' L'} (h : CS base H H1 v B v' B' L') (x : Ext H1 H2) : CS base H H2 v B v' B' L' := by
  obtain ⟨a1, a2, a3⟩ := h
  exact ⟨a1.ext x, ⟨Nat.le_trans a2.1 x.1, fun b hb hm => by rw [x.2 b (Nat.lt_of_lt_of_le hb a2.1), a2.2 b hb hm]⟩, a3⟩
theorem CS.app {base H v B} {L : List Qd} (h : GrS base H v L.length 5 (qCs L) B) (hb : base ≤ H.n) (q : Qd) (hl : L.length < 100000000) :
    ∃ v' H' B', aapp (H.push (qC q)) 5 v 1 (qC q) = some (v', H') ∧ CS base H H' v B v' B' (L ++ [q]) ∧ v'.flat = true := by
  obtain ⟨v', H', B', a1, a2, a3, a4⟩ := (h.ext (Ext.push H (qC q))).app (by simp; omega) (k := 1) (new := qC q) rfl (by omega)
  have a2' : GrS base H' v' (L ++ [q]).length 5 (qCs (L ++ [q])) B' := by rw [qCs_app]; simpa [qCs] using a2
  refine ⟨v', H', B', a1, ⟨a2', ?_, fun b hb => ?_⟩, a2.flat⟩
  · have n4 := a4.1
    simp at n4
    exact ⟨by omega, fun b hb hm => (a4.2 b (by simp; omega) hm).trans (push_old hb rfl)⟩
  · rcases a3 with ⟨z1, z2⟩ | z
    · exact .inl (by rw [grB_sub hb, z1]; exact z2)
    · exact .inr (by rw [grB_sub hb, z]; simp)
theorem CS.le {base H H' v B v' B' L'} (h : CS base H H' v B v' B' L') : H.n ≤ H'.n := h.2.1.1
theorem CS.keep {base H H' v B v' B' L'} {P : Nat} {x} (h : CS base H H' v B v' B' L') (hP : P < H.n) (hm : P ∉ grB v B) (e : H.bk P = x) : H'.bk P = x := (h.2.1.2 P hP hm).trans e
end Go.Proofs.YtcibjklpaljadaaGreat.AM
namespace Go.Proofs.YtcibjklpaljadaaGreat.AM
set_option linter.unusedSimpArgs false
set_option linter.unusedVariables false
set_option maxRecDepth 100000
set_option maxHeartbeats 4000000
open Go
attribute [-simp] AM.elems
def stC (base : Nat) (k v b : Int) (E Y Z : List Qd) (nz : Nat) : List Qd :=
  if k = 1 then E ++ [⟨2, v, 4, 0, 0⟩]
  else if k = 4 then E ++ [⟨6, 0, 4, 0, b⟩]
  else if k = 5 then [⟨7, v, 0, 0, b⟩]
  else if k = 6 then [⟨8, 0, 0, 0, 0⟩]
  else if k = 7 then E ++ [⟨9, 0, 4, 0, 0⟩]
  else if k = 3 then E ++ ⟨5, 0, 4, 0, (base + E.length + 1 + Y.length + 1 : Nat)⟩ :: (Y ++ [⟨4, 0, 0, 0, base⟩])
  else if nz = 0 then E ++ ⟨5, 0, 4, 0, (base + E.length + 1 + Y.length : Nat)⟩ :: Y
  else E ++ ⟨5, 0, 4, 0, (base + E.length + 1 + Y.length + 1 : Nat)⟩ :: (Y ++ ⟨4, 0, 0, 0, (base + E.length + 1 + Y.length + 1 + Z.length : Nat)⟩ :: Z)
def cS : Sts → Nat → List Qd
  | .nil, _ => []
  | .cons k v b e y z r, base =>
    stC base k v b (compE 4 e) (cS y (base + (compE 4 e).length + 1)) (cS z (base + (compE 4 e).length + 1 + (cS y (base + (compE 4 e).length + 1)).length + 1)) z.list.length ++
      cS r (base + (stC base k v b (compE 4 e) (cS y (base + (compE 4 e).length + 1)) (cS z (base + (compE 4 e).length + 1 + (cS y (base + (compE 4 e).length + 1)).length + 1)) z.list.length).length)
def cT (s : St1) (base : Nat) : List Qd :=
  stC base s.k s.v s.b (compE 4 s.e) (cS s.body (base + (compE 4 s.e).length + 1)) (cS s.els (base + (compE 4 s.e).length + 1 + (cS s.body (base + (compE 4 s.e).length + 1)).length + 1)) s.els.list.length
theorem cS_of {s : St1} {l : List St1} {base : Nat} : cS (Sts.of (s :: l)) base = cT s base ++ cS (Sts.of l) (base + (cT s base).length) := rfl
end Go.Proofs.YtcibjklpaljadaaGreat.AM
namespace Go.Proofs.YtcibjklpaljadaaGreat.AM
set_option linter.unusedSimpArgs false
set_option linter.unusedVariables false
set_option maxRecDepth 100000
set_option maxHeartbeats 4000000
open Go
attribute [-simp] AM.elems
def compT (f : Sts) : List Qd := cS f 0 ++ [⟨10, 0, 0, 0, 0⟩]
section
variable {ok : Nat → Prop} {H : AH} {K : AV → AH → Prop} {w : Fk K} {v : AV} {f : Sts}
end
end Go.Proofs.YtcibjklpaljadaaGreat.AM
namespace Go.Proofs.YtcibjklpaljadaaGreat.AM
set_option linter.unusedSimpArgs false
set_option linter.unusedVariables false
set_option maxRecDepth 100000
set_option maxHeartbeats 2000000
open Go
attribute [-simp] AM.elems
theorem cE1_len (a : Exs) : ∀ {at_ op n d : Int}, okE1 d op n a.list.length (okF (d - 1) a) = true → 1 ≤ (cE1 at_ op n (compF a at_)).length ∧ (cE1 at_ op n (compF a at_)).length + 1 ≤ 2 ^ d.toNat := by
  induction a using Exs.ind with
  | h a ih =>
  intro at_ op n d hok
  have hd : 0 < d := by
    unfold okE1 at hok
    by_cases h0 : op = 0
    · rw [if_pos h0] at hok; simp only [decide_eq_true_eq] at hok; omega
    by_cases h13 : op = 13
    · rw [if_neg h0, if_pos h13] at hok; simp only [decide_eq_true_eq] at hok; omega
    rw [if_neg h0, if_neg h13] at hok
    simp only [Bool.and_eq_true, decide_eq_true_eq] at hok
    omega
  obtain ⟨k, rfl⟩ : ∃ k : Nat, d = (k + 1 : Nat) := ⟨(d - 1).toNat, by omega⟩
  have hp : 1 ≤ 2 ^ k := Nat.one_le_two_pow
  have hpk : 2 ^ (((k + 1 : Nat) : Int).toNat) = 2 * 2 ^ k := by rw [Int.toNat_natCast, Nat.pow_succ]; omega
  rw [hpk]
  by_cases h0 : op = 0
  · unfold cE1; rw [if_pos h0]; simp; omega
  by_cases h13 : op = 13
  · unfold cE1; rw [if_neg h0, if_pos h13]; simp; omega
  obtain ⟨c0, c1, c2, c3⟩ := okE1_op hok h0 h13
  obtain ⟨x, y, hxy⟩ := two_of c2
  rw [okF_mem, hxy] at c3
  simp at c3
  have hk : ((k + 1 : Nat) : Int) - 1 = (k : Int) := by omega
  have c3' : okE (k : Int) x = true ∧ okE (k : Int) y = true := by simpa using c3
  have wx := ih x (by rw [hxy]; simp) (at_ := at_) (d := k) (op := x.op) (n := x.n) c3'.1
  have wy := ih y (by rw [hxy]; simp) (at_ := at_ + 1) (d := k) (op := y.op) (n := y.n) c3'.2
  rw [Int.toNat_natCast] at wx wy
  unfold cE1
  rw [if_neg h0, if_neg h13, compF_two hxy]
  unfold compE
  simp only [List.length_append, List.length_singleton]
  omega
theorem compE_len {e : Ex} (h : okE 5 e = true) (at_ : Int) : 1 ≤ (compE at_ e).length ∧ (compE at_ e).length ≤ 31 := by
  have := cE1_len e.args (at_ := at_) (op := e.op) (n := e.n) (d := 5) h
  unfold compE
  have e5 : (2 : Nat) ^ (5 : Int).toNat = 32 := rfl
  rw [e5] at this
  omega
theorem cT_len {s : St1} {n : Int} (hok : okT 3 n s = true) (base : Nat) (hy : ∀ b, (cS s.body b).length ≤ 34 * ctS s.body) (hz : ∀ b, (cS s.els b).length ≤ 34 * ctS s.els) : 1 ≤ (cT s base).length ∧ (cT s base).length ≤ 34 * ctT s := by
  obtain ⟨hk, hoe, _⟩ := okT_facts hok
  have hct : ctT s = 1 + ctS s.body + ctS s.els := rfl
  have h1 := hy (base + (compE 4 s.e).length + 1)
  have h2 := hz (base + (compE 4 s.e).length + 1 + (cS s.body (base + (compE 4 s.e).length + 1)).length + 1)
  unfold cT
  generalize cS s.body (base + (compE 4 s.e).length + 1) = Y at *
  generalize cS s.els (base + (compE 4 s.e).length + 1 + Y.length + 1) = Z at *
  unfold stC
  by_cases k5 : s.k = 5
  · rw [if_neg (by omega), if_neg (by omega), if_pos k5]; simp; omega
  by_cases k6 : s.k = 6
  · rw [if_neg (by omega), if_neg (by omega), if_neg (by omega), if_pos k6]; simp; omega
  have hE := compE_len (hoe k5 k6) 4
  generalize compE 4 s.e = E at *
  by_cases k1 : s.k = 1
  · rw [if_pos k1]; simp; omega
  by_cases k4 : s.k = 4
  · rw [if_neg (by omega), if_pos k4]; simp; omega
  by_cases k7 : s.k = 7
  · rw [if_neg (by omega), if_neg (by omega), if_neg (by omega), if_neg (by omega), if_pos k7]; simp; omega
  rw [if_neg k1, if_neg k4, if_neg k5, if_neg k6, if_neg k7]
  by_cases k3 : s.k = 3
  · rw [if_pos k3]; simp; omega
  rw [if_neg k3]
  split <;> simp <;> omega
theorem okT_yz {n : Int} {s : St1} (h : okT 3 n s = true) : (s.body.list.length = 0 ∨ okS 3 (n - 1) s.body = true) ∧ (s.els.list.length = 0 ∨ okS 3 (n - 1) s.els = true) := by
  unfold okT okS1 at h
  simp only [Bool.and_eq_true, Bool.or_eq_true, decide_eq_true_eq] at h
  rcases h.2 with q | q
  · have q1 := h.1
    unfold stV at q1
    by_cases k1 : s.k = 1
    · rw [if_pos k1] at q1; simp only [Bool.and_eq_true, decide_eq_true_eq] at q1; exact ⟨.inl q1.1.2.2.2.1, .inl q1.1.2.2.2.2⟩
    rw [if_neg k1, if_neg q.1, if_neg q.2] at q1
    by_cases k4 : s.k = 4
    · rw [if_pos k4] at q1; simp only [Bool.and_eq_true, decide_eq_true_eq] at q1; exact ⟨.inl q1.1.2.2.2.1, .inl q1.1.2.2.2.2⟩
    rw [if_neg k4] at q1
    by_cases k5 : s.k = 5
    · rw [if_pos k5] at q1; simp only [Bool.and_eq_true, decide_eq_true_eq] at q1; exact ⟨.inl q1.1.2.2.2.2.1, .inl q1.1.2.2.2.2.2⟩
    rw [if_neg k5] at q1
    by_cases k6 : s.k = 6
    · rw [if_pos k6] at q1; simp only [Bool.and_eq_true, decide_eq_true_eq] at q1; exact ⟨.inl q1.1.2.2.1, .inl q1.1.2.2.2⟩
    rw [if_neg k6] at q1
    by_cases k7 : s.k = 7
    · rw [if_pos k7] at q1; simp only [Bool.and_eq_true, decide_eq_true_eq] at q1; exact ⟨.inl q1.1.2.2.1, .inl q1.1.2.2.2⟩
    rw [if_neg k7] at q1; cases q1
  · exact ⟨.inr q.1.2, .inr q.2⟩
theorem cS_nil {f : Sts} (h : f.list.length = 0) (b : Nat) : cS f b = [] := by
  cases f with
  | nil => rfl
  | cons => simp at h
theorem cS_len : ∀ {f : Sts} {n : Int}, okS 3 n f = true → ∀ base, (cS f base).length ≤ 34 * ctS f
  | .nil, _, _, _ => by simp [cS, ctS]
  | .cons k v b e y z r, n, h, base => by
    simp only [okS, Bool.and_eq_true] at h
    obtain ⟨h1, h2⟩ := h
    have hT : okT 3 n ⟨k, v, b, e, y, z⟩ = true := h1
    have hr := cS_len h2 (base + (cT ⟨k, v, b, e, y, z⟩ base).length)
    obtain ⟨hy, hz⟩ := okT_yz hT
    have hyz : (∀ b', (cS y b').length ≤ 34 * ctS y) ∧ (∀ b', (cS z b').length ≤ 34 * ctS z) := by
      refine ⟨fun b' => ?_, fun b' => ?_⟩
      · rcases hy with u | u
        · rw [cS_nil u]; simp
        · exact cS_len u b'
      · rcases hz with u | u
        · rw [cS_nil u]; simp
        · exact cS_len u b'
    have hs := cT_len hT base hyz.1 hyz.2
    have e1 : cS (.cons k v b e y z r) base = cT ⟨k, v, b, e, y, z⟩ base ++ cS r (base + (cT ⟨k, v, b, e, y, z⟩ base).length) := rfl
    rw [e1, List.length_append]
    have hct : ctT (⟨k, v, b, e, y, z⟩ : St1) = 1 + ctS y + ctS z := rfl
    have hc2 : ctS (.cons k v b e y z r) = 1 + ctS y + ctS z + ctS r := rfl
    omega
def quOk (M many : Int) (q : Qd) : Bool := quV M q && boxQ many q
theorem cE1_ok {M many : Int} (a : Exs) : ∀ {at_ op n d : Int}, okE1 d op n a.list.length (okF (d - 1) a) = true → 4 ≤ at_ → at_ + d ≤ 12 → ∀ q ∈ cE1 at_ op n (compF a at_), quOk M many q = true := by
  induction a using Exs.ind with
  | h a ih =>
  intro at_ op n d hok h4 h12 q hq
  unfold cE1 at hq
  by_cases h0 : op = 0
  · rw [if_pos h0] at hq
    unfold okE1 at hok
    rw [if_pos h0] at hok
    simp only [decide_eq_true_eq] at hok
    simp at hq
    subst hq
    have : isW n = true := isW_iff.2 (by omega)
    simp [quOk, quV, boxQ, reg, this]; omega
  rw [if_neg h0] at hq
  by_cases h13 : op = 13
  · rw [if_pos h13] at hq
    unfold okE1 at hok
    rw [if_neg h0, if_pos h13] at hok
    simp only [decide_eq_true_eq] at hok
    simp at hq
    subst hq
    simp [quOk, quV, boxQ, reg]; omega
  rw [if_neg h13] at hq
  obtain ⟨c0, c1, c2, c3⟩ := okE1_op hok h0 h13
  have hd1 : 1 < d := by
    unfold okE1 at hok
    rw [if_neg h0, if_neg h13] at hok
    simp only [Bool.and_eq_true, decide_eq_true_eq] at hok
    exact hok.1.2.2.2.2
  obtain ⟨x, y, hxy⟩ := two_of c2
  rw [okF_mem, hxy] at c3
  simp at c3
  rw [compF_two hxy] at hq
  simp only [List.mem_append, List.mem_singleton] at hq
  rcases hq with (q1 | q2) | q3
  · exact ih x (by rw [hxy]; simp) (at_ := at_) (d := d - 1) (op := x.op) (n := x.n) c3.1 h4 (by omega) q q1
  · exact ih y (by rw [hxy]; simp) (at_ := at_ + 1) (d := d - 1) (op := y.op) (n := y.n) c3.2 (by omega) (by omega) q q2
  · subst q3
    simp [quOk, quV, boxQ, reg]; omega
theorem cT_ok {M : Nat} {many : Int} {s : St1} {n : Int} (hok : okT 3 n s = true) (hbx : bxT many s = true) (base : Nat) (hM : base + (cT s base).length < M)
    (hy : ∀ b, b + (cS s.body b).length < M → ∀ q ∈ cS s.body b, quOk M many q = true) (hz : ∀ b, b + (cS s.els b).length < M → ∀ q ∈ cS s.els b, quOk M many q = true) : ∀ q ∈ cT s base, quOk M many q = true := by
  obtain ⟨hk, hoe, hsv, hsb, _⟩ := okT_facts hok
  have h1 := hy (base + (compE 4 s.e).length + 1)
  have h2 := hz (base + (compE 4 s.e).length + 1 + (cS s.body (base + (compE 4 s.e).length + 1)).length + 1)
  have hb2 : s.k = 4 ∨ s.k = 5 → s.b < many := fun h => by
    unfold bxT at hbx
    simp only [Bool.and_eq_true, decide_eq_true_eq] at hbx
    omega
  have hE : s.k ≠ 5 → s.k ≠ 6 → ∀ q ∈ compE 4 s.e, quOk M many q = true := fun a b q hq => cE1_ok s.e.args (at_ := 4) (d := 5) (op := s.e.op) (n := s.e.n) (hoe a b) (by omega) (by omega) q hq
  unfold cT at hM ⊢
  generalize cS s.body (base + (compE 4 s.e).length + 1) = Y at *
  generalize cS s.els (base + (compE 4 s.e).length + 1 + Y.length + 1) = Z at *
  generalize compE 4 s.e = E at *
  unfold stC at hM ⊢
  intro q hq
  by_cases k1 : s.k = 1
  · rw [if_pos k1] at hq hM
    simp only [List.mem_append, List.mem_singleton] at hq
    rcases hq with z | z
    · exact hE (by omega) (by omega) q z
    · subst z; have := hsv (.inl k1); simp [quOk, quV, boxQ, reg]; omega
  rw [if_neg k1] at hq hM
  by_cases k4 : s.k = 4
  · rw [if_pos k4] at hq hM
    simp only [List.mem_append, List.mem_singleton] at hq
    rcases hq with z | z
    · exact hE (by omega) (by omega) q z
    · subst z; have := hsb (.inl k4); have := hb2 (.inl k4); simp [quOk, quV, boxQ, reg]; omega
  rw [if_neg k4] at hq hM
  by_cases k5 : s.k = 5
  · rw [if_pos k5] at hq hM
    simp only [List.mem_singleton] at hq
    subst hq; have := hsb (.inr k5); have := hb2 (.inr k5); have := hsv (.inr k5); simp [quOk, quV, boxQ, reg]; omega
  rw [if_neg k5] at hq hM
  by_cases k6 : s.k = 6
  · rw [if_pos k6] at hq hM
    simp only [List.mem_singleton] at hq
    subst hq; simp [quOk, quV, boxQ, reg]
  rw [if_neg k6] at hq hM
  have hE := hE k5 k6
  by_cases k7 : s.k = 7
  · rw [if_pos k7] at hq hM
    simp only [List.mem_append, List.mem_singleton] at hq
    rcases hq with z | z
    · exact hE q z
    · subst z; simp [quOk, quV, boxQ, reg]
  rw [if_neg k7] at hq hM
  by_cases k3 : s.k = 3
  · rw [if_pos k3] at hq hM
    simp only [List.length_append, List.length_cons, List.length_nil] at hM
    simp only [List.mem_append, List.mem_cons, List.mem_singleton, List.not_mem_nil, or_false] at hq
    rcases hq with z | z | z | z
    · exact hE q z
    · subst z; simp [quOk, quV, boxQ, reg]; omega
    · exact h1 (by omega) q z
    · subst z; simp [quOk, quV, boxQ, reg]; omega
  rw [if_neg k3] at hq hM
  by_cases hz0 : s.els.list.length = 0
  · rw [if_pos hz0] at hq hM
    simp only [List.length_append, List.length_cons, List.length_nil] at hM
    simp only [List.mem_append, List.mem_cons] at hq
    rcases hq with z | z | z
    · exact hE q z
    · subst z; simp [quOk, quV, boxQ, reg]; omega
    · exact h1 (by omega) q z
  · rw [if_neg hz0] at hq hM
    simp only [List.length_append, List.length_cons, List.length_nil] at hM
    simp only [List.mem_append, List.mem_cons] at hq
    rcases hq with z | z | z | z | z
    · exact hE q z
    · subst z; simp [quOk, quV, boxQ, reg]; omega
    · exact h1 (by omega) q z
    · subst z; simp [quOk, quV, boxQ, reg]; omega
    · exact h2 (by omega) q z
theorem cS_ok {M : Nat} {many : Int} : ∀ {f : Sts} {n : Int}, okS 3 n f = true → bxS many f = true → ∀ base, base + (cS f base).length < M → ∀ q ∈ cS f base, quOk M many q = true
  | .nil, _, _, _, _, _, q, hq => by simp [cS] at hq
  | .cons k v b e y z r, n, h, hb, base, hM, q, hq => by
    simp only [okS, Bool.and_eq_true] at h
    obtain ⟨h1, h2⟩ := h
    have hT : okT 3 n ⟨k, v, b, e, y, z⟩ = true := h1
    simp only [bxS, Bool.and_eq_true, decide_eq_true_eq] at hb
    have hB : bxT many ⟨k, v, b, e, y, z⟩ = true := by unfold bxT; simp only [Bool.and_eq_true, decide_eq_true_eq]; exact hb.1
    have e1 : cS (.cons k v b e y z r) base = cT ⟨k, v, b, e, y, z⟩ base ++ cS r (base + (cT ⟨k, v, b, e, y, z⟩ base).length) := rfl
    rw [e1] at hM hq
    simp only [List.length_append] at hM
    obtain ⟨hy, hz⟩ := okT_yz hT
    rcases List.mem_append.1 hq with c | c
    · refine cT_ok hT hB base (by omega) (fun b' hb' q' hq' => ?_) (fun b' hb' q' hq' => ?_) q c
      · rcases hy with u | u
        · rw [cS_nil u] at hq'; simp at hq'
        · exact cS_ok u hb.1.2.1 b' hb' q' hq'
      · rcases hz with u | u
        · rw [cS_nil u] at hq'; simp at hq'
        · exact cS_ok u hb.1.2.2 b' hb' q' hq'
    · exact cS_ok h2 hb.2 _ (by omega) q c
theorem vaF_facts {many : Int} {f : Sts} (h : vaF many f = true) : okS 3 3 f = true ∧ ctS f ≤ 16 ∧ bxS many f = true := by
  unfold vaF vaS at h
  simp only [Bool.and_eq_true, decide_eq_true_eq] at h
  exact ⟨h.1.1, h.1.2, h.2⟩
theorem compT_va {many : Int} {f : Sts} (h : vaF many f = true) : (compT f).length ≤ 560 ∧ codeV (compT f) = true ∧ (compT f).all (boxQ many) = true := by
  obtain ⟨h1, h2, h3⟩ := vaF_facts h
  have hl := cS_len h1 0
  have hle : (compT f).length = (cS f 0).length + 1 := by simp [compT]
  have hall : ∀ q ∈ compT f, quOk (compT f).length many q = true := fun q hq => by
    unfold compT at hq
    rcases List.mem_append.1 hq with c | c
    · exact cS_ok h1 h3 0 (by omega) q c
    · simp at c; subst c; simp [quOk, quV, boxQ]
  refine ⟨by omega, ?_, List.all_eq_true.2 fun q hq => ?_⟩
  · unfold codeV
    simp only [Bool.and_eq_true, decide_eq_true_eq, List.all_eq_true]
    refine ⟨⟨by omega, fun q hq => ?_⟩, ?_⟩
    · have := hall q hq; unfold quOk at this; simp only [Bool.and_eq_true] at this; exact this.1
    · unfold lastOp compT; simp
  · have := hall q hq; unfold quOk at this; simp only [Bool.and_eq_true] at this; exact this.2
theorem newK_va {p : Pg} (h : vaPg p = true) : vaCw (newK p.rooms (p.tasks.map compT)) = true := by
  obtain ⟨hw, _, _⟩ := newW_bo h
  obtain ⟨w1, w2, w3, w4⟩ := vaWd_iff.1 hw
  unfold vaPg at h
  simp only [Bool.and_eq_true, decide_eq_true_eq, List.all_eq_true] at h
  refine vaCw_iff.2 ⟨by simp [newK]; omega, rfl, by simp [newK], w3, fun i l t hl ht => ?_⟩
  simp only [newK] at hl ht ⊢
  have hbl : (p.rooms.map fun x => (⟨x, []⟩ : Bx)).length = p.rooms.length := by simp
  rw [hbl]
  rw [List.getElem?_map] at hl
  obtain ⟨f, hf, rfl⟩ := Option.map_eq_some_iff.1 hl
  obtain ⟨c1, c2, c3⟩ := compT_va (h.2 f (List.mem_of_getElem? hf))
  have et : t = ⟨z12, 0⟩ := by
    rw [List.getElem?_map] at ht
    obtain ⟨_, _, rfl⟩ := Option.map_eq_some_iff.1 ht
    rfl
  subst et
  exact vaTh_iff.2 ⟨c2, thFit_iff.2 ⟨rfl, rfl, by simp, by have := (codeV_facts c2).1; simp; omega⟩, c3⟩
end Go.Proofs.YtcibjklpaljadaaGreat.AM
namespace Go.Proofs.YtcibjklpaljadaaGreat.AM
set_option linter.unusedSimpArgs false
set_option linter.unusedVariables false
set_option maxRecDepth 100000
set_option maxHeartbeats 2000000
open Go
attribute [-simp] AM.elems
def Sg (l : List Qd) (pc : Nat) (c : List Qd) : Prop := ∀ (i : Nat) (q : Qd), c[i]? = some q → l[pc + i]? = some q
theorem Sg.app {l pc a b} (h : Sg l pc (a ++ b)) : Sg l pc a ∧ Sg l (pc + a.length) b :=
  ⟨fun i q hq => h i q (by rw [List.getElem?_append_left (List.getElem?_eq_some_iff.1 hq).1]; exact hq),
   fun i q hq => by
    have := h (a.length + i) q (by rw [List.getElem?_append_right (by omega)]; rwa [show a.length + i - a.length = i by omega])
    rwa [← Nat.add_assoc] at this⟩
theorem Sg.cons {l pc q c} (h : Sg l pc (q :: c)) : l[pc]? = some q ∧ Sg l (pc + 1) c := by
  have h1 := Sg.app (a := [q]) (b := c) (by simpa using h)
  exact ⟨h 0 q rfl, by simpa using h1.2⟩
inductive Sil (l : List Qd) : Nat → Th → Th → Prop
  | refl {t} : Sil l 0 t t
  | step {k q t t1 t2} : l[t.pc.toNat]? = some q → (∀ bs, stepQ q t bs = (t1, bs, [], 1)) → Sil l k t1 t2 → Sil l (k + 1) t t2
theorem Sil.trans {l k t t1} (h : Sil l k t t1) : ∀ {j t2}, Sil l j t1 t2 → Sil l (k + j) t t2 := by
  induction h with
  | refl => intro j t2 h2; rw [Nat.zero_add]; exact h2
  | step a b c ih => intro j t2 h2; rw [show ∀ k, k + 1 + j = (k + j) + 1 by omega]; exact .step a b (ih h2)
theorem Sil.one {l q t t1} (h : l[t.pc.toNat]? = some q) (k : ∀ bs, stepQ q t bs = (t1, bs, [], 1)) : Sil l 1 t t1 := .step h k .refl
theorem set_get_lt {l : List Int} {i r : Nat} {x : Int} (h : r ≠ i) : (l.set i x)[r]? = l[r]? := List.getElem?_set_ne (Ne.symm h)
theorem evalS {l : List Qd} (a : Exs) : ∀ {at_ op n d : Int} {pc : Nat} {t : Th} {vars : List Int}, okE1 d op n a.list.length (okF (d - 1) a) = true → 4 ≤ at_ → at_ + d ≤ 12 → Sg l pc (cE1 at_ op n (compF a at_)) → t.pc = pc → t.regs.length = 12 → t.regs.take 4 = vars →
    ∃ t', Sil l (cE1 at_ op n (compF a at_)).length t t' ∧ t'.pc = (pc + (cE1 at_ op n (compF a at_)).length : Nat) ∧ t'.regs.length = 12 ∧ (∀ r : Nat, (r : Int) < at_ → t'.regs[r]? = t.regs[r]?) ∧ t'.regs[at_.toNat]? = some (evE1 vars op n (evF vars a)) := by
  induction a using Exs.ind with
  | h a ih =>
  intro at_ op n d pc t vars hok h4 h12 hs hpc hl hv
  have hd : 0 < d := by
    unfold okE1 at hok
    by_cases h0 : op = 0
    · rw [if_pos h0] at hok; simp only [decide_eq_true_eq] at hok; omega
    by_cases h13 : op = 13
    · rw [if_neg h0, if_pos h13] at hok; simp only [decide_eq_true_eq] at hok; omega
    rw [if_neg h0, if_neg h13] at hok
    simp only [Bool.and_eq_true, decide_eq_true_eq] at hok
    omega
  have hpt : t.pc.toNat = pc := by omega
  by_cases h0 : op = 0
  · have e : cE1 at_ op n (compF a at_) = [⟨1, at_, 0, 0, n⟩] := by unfold cE1; rw [if_pos h0]
    rw [e] at hs ⊢
    refine ⟨⟨t.regs.set at_.toNat n, t.pc + 1⟩, Sil.one (by rw [hpt]; exact hs.cons.1) (fun bs => by unfold stepQ; rw [if_pos rfl]), by simp [hpc], by simpa using hl, fun r hr => set_get_lt (by omega), ?_⟩
    simp only
    rw [List.getElem?_set_self (by omega)]
    unfold evE1; rw [if_pos h0]
  by_cases h13 : op = 13
  · have e : cE1 at_ op n (compF a at_) = [⟨2, at_, n, 0, 0⟩] := by unfold cE1; rw [if_neg h0, if_pos h13]
    rw [e] at hs ⊢
    have hn : 0 ≤ n ∧ n < 4 := by
      unfold okE1 at hok
      rw [if_neg h0, if_pos h13] at hok
      simp only [decide_eq_true_eq] at hok
      omega
    refine ⟨⟨t.regs.set at_.toNat (rg t n), t.pc + 1⟩, Sil.one (by rw [hpt]; exact hs.cons.1) (fun bs => by unfold stepQ; rw [if_neg (by simp), if_pos rfl]), by simp [hpc], by simpa using hl, fun r hr => set_get_lt (by omega), ?_⟩
    simp only
    rw [List.getElem?_set_self (by omega)]
    unfold evE1 rg
    rw [if_neg h0, if_pos h13, ← hv, List.getD_eq_getElem?_getD, List.getElem?_take_of_lt (by omega)]
  obtain ⟨c0, c1, c2, c3⟩ := okE1_op hok h0 h13
  have hd1 : 1 < d := by
    unfold okE1 at hok
    rw [if_neg h0, if_neg h13] at hok
    simp only [Bool.and_eq_true, decide_eq_true_eq] at hok
    exact hok.1.2.2.2.2
  obtain ⟨x, y, hxy⟩ := two_of c2
  rw [okF_mem, hxy] at c3
  simp at c3
  have e : cE1 at_ op n (compF a at_) = compE at_ x ++ compE (at_ + 1) y ++ [⟨3, at_, at_, at_ + 1, op⟩] := by unfold cE1; rw [if_neg h0, if_neg h13, compF_two hxy]
  rw [e] at hs ⊢
  obtain ⟨hs12, hs3⟩ := hs.app
  obtain ⟨hs1, hs2⟩ := hs12.app
  obtain ⟨t1, s1, p1, l1, r1, v1⟩ := ih x (by rw [hxy]; simp) (at_ := at_) (d := d - 1) (op := x.op) (n := x.n) c3.1 h4 (by omega) hs1 hpc hl hv
  have tk : ∀ {u u' : Th}, (∀ r : Nat, (r : Int) < at_ → u'.regs[r]? = u.regs[r]?) → u'.regs.take 4 = u.regs.take 4 := fun h => by
    apply List.ext_getElem?
    intro r
    by_cases hr : r < 4
    · rw [List.getElem?_take_of_lt hr, List.getElem?_take_of_lt hr]; exact h r (by omega)
    · rw [List.getElem?_eq_none (by simp; omega), List.getElem?_eq_none (by simp; omega)]
  obtain ⟨t2, s2, p2, l2, r2, v2⟩ := ih y (by rw [hxy]; simp) (at_ := at_ + 1) (d := d - 1) (op := y.op) (n := y.n) (vars := vars) c3.2 (by omega) (by omega) hs2 p1 l1 (by rw [tk r1, hv])
  have z1 : (cE1 at_ x.op x.n (compF x.args at_)) = compE at_ x := rfl
  have z2 : (cE1 (at_ + 1) y.op y.n (compF y.args (at_ + 1))) = compE (at_ + 1) y := rfl
  rw [z1] at s1 p1
  rw [z2] at s2 p2
  have v1' : t2.regs[at_.toNat]? = some (evE1 vars x.op x.n (evF vars x.args)) := by rw [r2 at_.toNat (by omega)]; exact v1
  have ga : rg t2 at_ = evE vars x := by unfold rg; rw [v1']; rfl
  have gb : rg t2 (at_ + 1) = evE vars y := by unfold rg; rw [v2]; rfl
  refine ⟨⟨t2.regs.set at_.toNat (applyM op (rg t2 at_) (rg t2 (at_ + 1))), t2.pc + 1⟩, ?_, ?_, by simpa using l2, fun r hr => ?_, ?_⟩
  · rw [List.length_append, List.length_append, List.length_singleton]
    refine (s1.trans s2).trans (Sil.one (q := ⟨3, at_, at_, at_ + 1, op⟩) ?_ (fun bs => ?_))
    · have := hs3.cons.1
      rw [List.length_append] at this
      rw [p2, Int.toNat_natCast, Nat.add_assoc]; exact this
    · unfold stepQ; rw [if_neg (by simp), if_neg (by simp), if_pos rfl]
  · simp only [p2, List.length_append, List.length_singleton]; omega
  · simp only
    rw [set_get_lt (by omega), r2 r (by omega), r1 r hr]
  · simp only
    rw [List.getElem?_set_self (by omega), ga, gb]
    unfold evE1
    rw [if_neg h0, if_neg h13, evF_map, hxy]
    rfl
inductive Pend (l : List Qd) : Nat → Nat → List St1 → Prop
  | done {pc} : l[pc]? = some ⟨10, 0, 0, 0, 0⟩ → Pend l 0 pc []
  | jump {lev pc t r} : l[pc]? = some ⟨4, 0, 0, 0, (t : Nat)⟩ → Pend l lev t r → Pend l (lev + 1) pc r
  | stmt {lev pc n s r} : Sg l pc (cT s pc) → okT 3 n s = true → 0 ≤ n → Pend l lev (pc + (cT s pc).length) r → (lev : Int) ≤ 3 - n → Pend l 0 pc (s :: r)
theorem Pend.list {l : List Qd} {n : Int} (hn : 0 ≤ n) {lev : Nat} {r : List St1} (hlev : (lev : Int) ≤ 3 - n) : ∀ (ys : List St1) (pc : Nat), (∀ s ∈ ys, okT 3 n s = true) → Sg l pc (cS (Sts.of ys) pc) → Pend l lev (pc + (cS (Sts.of ys) pc).length) r → ∃ lev', lev' ≤ lev ∧ Pend l lev' pc (ys ++ r)
  | [], pc, _, _, h => ⟨lev, Nat.le_refl _, by simpa [cS] using h⟩
  | s :: ys, pc, hok, hs, h => by
    rw [cS_of] at hs h
    obtain ⟨h1, h2⟩ := hs.app
    rw [List.length_append, ← Nat.add_assoc] at h
    obtain ⟨lev', hl, hp⟩ := Pend.list hn hlev ys (pc + (cT s pc).length) (fun x hx => hok x (List.mem_cons_of_mem _ hx)) h2 h
    exact ⟨0, by omega, .stmt h1 (hok s List.mem_cons_self) hn hp (by omega)⟩
theorem Pend.sil {l : List Qd} {lev pc r} (h : Pend l lev pc r) : ∀ {t : Th}, t.pc = (pc : Nat) → ∃ pc', Sil l lev t ⟨t.regs, (pc' : Nat)⟩ ∧ Pend l 0 pc' r := by
  induction h with
  | done h => intro t ht; exact ⟨_, by rw [← ht]; exact .refl, .done h⟩
  | stmt a b c d e ih => intro t ht; exact ⟨_, by rw [← ht]; exact .refl, .stmt a b c d e⟩
  | @jump lev pc u r a b ih =>
    intro t ht
    obtain ⟨pc', s, p⟩ := ih (t := ⟨t.regs, (u : Nat)⟩) rfl
    exact ⟨pc', .step (by rw [ht, Int.toNat_natCast]; exact a) (fun bs => by unfold stepQ; rw [if_neg (by simp), if_neg (by simp), if_neg (by simp), if_pos rfl]) s, p⟩
end Go.Proofs.YtcibjklpaljadaaGreat.AM
namespace Go.Proofs.YtcibjklpaljadaaGreat.AM
set_option linter.unusedSimpArgs false
set_option linter.unusedVariables false
set_option maxRecDepth 100000
set_option maxHeartbeats 2000000
open Go
attribute [-simp] AM.elems
def RelT (l : List Qd) (t : Tk) (th : Th) : Prop :=
  th.regs.length = 12 ∧ th.regs.take 4 = t.vars ∧ ∃ pc : Nat, th.pc = pc ∧
    ((∃ lev, lev ≤ 3 ∧ Pend l lev pc t.rest.list) ∨ ∃ s r lev, t.rest.list = s :: r ∧ s.k = 4 ∧ l[pc]? = some ⟨6, 0, 4, 0, s.b⟩ ∧ rg th 4 = evE t.vars s.e ∧ lev ≤ 3 ∧ Pend l lev (pc + 1) r)
theorem take_set4 {l : List Int} {i : Nat} {x : Int} (hi : i < 4) : (l.set i x).take 4 = (l.take 4).set i x := by
  apply List.ext_getElem?
  intro j
  by_cases hj : j < 4
  · rw [List.getElem?_take_of_lt hj]
    by_cases hij : j = i
    · subst hij
      by_cases hl : j < l.length
      · rw [List.getElem?_set_self hl, List.getElem?_set_self (by simp; omega)]
      · rw [List.getElem?_eq_none (by simp; omega), List.getElem?_eq_none (by simp; omega)]
    · rw [List.getElem?_set_ne (Ne.symm hij), List.getElem?_set_ne (Ne.symm hij), List.getElem?_take_of_lt hj]
  · rw [List.getElem?_eq_none (by simp; omega), List.getElem?_eq_none (by simp; omega)]
theorem evalT {l : List Qd} {e : Ex} {pc : Nat} {t : Th} (hok : okE 5 e = true) (hs : Sg l pc (compE 4 e)) (hpc : t.pc = pc) (hl : t.regs.length = 12) :
    ∃ t', Sil l (compE 4 e).length t t' ∧ t'.pc = (pc + (compE 4 e).length : Nat) ∧ t'.regs.length = 12 ∧ t'.regs.take 4 = t.regs.take 4 ∧ rg t' 4 = evE (t.regs.take 4) e := by
  obtain ⟨t', a1, a2, a3, a4, a5⟩ := evalS e.args (at_ := 4) (d := 5) (op := e.op) (n := e.n) (vars := t.regs.take 4) hok (by omega) (by omega) hs hpc hl rfl
  refine ⟨t', a1, a2, a3, ?_, ?_⟩
  · apply List.ext_getElem?
    intro r
    by_cases hr : r < 4
    · rw [List.getElem?_take_of_lt hr, List.getElem?_take_of_lt hr]; exact a4 r (by omega)
    · rw [List.getElem?_eq_none (by simp; omega), List.getElem?_eq_none (by simp; omega)]
  · unfold rg; rw [a5]; rfl
def Sim1 (l : List Qd) (t : Tk) (th : Th) (bs : List Bx) (K : Nat) : Prop :=
  ∃ k q th1 th2, Sil l k th th1 ∧ k ≤ K ∧ l[th1.pc.toNat]? = some q ∧ stepQ q th1 bs = (th2, (stepP t bs).2.1, (stepP t bs).2.2.1, (stepP t bs).2.2.2) ∧ RelT l (stepP t bs).1 th2 ∧ ((stepP t bs).2.2.2 = 3 ∨ (stepP t bs).2.2.2 = 4 → th2 = th1)
theorem send_sim {l : List Qd} {t : Tk} {th : Th} {bs : List Bx} {s : St1} {r : List St1} {pc lev : Nat} (hl : th.regs.length = 12) (hv : th.regs.take 4 = t.vars) (hr : t.rest.list = s :: r) (k4 : s.k = 4) (hpc : th.pc = pc) (hq : l[pc]? = some ⟨6, 0, 4, 0, s.b⟩) (he : rg th 4 = evE t.vars s.e) (hlev : lev ≤ 3) (hp : Pend l lev (pc + 1) r) :
    ∃ th2, stepQ ⟨6, 0, 4, 0, s.b⟩ th bs = (th2, (stepP t bs).2.1, (stepP t bs).2.2.1, (stepP t bs).2.2.2) ∧ RelT l (stepP t bs).1 th2 ∧ ((stepP t bs).2.2.2 = 3 ∨ (stepP t bs).2.2.2 = 4 → th2 = th) := by
  have e : stepP t bs = ((talkP t bs s r).1, (talkP t bs s r).2.1, [], (talkP t bs s r).2.2) := by unfold stepP; rw [hr]; simp [k4]
  have mid : RelT l t th := ⟨hl, hv, pc, hpc, .inr ⟨s, r, lev, hr, k4, hq, he, hlev, hp⟩⟩
  have e2 : stepQ ⟨6, 0, 4, 0, s.b⟩ th bs = match bs[s.b.toNat]? with
    | none => (th, bs, [], 3)
    | some bx => if (bx.items.length : Int) < bx.room then (⟨th.regs, th.pc + 1⟩, bs.set s.b.toNat ⟨bx.room, bx.items ++ [rg th 4]⟩, [], 1) else (th, bs, [], 3) := by
    unfold stepQ
    rw [if_neg (by simp), if_neg (by simp), if_neg (by simp), if_neg (by simp), if_neg (by simp), if_pos rfl]
    all_goals (cases bs[s.b.toNat]? <;> rfl)
  rw [e, e2]
  unfold talkP
  cases hb : bs[s.b.toNat]? with
  | none => exact ⟨th, rfl, mid, fun _ => rfl⟩
  | some bx =>
    simp only [if_pos k4]
    by_cases hroom : (bx.items.length : Int) < bx.room
    · rw [if_pos hroom, if_pos hroom]
      exact ⟨⟨th.regs, th.pc + 1⟩, by rw [he], ⟨hl, hv, pc + 1, by simp only [hpc]; omega, .inl ⟨lev, hlev, by rw [Sts.list_of]; exact hp⟩⟩, fun h => by simp at h⟩
    · rw [if_neg hroom, if_neg hroom]
      exact ⟨th, rfl, mid, fun _ => rfl⟩
theorem stmt_sim {l : List Qd} {t : Tk} {th : Th} {bs : List Bx} {s : St1} {r : List St1} {pc lev : Nat} {n : Int} (hl : th.regs.length = 12) (hv : th.regs.take 4 = t.vars) (hr : t.rest.list = s :: r) (hpc : th.pc = pc)
    (hs : Sg l pc (cT s pc)) (hok : okT 3 n s = true) (hn : 0 ≤ n) (hp : Pend l lev (pc + (cT s pc).length) r) (hlev : (lev : Int) ≤ 3 - n) : Sim1 l t th bs 31 := by
  obtain ⟨hk, hoe, hsv, hsb, _⟩ := okT_facts hok
  have hlev3 : lev ≤ 3 := by omega
  have hself : Sg l pc (cT s pc) := hs
  obtain ⟨hyy, hzz⟩ := okT_yz hok
  by_cases k5 : s.k = 5
  · have ec : cT s pc = [⟨7, s.v, 0, 0, s.b⟩] := by unfold cT stC; rw [if_neg (by omega), if_neg (by omega), if_pos k5]
    rw [ec] at hs hp
    have e : stepP t bs = ((talkP t bs s r).1, (talkP t bs s r).2.1, [], (talkP t bs s r).2.2) := by unfold stepP; rw [hr]; simp [k5]
    have self : RelT l t th := ⟨hl, hv, pc, hpc, .inl ⟨0, by omega, by rw [hr]; exact .stmt hself hok hn (by rw [ec]; exact hp) hlev⟩⟩
    refine ⟨0, ⟨7, s.v, 0, 0, s.b⟩, th, ?_⟩
    have hq := hs.cons.1
    have e2 : stepQ ⟨7, s.v, 0, 0, s.b⟩ th bs = match bs[s.b.toNat]? with
      | none => (th, bs, [], 3)
      | some bx =>
        match bx.items with
        | [] => (th, bs, [], 3)
        | y :: r => (⟨th.regs.set s.v.toNat y, th.pc + 1⟩, bs.set s.b.toNat ⟨bx.room, r⟩, [], 1) := by
      unfold stepQ
      rw [if_neg (by simp), if_neg (by simp), if_neg (by simp), if_neg (by simp), if_neg (by simp), if_neg (by simp), if_pos rfl]
      all_goals (rcases bs[s.b.toNat]? with _ | ⟨_, _ | _⟩ <;> rfl)
    have hq' : l[th.pc.toNat]? = some ⟨7, s.v, 0, 0, s.b⟩ := by rw [hpc, Int.toNat_natCast]; exact hq
    have hsv := hsv (.inr k5)
    rw [e]
    unfold talkP
    cases hb : bs[s.b.toNat]? with
    | none => exact ⟨th, .refl, by omega, hq', by rw [e2, hb], self, fun _ => rfl⟩
    | some bx =>
      simp only [if_neg (show ¬ s.k = 4 by omega)]
      cases hi : bx.items with
      | nil => exact ⟨th, .refl, by omega, hq', by rw [e2, hb]; simp only [hi], self, fun _ => rfl⟩
      | cons y qq =>
        refine ⟨⟨th.regs.set s.v.toNat y, th.pc + 1⟩, .refl, by omega, hq', by rw [e2, hb]; simp only [hi], ⟨by simpa using hl, by simp only; rw [take_set4 (by omega), hv], pc + 1, by simp only [hpc]; omega, .inl ⟨lev, hlev3, by rw [Sts.list_of]; exact hp⟩⟩, fun h => by simp at h⟩
  by_cases k6 : s.k = 6
  · have ec : cT s pc = [⟨8, 0, 0, 0, 0⟩] := by unfold cT stC; rw [if_neg (by omega), if_neg (by omega), if_neg (by omega), if_pos k6]
    rw [ec] at hs hp
    have e : stepP t bs = (⟨t.vars, Sts.of r⟩, bs, [], 2) := by unfold stepP; rw [hr]; simp [k6]
    rw [show Sim1 l t th bs 31 = _ from rfl]
    unfold Sim1
    rw [e]
    refine ⟨0, ⟨8, 0, 0, 0, 0⟩, th, ⟨th.regs, th.pc + 1⟩, .refl, by omega, by rw [hpc, Int.toNat_natCast]; exact hs.cons.1, by unfold stepQ; rw [if_neg (by simp), if_neg (by simp), if_neg (by simp), if_neg (by simp), if_neg (by simp), if_neg (by simp), if_neg (by simp), if_pos rfl], ⟨hl, hv, pc + 1, by simp only [hpc]; omega, .inl ⟨lev, hlev3, by rw [Sts.list_of]; exact hp⟩⟩, fun h => by simp at h⟩
  have hE := hoe k5 k6
  have hEl := compE_len hE 4
  have fin : ∀ (C : List Qd) (q : Qd) (e' : cT s pc = compE 4 s.e ++ q :: C), ∃ t1, Sil l (compE 4 s.e).length th t1 ∧ t1.pc = (pc + (compE 4 s.e).length : Nat) ∧ t1.regs.length = 12 ∧ t1.regs.take 4 = t.vars ∧ rg t1 4 = evE t.vars s.e ∧ l[t1.pc.toNat]? = some q ∧ Sg l (pc + (compE 4 s.e).length + 1) C := fun C q e' => by
    rw [e'] at hs
    obtain ⟨h1, h2⟩ := hs.app
    obtain ⟨h3, h4⟩ := h2.cons
    obtain ⟨t1, a1, a2, a3, a4, a5⟩ := evalT hE h1 hpc hl
    exact ⟨t1, a1, a2, a3, by rw [a4, hv], by rw [a5, hv], by rw [a2, Int.toNat_natCast]; exact h3, h4⟩
  by_cases k4 : s.k = 4
  · have ec : cT s pc = compE 4 s.e ++ [⟨6, 0, 4, 0, s.b⟩] := by unfold cT stC; rw [if_neg (by omega), if_pos k4]
    obtain ⟨t1, a1, a2, a3, a4, a5, a6, _⟩ := fin [] _ ec
    rw [ec] at hp
    simp only [List.length_append, List.length_singleton] at hp
    rw [← Nat.add_assoc] at hp
    rw [a2, Int.toNat_natCast] at a6
    obtain ⟨th2, b1, b2, b3⟩ := send_sim (bs := bs) a3 a4 hr k4 a2 a6 a5 hlev3 hp
    exact ⟨_, _, t1, th2, a1, by omega, by rw [a2, Int.toNat_natCast]; exact a6, b1, b2, b3⟩
  by_cases k1 : s.k = 1
  · have ec : cT s pc = compE 4 s.e ++ [⟨2, s.v, 4, 0, 0⟩] := by unfold cT stC; rw [if_pos k1]
    obtain ⟨t1, a1, a2, a3, a4, a5, a6, _⟩ := fin [] _ ec
    rw [ec] at hp
    simp only [List.length_append, List.length_singleton] at hp
    have e : stepP t bs = (⟨t.vars.set s.v.toNat (evE t.vars s.e), Sts.of r⟩, bs, [], 1) := by unfold stepP; rw [hr]; simp [k1]
    have hsv := hsv (.inl k1)
    unfold Sim1
    rw [e]
    refine ⟨_, _, t1, ⟨t1.regs.set s.v.toNat (rg t1 4), t1.pc + 1⟩, a1, by omega, a6, by unfold stepQ; rw [if_neg (by simp), if_pos rfl], ⟨by simpa using a3, by simp only; rw [take_set4 (by omega), a4, a5], pc + ((compE 4 s.e).length + 1), by simp only [a2]; omega, .inl ⟨lev, hlev3, by rw [Sts.list_of]; exact hp⟩⟩, fun h => by simp at h⟩
  by_cases k7 : s.k = 7
  · have ec : cT s pc = compE 4 s.e ++ [⟨9, 0, 4, 0, 0⟩] := by unfold cT stC; rw [if_neg k1, if_neg k4, if_neg k5, if_neg k6, if_pos k7]
    obtain ⟨t1, a1, a2, a3, a4, a5, a6, _⟩ := fin [] _ ec
    rw [ec] at hp
    simp only [List.length_append, List.length_singleton] at hp
    have e : stepP t bs = (⟨t.vars, Sts.of r⟩, bs, [evE t.vars s.e], 1) := by unfold stepP; rw [hr]; simp [k7]
    unfold Sim1
    rw [e]
    refine ⟨_, _, t1, ⟨t1.regs, t1.pc + 1⟩, a1, by omega, a6, by unfold stepQ; rw [if_neg (by simp), if_neg (by simp), if_neg (by simp), if_neg (by simp), if_neg (by simp), if_neg (by simp), if_neg (by simp), if_neg (by simp), if_pos rfl, a5], ⟨a3, a4, pc + ((compE 4 s.e).length + 1), by simp only [a2]; omega, .inl ⟨lev, hlev3, by rw [Sts.list_of]; exact hp⟩⟩, fun h => by simp at h⟩
  have k23 : s.k = 2 ∨ s.k = 3 := by omega
  have e : stepP t bs = (⟨t.vars, blkR s r (evE t.vars s.e)⟩, bs, [], 1) := by unfold stepP; rw [hr]; simp only; rw [if_neg (by omega), if_pos k23]
  have hn1 : 1 ≤ n := by
    unfold okT okS1 at hok
    simp only [Bool.and_eq_true, Bool.or_eq_true, decide_eq_true_eq] at hok
    rcases hok.2 with q | q
    · omega
    · exact q.1.1
  have okl : ∀ {f : Sts}, (f.list.length = 0 ∨ okS 3 (n - 1) f = true) → ∀ x ∈ f.list, okT 3 (n - 1) x = true := fun h x hx => by
    rcases h with u | u
    · rw [List.eq_nil_of_length_eq_zero u] at hx; simp at hx
    · rw [okS_mem] at u; exact List.all_eq_true.1 u x hx
  have sq : ∀ (N : Int) (u : Th), stepQ ⟨5, 0, 4, 0, N⟩ u bs = (⟨u.regs, if rg u 4 = 0 then N else u.pc + 1⟩, bs, [], 1) := fun N u => by
    unfold stepQ; rw [if_neg (by simp), if_neg (by simp), if_neg (by simp), if_neg (by simp), if_pos rfl]
  unfold Sim1
  rw [e]
  obtain ⟨Y, hY⟩ : ∃ Y, Y = cS s.body (pc + (compE 4 s.e).length + 1) := ⟨_, rfl⟩
  obtain ⟨Z, hZ⟩ : ∃ Z, Z = cS s.els (pc + (compE 4 s.e).length + 1 + Y.length + 1) := ⟨_, rfl⟩
  have hYl : cS (Sts.of s.body.list) (pc + (compE 4 s.e).length + 1) = Y := by rw [Sts.of_list]; exact hY.symm
  have hZl : cS (Sts.of s.els.list) (pc + (compE 4 s.e).length + 1 + Y.length + 1) = Z := by rw [Sts.of_list]; exact hZ.symm
  by_cases k3 : s.k = 3
  · have ec : cT s pc = compE 4 s.e ++ ⟨5, 0, 4, 0, (pc + (compE 4 s.e).length + 1 + Y.length + 1 : Nat)⟩ :: (Y ++ [⟨4, 0, 0, 0, pc⟩]) := by
      unfold cT; rw [← hY]; unfold stC; rw [if_neg k1, if_neg k4, if_neg k5, if_neg k6, if_neg k7, if_pos k3]
    obtain ⟨t1, a1, a2, a3, a4, a5, a6, a7⟩ := fin _ _ ec
    obtain ⟨h1, h2⟩ := a7.app
    have hp0 := hp
    rw [ec] at hp
    simp only [List.length_append, List.length_cons, List.length_nil] at hp
    refine ⟨_, _, t1, _, a1, by omega, a6, sq _ _, ⟨a3, a4, ?_⟩, fun h => by simp at h⟩
    rw [a5]
    have eb : blkR s r (evE t.vars s.e) = if evE t.vars s.e ≠ 0 then Sts.of (s.body.list ++ (s :: r)) else Sts.of r := by unfold blkR; rw [if_neg (by omega)]
    rw [eb]
    by_cases hx : evE t.vars s.e = 0
    · simp only [hx, if_true]
      refine ⟨_, rfl, .inl ⟨lev, hlev3, ?_⟩⟩
      rw [if_neg (by simp), Sts.list_of]
      rw [show pc + (compE 4 s.e).length + 1 + Y.length + 1 = pc + ((compE 4 s.e).length + (Y.length + (0 + 1) + 1)) by omega]
      exact hp
    · simp only [hx, if_false]
      refine ⟨pc + (compE 4 s.e).length + 1, by rw [a2]; omega, .inl ?_⟩
      rw [if_pos hx, Sts.list_of]
      have back : Pend l 1 (pc + (compE 4 s.e).length + 1 + (cS (Sts.of s.body.list) (pc + (compE 4 s.e).length + 1)).length) (s :: r) := by
        rw [hYl]
        exact .jump (t := pc) h2.cons.1 (.stmt hself hok hn hp0 hlev)
      obtain ⟨lev', u1, u2⟩ := Pend.list (n := n - 1) (by omega) (lev := 1) (by omega) s.body.list _ (okl hyy) (by rw [hYl]; exact h1) back
      exact ⟨lev', by omega, u2⟩
  have k2 : s.k = 2 := by omega
  have eb : blkR s r (evE t.vars s.e) = Sts.of ((if evE t.vars s.e ≠ 0 then s.body else s.els).list ++ r) := by unfold blkR; rw [if_pos k2]
  by_cases hz : s.els.list.length = 0
  · have ec : cT s pc = compE 4 s.e ++ ⟨5, 0, 4, 0, (pc + (compE 4 s.e).length + 1 + Y.length : Nat)⟩ :: Y := by
      unfold cT; rw [← hY]; unfold stC; rw [if_neg k1, if_neg k4, if_neg k5, if_neg k6, if_neg k7, if_neg k3, if_pos hz]
    obtain ⟨t1, a1, a2, a3, a4, a5, a6, a7⟩ := fin _ _ ec
    rw [ec] at hp
    simp only [List.length_append, List.length_cons, List.length_nil] at hp
    rw [show pc + ((compE 4 s.e).length + (Y.length + 1)) = pc + (compE 4 s.e).length + 1 + Y.length by omega] at hp
    refine ⟨_, _, t1, _, a1, by omega, a6, sq _ _, ⟨a3, a4, ?_⟩, fun h => by simp at h⟩
    rw [a5, eb]
    by_cases hx : evE t.vars s.e = 0
    · simp only [hx, if_true]
      refine ⟨_, rfl, .inl ⟨lev, hlev3, ?_⟩⟩
      rw [Sts.list_of]
      have : (if (0 : Int) ≠ 0 then s.body else s.els).list = [] := by rw [if_neg (by simp)]; exact List.eq_nil_of_length_eq_zero hz
      rw [this, List.nil_append]
      exact hp
    · simp only [hx, if_false]
      refine ⟨pc + (compE 4 s.e).length + 1, by rw [a2]; omega, .inl ?_⟩
      rw [Sts.list_of, if_pos hx]
      obtain ⟨lev', u1, u2⟩ := Pend.list (n := n - 1) (by omega) (lev := lev) (by omega) s.body.list _ (okl hyy) (by rw [hYl]; exact a7) (by rw [hYl]; exact hp)
      exact ⟨lev', by omega, u2⟩
  · have ec : cT s pc = compE 4 s.e ++ ⟨5, 0, 4, 0, (pc + (compE 4 s.e).length + 1 + Y.length + 1 : Nat)⟩ :: (Y ++ ⟨4, 0, 0, 0, (pc + (compE 4 s.e).length + 1 + Y.length + 1 + Z.length : Nat)⟩ :: Z) := by
      unfold cT; rw [← hY, ← hZ]; unfold stC; rw [if_neg k1, if_neg k4, if_neg k5, if_neg k6, if_neg k7, if_neg k3, if_neg hz]
    obtain ⟨t1, a1, a2, a3, a4, a5, a6, a7⟩ := fin _ _ ec
    obtain ⟨h1, h2⟩ := a7.app
    obtain ⟨h3, h4⟩ := h2.cons
    rw [ec] at hp
    simp only [List.length_append, List.length_cons, List.length_nil] at hp
    rw [show pc + ((compE 4 s.e).length + (Y.length + (Z.length + 1) + 1)) = pc + (compE 4 s.e).length + 1 + Y.length + 1 + Z.length by omega] at hp
    refine ⟨_, _, t1, _, a1, by omega, a6, sq _ _, ⟨a3, a4, ?_⟩, fun h => by simp at h⟩
    rw [a5, eb]
    by_cases hx : evE t.vars s.e = 0
    · simp only [hx, if_true]
      refine ⟨_, rfl, .inl ?_⟩
      rw [Sts.list_of, if_neg (by simp)]
      obtain ⟨lev', u1, u2⟩ := Pend.list (n := n - 1) (by omega) (lev := lev) (by omega) s.els.list _ (okl hzz) (by rw [hZl]; exact h4) (by rw [hZl]; exact hp)
      exact ⟨lev', by omega, u2⟩
    · simp only [hx, if_false]
      refine ⟨pc + (compE 4 s.e).length + 1, by rw [a2]; omega, .inl ?_⟩
      rw [Sts.list_of, if_pos hx]
      obtain ⟨lev', u1, u2⟩ := Pend.list (n := n - 1) (by omega) (lev := lev + 1) (by omega) s.body.list _ (okl hyy) (by rw [hYl]; exact h1) (by rw [hYl]; exact .jump h3 hp)
      exact ⟨lev', by omega, u2⟩
theorem RelT.sim {l : List Qd} {t : Tk} {th : Th} {bs : List Bx} (h : RelT l t th) : Sim1 l t th bs 35 := by
  obtain ⟨hl, hv, pc, hpc, ⟨lev, hlev, hp⟩ | ⟨s, r, lev, hr, k4, hq, he, hlev, hp⟩⟩ := h
  · obtain ⟨pc', s1, p1⟩ := hp.sil hpc
    have lift : ∀ {K : Nat}, Sim1 l t ⟨th.regs, (pc' : Nat)⟩ bs K → Sim1 l t th bs (K + 3) := fun ⟨k, q, th1, th2, b1, b2, b3⟩ => ⟨lev + k, q, th1, th2, s1.trans b1, by omega, b3⟩
    generalize hR : t.rest.list = R at p1
    cases p1 with
    | done hd =>
      have e : stepP t bs = (t, bs, [], 4) := by unfold stepP; rw [hR]
      have : Sim1 l t ⟨th.regs, (pc' : Nat)⟩ bs 32 := by
        unfold Sim1
        rw [e]
        exact ⟨0, ⟨10, 0, 0, 0, 0⟩, ⟨th.regs, (pc' : Nat)⟩, ⟨th.regs, (pc' : Nat)⟩, .refl, by omega, by simp only [Int.toNat_natCast]; exact hd, by unfold stepQ; simp, ⟨hl, hv, pc', rfl, .inl ⟨0, by omega, by rw [hR]; exact .done hd⟩⟩, fun _ => rfl⟩
      exact lift this
    | stmt a b c d e =>
      have := lift (stmt_sim (bs := bs) hl hv hR rfl a b c d e)
      obtain ⟨k, q, th1, th2, b1, b2, b3⟩ := this
      exact ⟨k, q, th1, th2, b1, by omega, b3⟩
  · obtain ⟨th2, b1, b2, b3⟩ := send_sim (bs := bs) hl hv hr k4 hpc hq he hlev hp
    exact ⟨0, _, th, th2, .refl, by omega, by rw [hpc, Int.toNat_natCast]; exact hq, b1, b2, b3⟩
end Go.Proofs.YtcibjklpaljadaaGreat.AM
namespace Go.Proofs.YtcibjklpaljadaaGreat.AM
set_option linter.unusedSimpArgs false
set_option linter.unusedVariables false
set_option maxRecDepth 100000
set_option maxHeartbeats 2000000
open Go
attribute [-simp] AM.elems
theorem runC_succ {n : Nat} {c : Cw} (h : c.idle < c.threads.length) : runC (n + 1) c = runC n (stepC c) := by
  conv => lhs; unfold runC
  rw [if_pos h]
theorem runC_rest {n : Nat} {c : Cw} (h : ¬ c.idle < c.threads.length) : runC n c = c := by
  cases n with
  | zero => rfl
  | succ n => unfold runC; rw [if_neg h]
theorem runC_add (a b : Nat) : ∀ c : Cw, runC b (runC a c) = runC (a + b) c := by
  induction a with
  | zero => intro c; rw [Nat.zero_add]; rfl
  | succ a ih =>
    intro c
    rw [show a + 1 + b = (a + b) + 1 by omega]
    by_cases h : c.idle < c.threads.length
    · rw [runC_succ h, runC_succ h, ih]
    · rw [runC_rest h, runC_rest h, runC_rest h]
theorem stepC_of {c : Cw} {q : Qd} {th : Th} {l : List Qd} (hl : c.codes[c.turn.toNat]? = some l) (ht : c.threads[c.turn.toNat]? = some th) (hq : l[th.pc.toNat]? = some q) :
    stepC c = ⟨c.codes, c.threads.set c.turn.toNat (stepQ q th c.boxes).1, (stepQ q th c.boxes).2.1, (nextT c.threads.length c.turn c.idle (stepQ q th c.boxes).2.2.2).1, (nextT c.threads.length c.turn c.idle (stepQ q th c.boxes).2.2.2).2, c.out ++ (stepQ q th c.boxes).2.2.1⟩ := by
  unfold stepC qAt; rw [ht, hl]; simp [hq]
theorem sil_run {l : List Qd} {k : Nat} {t t' : Th} (h : Sil l k t t') : ∀ {c : Cw} (m : Nat), c.codes[c.turn.toNat]? = some l → c.threads[c.turn.toNat]? = some t → c.idle < c.threads.length →
    runC (k + m) c = runC m ⟨c.codes, c.threads.set c.turn.toNat t', c.boxes, c.turn, if k = 0 then c.idle else 0, c.out⟩ := by
  induction h with
  | refl =>
    intro c m hl ht hi
    rw [Nat.zero_add, set_same ht, if_pos rfl]
  | @step k q t t1 t2 a b s ih =>
    intro c m hl ht hi
    rw [show k + 1 + m = (k + m) + 1 by omega, runC_succ hi, stepC_of hl ht a, b c.boxes]
    have hlen := (List.getElem?_eq_some_iff.1 ht).1
    have hn : nextT c.threads.length c.turn c.idle 1 = (c.turn, 0) := by unfold nextT; rw [if_pos rfl]
    simp only [hn, List.append_nil]
    have := ih (c := ⟨c.codes, c.threads.set c.turn.toNat t1, c.boxes, c.turn, 0, c.out⟩) m hl (by simp only; rw [List.getElem?_set_self hlen]) (by simp only [List.length_set]; omega)
    rw [this]
    simp only [List.set_set, if_neg (Nat.succ_ne_zero k)]
    congr 1
    split <;> rfl
theorem stillQ {q : Qd} {th : Th} {bs : List Bx} (h : (stepQ q th bs).2.2.2 = 3 ∨ (stepQ q th bs).2.2.2 = 4) : (stepQ q th bs).1 = th ∧ (stepQ q th bs).2.1 = bs ∧ (stepQ q th bs).2.2.1 = [] := by
  unfold stepQ at h ⊢
  by_cases h1 : q.op = 1
  · rw [if_pos h1] at h; simp at h
  rw [if_neg h1] at h ⊢
  by_cases h2 : q.op = 2
  · rw [if_pos h2] at h; simp at h
  rw [if_neg h2] at h ⊢
  by_cases h3 : q.op = 3
  · rw [if_pos h3] at h; simp at h
  rw [if_neg h3] at h ⊢
  by_cases h4 : q.op = 4
  · rw [if_pos h4] at h; simp at h
  rw [if_neg h4] at h ⊢
  by_cases h5 : q.op = 5
  · rw [if_pos h5] at h; simp at h
  rw [if_neg h5] at h ⊢
  by_cases h6 : q.op = 6
  · rw [if_pos h6] at h ⊢
    cases hb : bs[q.n.toNat]? with
    | none => exact ⟨rfl, rfl, rfl⟩
    | some bx =>
      rw [hb] at h
      simp only at h ⊢
      split
      · rename_i hr; rw [if_pos hr] at h; simp at h
      · exact ⟨rfl, rfl, rfl⟩
  rw [if_neg h6] at h ⊢
  by_cases h7 : q.op = 7
  · rw [if_pos h7] at h ⊢
    cases hb : bs[q.n.toNat]? with
    | none => exact ⟨rfl, rfl, rfl⟩
    | some bx =>
      rw [hb] at h
      simp only at h ⊢
      cases hi : bx.items with
      | nil => exact ⟨rfl, rfl, rfl⟩
      | cons y r => rw [hi] at h; simp at h
  rw [if_neg h7] at h ⊢
  by_cases h8 : q.op = 8
  · rw [if_pos h8] at h; simp at h
  rw [if_neg h8] at h ⊢
  by_cases h9 : q.op = 9
  · rw [if_pos h9] at h; simp at h
  rw [if_neg h9]
  exact ⟨rfl, rfl, rfl⟩
structure RelC (w : Wd) (c : Cw) : Prop where
  tl : c.threads.length = w.tasks.length
  rel : ∀ (i : Nat) (l : List Qd) (t : Tk) (th : Th), c.codes[i]? = some l → w.tasks[i]? = some t → c.threads[i]? = some th → RelT l t th
  boxes : c.boxes = w.boxes
  out : c.out = w.out
  turn : c.turn = w.turn
  idle : c.idle ≤ w.idle
  va : vaWd w = true
  vc : vaCw c = true
  park : ∀ j : Int, 1 ≤ j → j ≤ w.idle → ∀ q th, qAt c.codes c.threads ((w.turn - j) % w.tasks.length) = some (q, th) → (stepQ q th c.boxes).2.2.2 = 3 ∨ (stepQ q th c.boxes).2.2.2 = 4
theorem RelC.step {w : Wd} {c : Cw} (h : RelC w c) (hi : w.idle < w.tasks.length) : ∃ m, 1 ≤ m ∧ m ≤ 36 ∧ RelC (stepW w) (runC m c) := by
  obtain ⟨h1, h2, h3, h4⟩ := vaWd_iff.1 h.va
  obtain ⟨g1, g2, g3, g4, g5⟩ := vaCw_iff.1 h.vc
  have htl := h.tl
  have htu := h.turn
  have hidl := h.idle
  obtain ⟨t, ht⟩ : ∃ t, w.tasks[w.turn.toNat]? = some t := ⟨_, List.getElem?_eq_getElem (by omega)⟩
  obtain ⟨l, hl⟩ : ∃ t, c.codes[w.turn.toNat]? = some t := ⟨_, List.getElem?_eq_getElem (by omega)⟩
  obtain ⟨th, hth⟩ : ∃ t, c.threads[w.turn.toNat]? = some t := ⟨_, List.getElem?_eq_getElem (by omega)⟩
  have hlen := (List.getElem?_eq_some_iff.1 hth).1
  have hlenw := (List.getElem?_eq_some_iff.1 ht).1
  obtain ⟨k, q, th1, th2, s1, s2, s3, s4, s5, s6⟩ := (h.rel _ l t th hl ht hth).sim (bs := w.boxes)
  have hcode := step_code' (bs := w.boxes) (h4 t (List.mem_of_getElem? ht))
  have e : stepW w = ⟨w.tasks.set w.turn.toNat (stepP t w.boxes).1, (stepP t w.boxes).2.1, (nextT w.tasks.length w.turn w.idle (stepP t w.boxes).2.2.2).1, (nextT w.tasks.length w.turn w.idle (stepP t w.boxes).2.2.2).2, w.out ++ (stepP t w.boxes).2.2.1⟩ := by
    unfold stepW; rw [ht]
  have hkw := (stepW_keeps h.va hi).1
  obtain ⟨ix, hix⟩ : ∃ ix : Int, ix = if k = 0 then c.idle else 0 := ⟨_, rfl⟩
  have hixl : ix ≤ w.idle ∧ 0 ≤ ix := by rw [hix]; split <;> omega
  have er : runC (k + 1) c = ⟨c.codes, c.threads.set w.turn.toNat th2, (stepP t w.boxes).2.1, (nextT w.tasks.length w.turn ix (stepP t w.boxes).2.2.2).1, (nextT w.tasks.length w.turn ix (stepP t w.boxes).2.2.2).2, w.out ++ (stepP t w.boxes).2.2.1⟩ := by
    rw [sil_run s1 1 (by rw [htu]; exact hl) (by rw [htu]; exact hth) (by omega), ← hix, htu]
    rw [show (1 : Nat) = 0 + 1 from rfl, runC_succ (by simp only [List.length_set]; omega)]
    have := stepC_of (c := ⟨c.codes, c.threads.set w.turn.toNat th1, c.boxes, w.turn, ix, c.out⟩) hl (by simp only; rw [List.getElem?_set_self hlen]) s3
    rw [this]
    simp only [h.boxes, s4, List.set_set, List.length_set, htl, h.out]
    rfl
  refine ⟨k + 1, by omega, by omega, ?_⟩
  have hkc := (runC_keeps (k + 1) h.vc).1
  rw [er] at hkc ⊢
  rw [e] at hkw ⊢
  refine ⟨by simpa using htl, fun i l' t' th' hl' ht' hth' => ?_, rfl, rfl, ?_, ?_, hkw, hkc, fun j hj1 hj2 q' th' hq' => ?_⟩
  · simp only at hl' ht' hth'
    by_cases hit : i = w.turn.toNat
    · subst hit
      rw [List.getElem?_set_self hlenw] at ht'
      rw [List.getElem?_set_self hlen] at hth'
      rw [hl] at hl'
      cases ht'; cases hth'; cases hl'
      exact s5
    · rw [List.getElem?_set_ne (Ne.symm hit)] at ht' hth'
      exact h.rel i l' t' th' hl' ht' hth'
  · simp only
    unfold nextT
    split
    · rfl
    split <;> rfl
  · simp only
    unfold nextT
    split
    · simp
    split
    · simp
    · simp only; omega
  · simp only at hj2 hq' ⊢
    by_cases c1 : (stepP t w.boxes).2.2.2 = 1
    · rw [c1] at hj2; simp [nextT] at hj2; omega
    by_cases c2 : (stepP t w.boxes).2.2.2 = 2
    · rw [c2] at hj2; simp [nextT] at hj2; omega
    have hs : (stepP t w.boxes).2.2.2 = 3 ∨ (stepP t w.boxes).2.2.2 = 4 := by omega
    have e12 := s6 hs
    subst e12
    have hsq : (stepQ q th2 w.boxes).2.2.2 = 3 ∨ (stepQ q th2 w.boxes).2.2.2 = 4 := by rw [s4]; exact hs
    have hbx : (stepP t w.boxes).2.1 = w.boxes := by
      have := (stillQ hsq).2.1
      rw [s4] at this
      exact this
    rw [hbx]
    have en : nextT w.tasks.length w.turn w.idle (stepP t w.boxes).2.2.2 = ((w.turn + 1) % w.tasks.length, w.idle + 1) := by unfold nextT; rw [if_neg c1, if_neg c2]
    rw [en] at hj2 hq'
    simp only [List.length_set] at hj2 hq'
    have hm : (((w.turn + 1) % w.tasks.length - j) % w.tasks.length) = (w.turn + 1 - j) % w.tasks.length := by
      rw [Int.emod_sub_emod]
    rw [hm] at hq'
    by_cases j1 : j = 1
    · subst j1
      rw [show w.turn + 1 - 1 = w.turn by omega, Int.emod_eq_of_lt (by omega) (by omega)] at hq'
      unfold qAt at hq'
      rw [List.getElem?_set_self hlen, hl] at hq'
      simp [s3] at hq'
      obtain ⟨rfl, rfl⟩ := hq'
      exact hsq
    · have hne : ((w.turn + 1 - j) % w.tasks.length) ≠ w.turn := fun he => by
        have m0 := Int.emod_nonneg (w.turn + 1 - j) (show (w.tasks.length : Int) ≠ 0 by omega)
        by_cases hc : 0 ≤ w.turn + 1 - j
        · rw [Int.emod_eq_of_lt hc (by omega)] at he; omega
        · have : (w.turn + 1 - j) % w.tasks.length = w.turn + 1 - j + w.tasks.length := by
            rw [← Int.add_emod_right, Int.emod_eq_of_lt (by omega) (by omega)]
          rw [this] at he; omega
      have m0 := Int.emod_nonneg (w.turn + 1 - j) (show (w.tasks.length : Int) ≠ 0 by omega)
      have := h.park (j - 1) (by omega) (by omega) q' th' (by
        rw [show w.turn - (j - 1) = w.turn + 1 - j by omega]
        unfold qAt at hq' ⊢
        rw [List.getElem?_set_ne (by omega)] at hq'
        exact hq')
      rw [h.boxes] at this
      exact this
theorem RelC.run (n : Nat) : ∀ {w : Wd} {c : Cw}, RelC w c → ∃ m, m ≤ 36 * n ∧ RelC (runW n w) (runC m c) ∧ ((runW n w).idle < (runW n w).tasks.length → n ≤ m) := by
  induction n with
  | zero => intro w c h; exact ⟨0, by omega, h, fun _ => by omega⟩
  | succ n ih =>
    intro w c h
    by_cases hi : w.idle < w.tasks.length
    · obtain ⟨m1, a0, a1, a2⟩ := h.step hi
      obtain ⟨m2, b1, b2, b3⟩ := ih a2
      rw [runC_add] at b2
      rw [runW_succ hi]
      exact ⟨m1 + m2, by omega, b2, fun hh => by have := b3 hh; omega⟩
    · rw [runW_rest hi]
      exact ⟨0, by omega, h, fun hh => absurd hh hi⟩
theorem RelC.new {p : Pg} (hv : vaPg p = true) : RelC (newW p) (newK p.rooms (p.tasks.map compT)) where
  tl := by simp [newW, newK]
  rel := fun i l t th hl ht hth => by
    simp only [newK, newW] at hl ht hth
    rw [List.getElem?_map] at hl ht
    obtain ⟨f, hf, rfl⟩ := Option.map_eq_some_iff.1 hl
    rw [hf] at ht
    simp at ht
    subst ht
    have et : th = ⟨z12, 0⟩ := by
      rw [List.getElem?_map] at hth
      obtain ⟨_, _, rfl⟩ := Option.map_eq_some_iff.1 hth
      rfl
    subst et
    have hv' := hv
    unfold vaPg at hv'
    simp only [Bool.and_eq_true, decide_eq_true_eq, List.all_eq_true] at hv'
    obtain ⟨o1, o2, o3⟩ := vaF_facts (hv'.2 f (List.mem_of_getElem? hf))
    have e0 : cS (Sts.of f.list) 0 = cS f 0 := by rw [Sts.of_list]
    have hd : Pend (compT f) 0 (0 + (cS (Sts.of f.list) 0).length) [] := by
      rw [e0, Nat.zero_add]
      refine .done ?_
      unfold compT
      simp
    obtain ⟨lev, u1, u2⟩ := Pend.list (l := compT f) (n := 3) (by omega) (lev := 0) (by omega) f.list 0 (fun s hs => by rw [okS_mem] at o1; exact List.all_eq_true.1 o1 s hs) (fun i q hq => by
      rw [e0] at hq
      unfold compT
      rw [Nat.zero_add, List.getElem?_append_left (List.getElem?_eq_some_iff.1 hq).1]; exact hq) hd
    rw [List.append_nil] at u2
    exact ⟨rfl, rfl, 0, rfl, .inl ⟨lev, by omega, u2⟩⟩
  boxes := rfl
  out := rfl
  turn := rfl
  idle := Int.le_refl _
  va := (newW_bo hv).1
  vc := newK_va hv
  park := fun j h1 h2 => by simp [newW] at h2; omega
end Go.Proofs.YtcibjklpaljadaaGreat.AM
namespace Go.Proofs.YtcibjklpaljadaaGreat.AM
set_option linter.unusedSimpArgs false
set_option linter.unusedVariables false
set_option maxRecDepth 100000
set_option maxHeartbeats 4000000
open Go
attribute [-simp] AM.elems
end Go.Proofs.YtcibjklpaljadaaGreat.AM
namespace Go.Proofs.YtcibjklpaljadaaGreat.AM
set_option linter.unusedSimpArgs false
set_option linter.unusedVariables false
set_option maxRecDepth 100000
set_option maxHeartbeats 4000000
open Go
attribute [-simp] AM.elems
end Go.Proofs.YtcibjklpaljadaaGreat.AM
namespace Go.Proofs.YtcibjklpaljadaaGreat.AM
set_option linter.unusedSimpArgs false
set_option linter.unusedVariables false
set_option maxRecDepth 100000
set_option maxHeartbeats 4000000
open Go
attribute [-simp] AM.elems
theorem CS.ext' {base H0 H H' v B v' B' L'} (h : CS base H H' v B v' B' L') (x : Ext H0 H) (hb : ∀ b ∈ grB v B, H0.n ≤ b) : Ext H0 H' :=
  ⟨Nat.le_trans x.1 h.le, fun b hb' => (h.2.1.2 b (by have := x.1; omega) (fun hm => by have := hb b hm; omega)).trans (x.2 b hb')⟩
end Go.Proofs.YtcibjklpaljadaaGreat.AM
namespace Go.Proofs.YtcibjklpaljadaaGreat.AM
set_option linter.unusedSimpArgs false
set_option linter.unusedVariables false
set_option maxRecDepth 100000
set_option maxHeartbeats 4000000
open Go
attribute [-simp] AM.elems
section
variable {ok : Nat → Prop} {n : Int} {H : AH} {K : AV → AH → Prop} {w : Fk K} {c : List AV} {s : St1}
end
end Go.Proofs.YtcibjklpaljadaaGreat.AM
namespace Go.Proofs.YtcibjklpaljadaaGreat.AM
set_option linter.unusedSimpArgs false
set_option linter.unusedVariables false
set_option maxRecDepth 100000
set_option maxHeartbeats 4000000
open Go
attribute [-simp] AM.elems
section
variable {ok : Nat → Prop} {n : Int} {H : AH} {K : AV → AH → Prop} {w : Fk K} {c : List AV} {s : St1}
end
section
variable {ok : Nat → Prop} {H : AH} {K : AV → AH → Prop} {w : Fk K} {v : AV} {f : Sts}
end
end Go.Proofs.YtcibjklpaljadaaGreat.AM
namespace Go.Proofs.YtcibjklpaljadaaGreat.AM
set_option linter.unusedSimpArgs false
set_option linter.unusedVariables false
set_option maxRecDepth 100000
set_option maxHeartbeats 4000000
open Go
attribute [-simp] AM.elems
end Go.Proofs.YtcibjklpaljadaaGreat.AM
namespace Go.Proofs.YtcibjklpaljadaaGreat.AM
set_option linter.unusedSimpArgs false
set_option linter.unusedVariables false
set_option maxRecDepth 100000
set_option maxHeartbeats 4000000
open Go
attribute [-simp] AM.elems
def OS (H : AH) (v : AV) (b n sz : Nat) (cs : List AV) : Prop :=
  n ≤ 8589934592 ∧ cs.length = n * sz ∧ ((v = .nils ∧ n = 0) ∨ ∃ c ex, v = .sl b 0 n c ∧ capOk n sz c ∧ b < H.n ∧ H.bk b = some ⟨cs ++ ex, true⟩)
theorem OS.slc {ok : Nat → Prop} {H v b n sz cs} (h : OS H v b n sz cs) (ho : v ≠ .nils → ok b) : SlC ok H v n sz cs := by
  obtain ⟨h1, h2, ⟨rfl, rfl⟩ | ⟨c, ex, rfl, h3, h4, h5⟩⟩ := h
  · exact ⟨h1, h2, .inl ⟨rfl, .inl rfl⟩⟩
  · exact ⟨h1, h2, .inr ⟨b, 0, c, rfl, ⟨ho (by simp), h3⟩, h4, by rw [loadN_bk h5]; exact seg_app h2⟩⟩
theorem OS.flat {H v b n sz cs} (h : OS H v b n sz cs) : v.flat = true := (h.slc (ok := fun _ => True) (fun _ => trivial)).flat
theorem OS.alen {H v b n sz cs} (h : OS H v b n sz cs) : AM.alen v = some n := (h.slc (ok := fun _ => True) (fun _ => trivial)).alen
theorem OS.only {H H' v b n sz cs bs} (h : OS H v b n sz cs) (k : Only bs H H') (hb : ∀ x ∈ grB v b, x ∉ bs) : OS H' v b n sz cs := by
  obtain ⟨h1, h2, ⟨rfl, rfl⟩ | ⟨c, ex, rfl, h3, h4, h5⟩⟩ := h
  · exact ⟨h1, h2, .inl ⟨rfl, rfl⟩⟩
  · exact ⟨h1, h2, .inr ⟨c, ex, rfl, h3, Nat.lt_of_lt_of_le h4 k.1, k.bk h4 (hb b (by simp [grB])) h5⟩⟩
theorem OS.ext {H H' v b n sz cs} (h : OS H v b n sz cs) (k : Ext H H') : OS H' v b n sz cs := h.only (bs := []) k.only (by simp)
theorem OS.mem {H v b n sz cs} (h : OS H v b n sz cs) {x : Nat} (hx : x ∈ grB v b) : x = b ∧ b < H.n := by
  obtain ⟨h1, h2, ⟨rfl, rfl⟩ | ⟨c, ex, rfl, h3, h4, h5⟩⟩ := h
  · simp [grB] at hx
  · simp [grB] at hx; exact ⟨hx, h4⟩
theorem OS.new {G : AH} {n sz : Nat} {cs : List AV} (hn : n ≤ 8589934592) (hc : cs.length = n * sz) : OS (G.push cs) (.sl G.n 0 n (.ex n)) G.n n sz cs :=
  ⟨hn, hc, .inr ⟨_, [], rfl, Nat.le_refl _, Nat.lt_succ_self _, by rw [List.append_nil]; exact push_new⟩⟩
theorem GrS.os {base G v n sz cs B} (h : GrS base G v n sz cs B) : OS G v B n sz cs := by
  obtain ⟨h1, h2, h3⟩ := h
  refine ⟨by omega, h2, ?_⟩
  rcases h3 with ⟨rfl, h4⟩ | ⟨h4, h5, ⟨rfl, h6⟩ | ⟨c, ex, rfl, h7, h8, h9⟩⟩
  · exact .inl ⟨rfl, h4⟩
  · exact .inr ⟨_, [], rfl, Nat.le_refl _, h5, by rw [List.append_nil]; exact h6⟩
  · exact .inr ⟨_, ex, rfl, ⟨h7, rfl⟩, h5, h9⟩
theorem ISl.os {base G v l I} (h : ISl base G v l I) : OS G v I l.length 1 (Ints l) := h.grs.os
abbrev OI (H : AH) (v : AV) (b : Nat) (l : List Int) : Prop := OS H v b l.length 1 (Ints l)
theorem OI.sees {H v b l} (h : OI H v b l) : SeesZ H v l := (show IV (fun _ => True) H v l from h.slc fun _ => trivial).sees
theorem OI.iv {ok : Nat → Prop} {H v b l} (h : OI H v b l) (ho : v ≠ .nils → ok b) : IV ok H v l := h.slc ho
def OB (H : AH) (v : AV) (l : List Bx) (B : Nat) (rs : List (AV × Nat)) : Prop :=
  rs.length = l.length ∧ OS H v B l.length 2 (cellsB l rs) ∧ (∀ (i : Nat) (x : Bx) (p : AV × Nat), l[i]? = some x → rs[i]? = some p → OI H p.1 p.2 x.items ∧ B ∉ grB p.1 p.2) ∧
    (∀ (i j : Nat) (p q : AV × Nat), i ≠ j → rs[i]? = some p → rs[j]? = some q → ∀ b ∈ grB p.1 p.2, b ∉ grB q.1 q.2)
def fpO (v : AV) (B : Nat) (rs : List (AV × Nat)) : List Nat := grB v B ++ rs.flatMap fun p => grB p.1 p.2
theorem mem_fpO {v : AV} {B : Nat} {rs : List (AV × Nat)} {b : Nat} : b ∈ fpO v B rs ↔ b ∈ grB v B ∨ ∃ p ∈ rs, b ∈ grB p.1 p.2 := by simp [fpO]
theorem OB.only {H H' v l B rs bs} (h : OB H v l B rs) (k : Only bs H H') (hb : ∀ x ∈ fpO v B rs, x ∉ bs) : OB H' v l B rs := by
  obtain ⟨h1, h2, h3, h4⟩ := h
  exact ⟨h1, h2.only k (fun x hx => hb x (mem_fpO.2 (.inl hx))), fun i x p hx hp => ⟨(h3 i x p hx hp).1.only k (fun y hy => hb y (mem_fpO.2 (.inr ⟨p, List.mem_of_getElem? hp, hy⟩))), (h3 i x p hx hp).2⟩, h4⟩
theorem OB.ext {H H' v l B rs} (h : OB H v l B rs) (k : Ext H H') : OB H' v l B rs := h.only (bs := []) k.only (by simp)
theorem OB.mem {H v l B rs} (h : OB H v l B rs) {b : Nat} (hb : b ∈ fpO v B rs) : b < H.n := by
  obtain ⟨h1, h2, h3, h4⟩ := h
  rcases mem_fpO.1 hb with q | ⟨p, hp, q⟩
  · have := h2.mem q; omega
  · obtain ⟨i, hi, e⟩ := List.getElem_of_mem hp
    have hil : i < l.length := by omega
    have := (h3 i l[i] p (List.getElem?_eq_getElem hil) (by rw [List.getElem?_eq_getElem hi, e])).1.mem q
    omega
theorem cellsB_LF' {H : AH} {ok : Nat → Prop} : ∀ {l : List Bx} {r : List (AV × Nat)}, r.length = l.length → (∀ (i : Nat) (x : Bx) (p : AV × Nat), l[i]? = some x → r[i]? = some p → IV ok H p.1 x.items) → LF 2 (BC ok H) l (cellsB l r)
  | [], [], _, _ => rfl
  | x :: l, p :: r, h, k => ⟨[.I x.room, p.1], cellsB l r, rfl, rfl, ⟨p.1, rfl, k 0 x p rfl rfl⟩, cellsB_LF' (by simpa using h) (fun i y q h1 h2 => k (i + 1) y q (by simpa using h1) (by simpa using h2))⟩
  | [], _ :: _, h, _ => by simp at h
  | _ :: _, [], h, _ => by simp at h
theorem OB.bv {ok : Nat → Prop} {H v l B rs} (h : OB H v l B rs) (ho : ∀ b ∈ fpO v B rs, ok b) : BV ok H v l := by
  obtain ⟨h1, h2, h3, h4⟩ := h
  have gr : ∀ {u : AV} {b : Nat}, u ≠ .nils → b ∈ grB u b := fun {u b} hu => by cases u <;> simp [grB] at hu ⊢
  refine ⟨_, h2.slc fun hv => ho B (mem_fpO.2 (.inl (gr hv))), cellsB_LF' h1 fun i x p hx hp => ?_⟩
  exact (h3 i x p hx hp).1.iv fun hv => ho _ (mem_fpO.2 (.inr ⟨p, List.mem_of_getElem? hp, gr hv⟩))
def ArgI (H : AH) (v : AV) (l : List Int) : Prop := alen v = some l.length ∧ l.length ≤ 9223372036854775807 ∧ v.flat = true ∧ (l.length ≤ 8589934592 → IV (fun _ => True) H v l)
def ArgQ (H : AH) (v : AV) (l : List Qd) : Prop := alen v = some l.length ∧ l.length ≤ 9223372036854775807 ∧ v.flat = true ∧ (l.length ≤ 8589934592 → QV (fun _ => True) H v l)
def ArgB (H : AH) (v : AV) (l : List Bx) : Prop := alen v = some l.length ∧ l.length ≤ 9223372036854775807 ∧ v.flat = true ∧ (l.length ≤ 8589934592 → ∃ ca, SlC (fun _ => True) H v l.length 2 ca ∧ LF 2 (fun c (x : Bx) => ∃ vi, c = [.I x.room, vi] ∧ ArgI H vi x.items) l ca)
theorem ArgI.ext {H H' v l} (h : ArgI H v l) (k : Ext H H') : ArgI H' v l := ⟨h.1, h.2.1, h.2.2.1, fun q => (h.2.2.2 q).ext k⟩
theorem ArgQ.ext {H H' v l} (h : ArgQ H v l) (k : Ext H H') : ArgQ H' v l := ⟨h.1, h.2.1, h.2.2.1, fun q => (h.2.2.2 q).ext k⟩
theorem ArgB.ext {H H' v l} (h : ArgB H v l) (k : Ext H H') : ArgB H' v l := ⟨h.1, h.2.1, h.2.2.1, fun q => let ⟨ca, h1, h2⟩ := h.2.2.2 q; ⟨ca, h1.ext k, h2.imp fun _ _ ⟨vi, e, a⟩ => ⟨vi, e, a.ext k⟩⟩⟩
theorem ArgB.at {H v l} (h : ArgB H v l) (hl : l.length ≤ 8589934592) {i : Nat} {x : Bx} (hi : l[i]? = some x) : ∃ b o cap vi, v = .sl b o l.length cap ∧ b < H.n ∧ H.loadN b (o + i * 2) 2 = some [.I x.room, vi] ∧ ArgI H vi x.items := by
  obtain ⟨ca, h1, h2⟩ := h.2.2.2 hl
  have hil := (List.getElem?_eq_some_iff.1 hi).1
  obtain ⟨b, o, cap, e1, e2, e3, e4⟩ := h1.at hil
  obtain ⟨c, f1, vi, rfl, f2⟩ := h2.get hi
  exact ⟨b, o, cap, vi, e1, e3, by rw [e4 (i * 2) 2 (by omega)]; exact f1, f2⟩
theorem ArgB.bv {H v l} (h : ArgB H v l) (hl : l.length ≤ 8589934592) (hi : ∀ x ∈ l, x.items.length ≤ 8589934592) : BV (fun _ => True) H v l := by
  obtain ⟨ca, h1, h2⟩ := h.2.2.2 hl
  have : ∀ (l : List Bx) (ca : List AV), (∀ x ∈ l, x.items.length ≤ 8589934592) → LF 2 (fun c (x : Bx) => ∃ vi, c = [.I x.room, vi] ∧ ArgI H vi x.items) l ca → LF 2 (BC (fun _ => True) H) l ca := by
    intro l
    induction l with
    | nil => intro ca _ h; exact h
    | cons x l ih =>
      intro ca hi ⟨c, cr, e1, e2, ⟨vi, e3, e4⟩, e5⟩
      exact ⟨c, cr, e1, e2, ⟨vi, e3, e4.2.2.2 (hi x List.mem_cons_self)⟩, ih cr (fun y hy => hi y (List.mem_cons_of_mem _ hy)) e5⟩
  exact ⟨ca, h1, this l ca hi h2⟩
section
variable {H : AH} {K : AV → AH → Prop} {w : Fk K} {n : Int}
theorem K_wszBox {vi : AV} {room : Int} {k : Nat} (h : alen vi = some k) (hk : k ≤ 9223372036854775807) (hn : -1 ≤ n ∧ n ≤ 1048576) (c : ∀ H', Ext H H' → K (.I (if n - k < 0 then -1 else n - k)) H') : CallF Cd f_wszBox [.agg [.I room, vi], .I n] H K w := by
  rw [CallF_eq e_wszBox rfl]
  have cc := c _ (Ext.push H [.I room, vi])
  by_cases h0 : n - (k : Int) < 0
  · rw [if_pos h0] at cc
    simp (disch := omega) [load_push, K_wszIntS' h hk, h0]
    exact cc
  · rw [if_neg h0] at cc
    simp (disch := omega) [load_push, K_wszIntS' h hk, h0]
    exact cc
theorem K_wszBoxS_l {H0 : AH} {v : AV} {l : List Bx} (h : ArgB H0 v l) (hl : l.length ≤ 1048576) {Q : Out → Env → AH → Prop} (hret : ∀ e H, Q .ret e H = bindO (get e 4) fun v => K v H) (hbad : ∀ H', Ext H0 H' → K (.I (-1)) H') {n0 : Int}
    (m i : Nat) (hm : i + m = l.length) {G : AH} (hx : Ext H0 G) {n : Int} (hn : 0 ≤ n ∧ n ≤ n0) (hn0 : n0 ≤ 1048576) (hall : ∀ j < i, ∀ x, l[j]? = some x → x.items.length ≤ 1048576)
    (hQ : ∀ e G' x, 0 ≤ x → x ≤ n0 → (∀ y ∈ l, y.items.length ≤ 1048576) → Ext H0 G' → get e 1 = some (.I x) → Q (.brk 0) e G') :
    W Cd (.loop c_wszBoxS_l0) [(0, v), (1, .I n), (5, .I i)] G Q := by
  induction m generalizing i G n with
  | zero =>
    rw [W_loop_as c_wszBoxS_l0.eq_1]
    have : i = l.length := by omega
    subst this
    simp [h.1]
    exact hQ _ G n hn.1 hn.2 (fun y hy => by
      obtain ⟨j, hj, e⟩ := List.getElem_of_mem hy
      exact hall j hj y (by rw [List.getElem?_eq_getElem hj, e])) hx rfl
  | succ m ih =>
    rw [W_loop_as c_wszBoxS_l0.eq_1]
    have hlt : i < l.length := by omega
    have hlt' : (i : Int) < l.length := by omega
    obtain ⟨x, hxi⟩ : ∃ x, l[i]? = some x := ⟨_, List.getElem?_eq_getElem hlt⟩
    have hal := h.1
    obtain ⟨b, o, cap, vi, e1, hb, l1, ai⟩ := (h.ext hx).at (by omega) hxi
    subst e1
    simp (disch := omega) [hlt', l1]
    refine K_wszBox ai.1 ai.2.1 (by omega) fun H2 x2 => ?_
    by_cases h0 : n - (x.items.length : Int) < 0
    · simp [h0, hret]
      exact hbad H2 (hx.trans x2)
    · have := ih (i + 1) (by omega) (hx.trans x2) (n := n - x.items.length) (by omega) (fun j hj y hy => by
        by_cases hji : j = i
        · subst hji; rw [hxi] at hy; cases hy; omega
        · exact hall j (by omega) y hy)
      simp (disch := omega) [h0]
      simpa using this
theorem K_wszBoxS {v : AV} {l : List Bx} (h : ArgB H v l) (hn : 0 ≤ n ∧ n ≤ 1048576) (k0 : ∀ H', Ext H H' → K (.I (-1)) H')
    (k1 : ∀ H' x, 0 ≤ x → x ≤ n → l.length ≤ 1048576 → (∀ y ∈ l, y.items.length ≤ 1048576) → Ext H H' → K (.I x) H') : CallF Cd f_wszBoxS [v, .I n] H K w := by
  rw [CallF_eq e_wszBoxS rfl]
  have hb := h.2.1
  by_cases h0 : n - (l.length : Int) < 0
  · simp (disch := omega) [h.1, h0]
    exact k0 H (Ext.refl _)
  · simp (disch := omega) [h.1, h0]
    have := K_wszBoxS_l (K := K) h (by omega) (Q := ?_) (fun e H => ?_) k0 (n0 := n) l.length 0 (by omega) (Ext.refl _) (n := n - l.length) (by omega) (by omega) (by simp) ?_
    · simpa using this
    · simp
    · intro e G' x h1 h2 h3 h4 h5
      simp [h5]
      exact k1 G' x h1 h2 (by omega) h3 h4
end
end Go.Proofs.YtcibjklpaljadaaGreat.AM
namespace Go.Proofs.YtcibjklpaljadaaGreat.AM
set_option linter.unusedSimpArgs false
set_option linter.unusedVariables false
set_option maxRecDepth 100000
set_option maxHeartbeats 4000000
open Go
attribute [-simp] AM.elems
theorem splice_take {cs vs : List AV} {o : Nat} (h : o + vs.length ≤ cs.length) : (splice cs o vs).take (o + vs.length) = cs.take o ++ vs := by
  unfold splice
  rw [List.take_append_of_le_length (by simp; omega), List.take_of_length_le (by simp; omega)]
theorem splice_len {cs vs : List AV} {o : Nat} (h : o + vs.length ≤ cs.length) : (splice cs o vs).length = cs.length := by
  unfold splice
  simp; omega
section
variable {H : AH} {K : AV → AH → Prop} {w : Fk K}
theorem K_wtoBox {vi : AV} {room : Int} {l : List Int} (h : SeesZ H vi l) (k : ∀ v' b H', OI H' v' b l → H.n ≤ b → b < H'.n → Ext H H' → K (.agg [.I room, v']) H') : CallF Cd f_wtoBox [.agg [.I room, vi]] H K w := by
  have x1 : Ext H (((H.push [.I room, vi]).push [.I 0, .nils]).push [.I room, .nils]) := (Ext.push _ _).trans ((Ext.push _ _).trans (Ext.push _ _))
  rw [CallF_eq e_wtoBox rfl]
  have e : (((H.push [.I room, vi]).push [.I 0, .nils]).push [.I 0, .nils]).put (H.n + 1 + 1) (some ⟨[.I room, .nils], true⟩) = ((H.push [.I room, vi]).push [.I 0, .nils]).push [.I room, .nils] := push_put
  simp [load_push, load_put, AH.store, e]
  refine K_wtoIntS (h.ext x1) ?_
  simp [load_push, load_put, loadN_push, loadN_put, AH.store]
  refine k _ (H.n + 1 + 1 + 1) _ ⟨h.2.1, by simp [Ints], .inr ⟨_, [], rfl, Nat.le_refl _, ?_, ?_⟩⟩ (by omega) (by simp) ?_
  · simp
  · simp
  · repeat' first | exact Ext.refl _ | apply Ext.to_push | omega | (simp only [push_n, put_n]; omega) | refine Ext.put ?_ ?_
theorem K_wtoBoxS_l {ok : Nat → Prop} {H0 : AH} {v : AV} {l : List Bx} {B : Nat} (h : BV ok H0 v l) {Q : Out → Env → AH → Prop} (hB : H0.n ≤ B)
    (hQ : ∀ e G' rs, Ext H0 G' → (∀ p ∈ rs, ∀ b ∈ grB p.1 p.2, H0.n ≤ b) → OB G' (.sl B 0 l.length (.ex l.length)) l B rs → get e 3 = some (.sl B 0 l.length (.ex l.length)) → Q (.brk 0) e G')
    (suf pre : List Bx) (hl : l = pre ++ suf) {G : AH} (cs : List AV) (rs : List (AV × Nat)) (hx : Ext H0 G) (hBn : B < G.n) (hb : G.bk B = some ⟨cs, true⟩) (hc : cs.length = l.length * 2) (ht : cs.take (pre.length * 2) = cellsB pre rs) (hr : rs.length = pre.length)
    (h3 : ∀ (i : Nat) (x : Bx) (p : AV × Nat), pre[i]? = some x → rs[i]? = some p → OI G p.1 p.2 x.items ∧ B < p.2 ∧ p.2 < G.n) (h4 : ∀ (i j : Nat) (p q : AV × Nat), i ≠ j → rs[i]? = some p → rs[j]? = some q → p.2 ≠ q.2) :
    W Cd (.loop c_wtoBoxS_l0) [(0, v), (3, .sl B 0 l.length (.ex l.length)), (4, .I pre.length)] G Q := by
  have hbig := h.big
  have hal := h.alen
  induction suf generalizing pre G cs rs with
  | nil =>
    rw [W_loop_as c_wtoBoxS_l0.eq_1]
    simp only [List.append_nil] at hl
    subst hl
    rw [List.take_of_length_le (by omega)] at ht
    subst ht
    simp [hal]
    have gr : ∀ {u : AV} {b x : Nat}, x ∈ grB u b → x = b := fun h => grB_sub h
    refine hQ _ G rs hx (fun p hp b hbm => ?_) ⟨hr, ⟨hbig, hc, .inr ⟨_, [], rfl, Nat.le_refl _, hBn, by rw [List.append_nil]; exact hb⟩⟩, fun i x p hxi hp => ⟨(h3 i x p hxi hp).1, fun hm => ?_⟩, fun i j p q hij hp hq b hm hm' => ?_⟩ rfl
    · obtain ⟨i, hi, e⟩ := List.getElem_of_mem hp
      have hil : i < l.length := by omega
      have := (h3 i l[i] p (List.getElem?_eq_getElem hil) (by rw [List.getElem?_eq_getElem hi, e])).2
      have := gr hbm
      omega
    · have := (h3 i x p hxi hp).2
      have := gr hm
      omega
    · have := gr hm
      have := gr hm'
      exact h4 i j p q hij hp hq (by omega)
  | cons x suf ih =>
    rw [W_loop_as c_wtoBoxS_l0.eq_1]
    have hlen : l.length = pre.length + (suf.length + 1) := by rw [hl]; simp
    have hlt' : (pre.length : Int) < l.length := by omega
    have hq : l[pre.length]? = some x := by rw [hl]; simp
    obtain ⟨b, o, cap, vi, e1, ob, hbn, l1, iv⟩ := (h.ext hx).at hq
    subst e1
    simp (disch := omega) [hlt', l1]
    refine K_wtoBox iv.sees fun v' b' H2 o2 hb' bn2 x2 => ?_
    have n2 := x2.1
    have b2 := (x2.2 B hBn).trans hb
    have f2 := o2.flat
    have st := store_bk (o := pre.length * 2) (vs := [.I x.room, v']) b2 (by simp; omega)
    have on : Only [B] H2 (H2.put B (some ⟨splice cs (pre.length * 2) [.I x.room, v'], true⟩)) := Only.refl.put (.inr (by simp))
    have := ih (pre ++ [x]) (by rw [hl]; simp) (splice cs (pre.length * 2) [.I x.room, v']) (rs ++ [(v', b')]) (G := H2.put B (some ⟨splice cs (pre.length * 2) [.I x.room, v'], true⟩)) ((hx.trans x2).put hB) (by simp; omega) put_same (by rw [splice_len (by simp; omega)]; exact hc) (by
      have := splice_take (cs := cs) (vs := [.I x.room, v']) (o := pre.length * 2) (by simp; omega)
      simp only [List.length_cons, List.length_nil] at this
      rw [List.length_append, List.length_singleton, Nat.add_mul, Nat.one_mul, this, ht]
      exact cellsB_snoc (x := x) (p := (v', b')) hr) (by simp [hr]) (fun i y p hy hp => ?_) (fun i j p q hij hp hq' => ?_)
    · simp (disch := omega) [f2, flat_cells f2, flat_tup f2, st]
      simpa using this
    · by_cases hi : i < pre.length
      · rw [List.getElem?_append_left hi] at hy
        rw [List.getElem?_append_left (by omega)] at hp
        obtain ⟨q1, q2, q3⟩ := h3 i y p hy hp
        exact ⟨(q1.ext x2).only on (fun z hz => by have := grB_sub hz; simp; omega), q2, by simp; omega⟩
      · have hil := (List.getElem?_eq_some_iff.1 hy).1
        simp at hil
        have hie : i = pre.length := by omega
        subst hie
        rw [List.getElem?_append_right (by omega)] at hy hp
        simp [hr] at hy hp
        subst hy hp
        exact ⟨o2.only on (fun z hz => by have := grB_sub hz; simp; omega), by omega, by simp; omega⟩
    · have key : ∀ {i : Nat} {p : AV × Nat}, (rs ++ [(v', b')])[i]? = some p → (i < rs.length ∧ rs[i]? = some p ∧ p.2 < G.n) ∨ (i = rs.length ∧ p.2 = b') := fun {i p} hp => by
        by_cases hi : i < rs.length
        · rw [List.getElem?_append_left hi] at hp
          have hil : i < pre.length := by omega
          exact .inl ⟨hi, hp, (h3 i _ p (List.getElem?_eq_getElem hil) hp).2.2⟩
        · have hil := (List.getElem?_eq_some_iff.1 hp).1
          simp at hil
          have hie : i = rs.length := by omega
          subst hie
          simp at hp
          exact .inr ⟨rfl, by rw [← hp]⟩
      rcases key hp with ⟨a1, a2, a3⟩ | ⟨a1, a2⟩ <;> rcases key hq' with ⟨c1, c2, c3⟩ | ⟨c1, c2⟩
      · exact h4 i j p q hij a2 c2
      · omega
      · omega
      · omega
theorem K_wtoBoxS {ok : Nat → Prop} {v : AV} {l : List Bx} (h : BV ok H v l) (k : ∀ v' B rs H', OB H' v' l B rs → (∀ b ∈ fpO v' B rs, H.n ≤ b) → Ext H H' → K v' H') : CallF Cd f_wtoBoxS [v] H K w := by
  rw [CallF_eq e_wtoBoxS rfl]
  have hbig := h.big
  simp (disch := omega) [h.alen]
  have hbg : (l.length : Int) ≤ big := by unfold big; omega
  have := K_wtoBoxS_l (H0 := H) h (B := H.n) (Q := ?_) (Nat.le_refl _) ?_ l [] rfl (G := H.push (List.replicate l.length [.I 0, .nils]).flatten) (List.replicate l.length [.I 0, .nils]).flatten [] (Ext.push _ _) (by simp) push_new (by simp) (by simp [cellsB]) rfl (by simp) (by simp)
  · simpa [hbg] using this
  · intro e G' rs x hn ho he
    simp [he]
    refine k _ H.n rs G' ho (fun b hb => ?_) x
    rcases mem_fpO.1 hb with q | ⟨p, hp, q⟩
    · have := grB_sub q; omega
    · exact hn p hp b q
theorem T_weqBox {va vb : AV} {room : Int} {l : List Int} (h1 : SeesZ H va l) (h2 : SeesZ H vb l) (k : ∀ H', Ext H H' → K (.b true) H') : CallF Cd f_weqBox [.agg [.I room, va], .agg [.I room, vb]] H K w := by
  rw [CallF_eq e_weqBox rfl]
  have x := (Ext.push H [.I room, va]).trans (Ext.push _ [.I room, vb])
  simp [load_push, K_weqIntS (h1.ext x) (h2.ext x)]
  exact k _ x
theorem T_weqBoxS_l {o1 o2 : Nat → Prop} {H0 : AH} {va vb : AV} {l : List Bx} {Q : Out → Env → AH → Prop} (h1 : BV o1 H0 va l) (h2 : BV o2 H0 vb l) (hQ : ∀ e H', Ext H0 H' → Q (.brk 0) e H') (m i : Nat) (hm : i + m = l.length) {G : AH} (hx : Ext H0 G) :
    W Cd (.loop c_weqBoxS_l0) [(0, va), (1, vb), (5, .I i)] G Q := by
  have hbig : l.length ≤ 8589934592 := h1.big
  induction m generalizing i G with
  | zero =>
    rw [W_loop_as c_weqBoxS_l0.eq_1]
    have : i = l.length := by omega
    subst this
    simp [h1.alen]
    exact hQ _ G hx
  | succ m ih =>
    rw [W_loop_as c_weqBoxS_l0.eq_1]
    have hlt : i < l.length := by omega
    have hlt' : (i : Int) < l.length := by omega
    obtain ⟨e, he⟩ : ∃ e, l[i]? = some e := ⟨_, List.getElem?_eq_getElem hlt⟩
    obtain ⟨b, o, cap, vi, e1, ob, hb, l1, i1⟩ := (h1.ext hx).at he
    obtain ⟨b2, o2, cap2, vi2, e2, ob2, hb2, l2, i2⟩ := (h2.ext hx).at he
    have a1 := h1.alen
    subst e1 e2
    simp (disch := omega) [a1, hlt', l1, l2]
    refine T_weqBox i1.sees i2.sees fun H2 x2 => ?_
    have := ih (i + 1) (by omega) (hx.trans x2)
    simp (disch := omega) [x2]
    simpa using this
theorem T_weqBoxS {o1 o2 : Nat → Prop} {va vb : AV} {l : List Bx} (h1 : BV o1 H va l) (h2 : BV o2 H vb l) (k : ∀ H', Ext H H' → K (.b true) H') : CallF Cd f_weqBoxS [va, vb] H K w := by
  rw [CallF_eq e_weqBoxS rfl]
  simp [h1.alen, h2.alen]
  have := T_weqBoxS_l h1 h2 (Q := ?_) ?_ l.length 0 (by omega) (Ext.refl _)
  · simpa using this
  · intro e H' x; simpa using k H' x
end
end Go.Proofs.YtcibjklpaljadaaGreat.AM
namespace Go.Proofs.YtcibjklpaljadaaGreat.AM
set_option linter.unusedSimpArgs false
set_option linter.unusedVariables false
set_option maxRecDepth 100000
set_option maxHeartbeats 4000000
open Go
attribute [-simp] AM.elems
theorem splice_atN {A B : List AV} {x y : AV} {o : Nat} (h : A.length = o) : splice (A ++ x :: B) o [y] = A ++ y :: B := by subst h; exact splice_at
theorem nums_succ {k : Int} {i : Nat} : nums k (i + 1) = nums k i ++ [k + i] := by simp [nums, List.range_succ]
theorem set_mid {α : Type} {a b : List α} {x y : α} : (a ++ x :: b).set a.length y = a ++ y :: b := by simp
theorem get_mid {α : Type} {a b : List α} {x : α} : (a ++ x :: b)[a.length]? = some x := by simp
section
variable {H : AH} {K : AV → AH → Prop} {w : Fk K}
theorem K_wmarkI_l {b len : Nat} {cap : ACap} {k : Int} {ex : List AV} (hk : 0 ≤ k ∧ k ≤ 1125899906842624) {Q : Out → Env → AH → Prop} {H0 : AH} (hlen : len ≤ 8589934592)
    (hQ : ∀ e G', G'.bk b = some ⟨Ints (nums k len) ++ ex, true⟩ → Only [b] H0 G' → get e 1 = some (.I (k + len)) → Q (.brk 0) e G')
    (suf : List Int) (i : Nat) (hi : i + suf.length = len) {G : AH} (hG : G.bk b = some ⟨Ints (nums k i) ++ (Ints suf ++ ex), true⟩) (hO : Only [b] H0 G) :
    W Cd (.loop c_wmarkIntS_l0) [(0, .sl b 0 len cap), (1, .I (k + i)), (5, .I i)] G Q := by
  induction suf generalizing i G with
  | nil =>
    rw [W_loop_as c_wmarkIntS_l0.eq_1]
    have : i = len := by simpa using hi
    subst this
    simp
    exact hQ _ G (by simpa [Ints] using hG) hO rfl
  | cons z suf ih =>
    rw [W_loop_as c_wmarkIntS_l0.eq_1]
    simp only [List.length_cons] at hi
    have hlt : (i : Int) < len := by omega
    have hl : (Ints (nums k i)).length = i := by rw [Ints_len, nums_len]
    have hG' : G.bk b = some ⟨Ints (nums k i) ++ (.I z :: (Ints suf ++ ex)), true⟩ := hG
    have st := store_bk (o := i) (vs := [.I (k + i)]) hG' (by simp [hl] <;> omega)
    rw [splice_atN hl] at st
    have e : Ints (nums k i) ++ (.I (k + i) :: (Ints suf ++ ex)) = Ints (nums k (i + 1)) ++ (Ints suf ++ ex) := by rw [nums_succ]; simp [Ints]
    rw [e] at st
    have hr := ih (i + 1) (by omega) (G := G.put b (some ⟨Ints (nums k (i + 1)) ++ (Ints suf ++ ex), true⟩)) put_same (hO.put (by simp))
    simp (disch := omega) [hlt, st]
    rw [show k + (i : Int) + 1 = k + ((i + 1 : Nat) : Int) by omega]
    simpa using hr
theorem K_wmarkI {v : AV} {b : Nat} {l : List Int} {k : Int} (h : OI H v b l) (hk : 0 ≤ k ∧ k ≤ 1125899906842624)
    (c : ∀ H', OI H' v b (nums k l.length) → Only (grB v b) H H' → K (.I (k + l.length)) H') : CallF Cd f_wmarkIntS [v, .I k] H K w := by
  rw [CallF_eq e_wmarkIntS rfl]
  obtain ⟨hl, hc, ⟨rfl, h0⟩ | ⟨cap, ex, rfl, h3, h4, h5⟩⟩ := h
  · simp
    rw [W_loop_as c_wmarkIntS_l0.eq_1]
    simp
    have := c H ⟨by simp [nums, h0], by simp [nums, h0, Ints], .inl ⟨rfl, by simp [nums, h0]⟩⟩ Only.refl
    rw [h0] at this
    simpa using this
  · simp
    have := K_wmarkI_l (b := b) (cap := cap) (len := l.length) (k := k) (ex := ex) hk (Q := ?_) (H0 := H) hl ?_ l 0 (by omega) (G := H) (by simpa [nums, Ints] using h5) Only.refl
    · simpa using this
    · intro e G' g1 g2 g3
      simp [g3]
      exact c G' ⟨by rw [nums_len]; exact hl, by simp [Ints], .inr ⟨cap, ex, by rw [nums_len], by rw [nums_len]; exact h3, Nat.lt_of_lt_of_le h4 g2.1, g1⟩⟩ g2
theorem K_wheldI {v : AV} {b : Nat} {k : Int} {n : Nat} (h : OI H v b (nums k n)) (hk : 0 ≤ k ∧ k ≤ 1099511627776) (h1 : K (.I (k + n)) H) : CallF Cd f_wheldIntS [v, .I k] H K w := by
  have := K_wheldIntS (K := K) (w := w) (v := v) (l := List.replicate n (0 : Int)) (k := k) (by rw [List.length_replicate]; exact h.sees) hk (by rw [List.length_replicate]; exact h1)
  exact this
def szB (l : List Bx) : Nat := (l.map fun x => 1 + x.items.length).sum
theorem szB_cons {x : Bx} {l : List Bx} : szB (x :: l) = 1 + x.items.length + szB l := rfl
theorem szB_le {m : Nat} : ∀ {l : List Bx}, (∀ x ∈ l, x.items.length ≤ m) → szB l ≤ l.length * (1 + m)
  | [], _ => by simp [szB]
  | x :: l, h => by
    have := szB_le (m := m) (l := l) (fun y hy => h y (List.mem_cons_of_mem _ hy))
    have := h x List.mem_cons_self
    rw [szB_cons, List.length_cons, Nat.add_mul, Nat.one_mul]; omega
def marksB : Int → List Bx → List Bx
  | _, [] => []
  | k, x :: l => ⟨k, nums (k + 1) x.items.length⟩ :: marksB (k + 1 + x.items.length) l
theorem marksB_len : ∀ {l : List Bx} {k : Int}, (marksB k l).length = l.length
  | [], _ => rfl
  | _ :: l, k => by simp [marksB, marksB_len (l := l)]
theorem cellsB_room : ∀ {l : List Bx} {r : List (AV × Nat)} {i : Nat} {x : Bx} {p : AV × Nat} {q : List Int} {k : Int} {ex : List AV}, l[i]? = some x → r[i]? = some p → splice (cellsB l r ++ ex) (i * 2) [.I k] = cellsB (l.set i ⟨k, q⟩) r ++ ex
  | x :: l, p :: r, 0, _, _, _, _, _, h1, h2 => by simp at h1 h2; subst h1 h2; simp [cellsB, splice]
  | x :: l, p :: r, i + 1, y, q', q, k, ex, h1, h2 => by
    have := cellsB_room (l := l) (r := r) (i := i) (q := q) (k := k) (ex := ex) (by simpa using h1) (by simpa using h2)
    simp only [List.set_cons_succ, cellsB, List.cons_append]
    rw [← this]
    unfold splice
    rw [show (i + 1) * 2 = i * 2 + 1 + 1 by omega, show i * 2 + 1 + 1 + [AV.I k].length = i * 2 + [AV.I k].length + 1 + 1 by simp]
    simp [List.take_succ_cons]
  | [], _, i, _, _, _, _, _, h1, _ => by simp at h1
  | _ :: _, [], i, _, _, _, _, _, _, h2 => by simp at h2
theorem OB.set {G G2 : AH} {v : AV} {l : List Bx} {B : Nat} {rs : List (AV × Nat)} {i : Nat} {x : Bx} {p : AV × Nat} {k : Int} {it : List Int} {c : ACap} {ex : List AV} (h : OB G v l B rs) (hx : l[i]? = some x) (hp : rs[i]? = some p) (hv : v = .sl B 0 l.length c) (hc : capOk l.length 2 c)
    (hb : G2.bk B = some ⟨cellsB (l.set i ⟨k, it⟩) rs ++ ex, true⟩) (hbn : B < G2.n) (hi : OI G2 p.1 p.2 it) (ho : Only (B :: grB p.1 p.2) G G2) : OB G2 v (l.set i ⟨k, it⟩) B rs := by
  obtain ⟨h1, h2, h3, h4⟩ := h
  refine ⟨by simpa using h1, ⟨by simpa using h2.1, by rw [cellsB_len (by simpa using h1)], .inr ⟨c, ex, by simpa using hv, by simpa using hc, hbn, hb⟩⟩, fun j y q hy hq => ?_, h4⟩
  by_cases hj : j = i
  · subst hj
    rw [hp] at hq; cases hq
    have hil := (List.getElem?_eq_some_iff.1 hx).1
    rw [List.getElem?_set_self hil] at hy
    cases hy
    exact ⟨hi, (h3 j x p hx hp).2⟩
  · rw [List.getElem?_set_ne (Ne.symm hj)] at hy
    obtain ⟨q1, q2⟩ := h3 j y q hy hq
    refine ⟨q1.only ho fun z hz hm => ?_, q2⟩
    rcases List.mem_cons.1 hm with rfl | hm
    · exact q2 hz
    · exact h4 j i q p hj hq hp z hz hm
theorem K_wmarkBoxS_l {v : AV} {B : Nat} {rs : List (AV × Nat)} {Q : Out → Env → AH → Prop} {H0 : AH} (suf : List Bx) : ∀ (pre : List Bx) {k : Int} (hk : 0 ≤ k ∧ k + szB suf ≤ 1125899906842624) {G : AH} (hG : OB G v (pre ++ suf) B rs) (hO : Only (fpO v B rs) H0 G)
    (hQ : ∀ e G', OB G' v (pre ++ marksB k suf) B rs → Only (fpO v B rs) H0 G' → get e 1 = some (.I (k + szB suf)) → Q (.brk 0) e G'),
    W Cd (.loop c_wmarkBoxS_l0) [(0, v), (1, .I k), (5, .I pre.length)] G Q := by
  induction suf with
  | nil =>
    intro pre k hk G hG hO hQ
    rw [W_loop_as c_wmarkBoxS_l0.eq_1]
    have hal := hG.2.1.alen
    simp only [List.append_nil] at hal hG
    simp [hal]
    exact hQ _ G (by simpa [marksB] using hG) hO (by simp [get, szB])
  | cons x suf ih =>
    intro pre k hk G hG hO hQ
    rw [W_loop_as c_wmarkBoxS_l0.eq_1]
    have hal := hG.2.1.alen
    rw [szB_cons] at hk
    have hbig := hG.2.1.1
    have hlen : (pre ++ x :: suf).length = pre.length + (suf.length + 1) := by simp
    have hlt : (pre.length : Int) < ((pre ++ x :: suf).length : Nat) := by omega
    have hx : (pre ++ x :: suf)[pre.length]? = some x := get_mid
    obtain ⟨p, hp⟩ : ∃ p, rs[pre.length]? = some p := ⟨_, List.getElem?_eq_getElem (by rw [hG.1, hlen]; omega)⟩
    obtain ⟨i1, i2⟩ := hG.2.2.1 _ x p hx hp
    obtain ⟨g1, g2, ⟨_, g3⟩ | ⟨c, ex, hv, g3, g4, g5⟩⟩ := id hG.2.1
    · omega
    obtain ⟨N, hN⟩ : ∃ N, N = (pre ++ x :: suf).length := ⟨_, rfl⟩
    rw [← hN] at hv hal hlt
    subst hv
    have st := store_bk (o := pre.length * 2) (vs := [.I k]) g5 (by rw [List.length_append, cellsB_len hG.1, hlen]; simp; omega)
    rw [cellsB_room (q := nums (k + 1) x.items.length) hx hp] at st
    obtain ⟨G1, hG1⟩ : ∃ G1, G1 = G.put B (some ⟨cellsB ((pre ++ x :: suf).set pre.length ⟨k, nums (k + 1) x.items.length⟩) rs ++ ex, true⟩) := ⟨_, rfl⟩
    have b1 : G1.bk B = some ⟨cellsB ((pre ++ x :: suf).set pre.length ⟨k, nums (k + 1) x.items.length⟩) rs ++ ex, true⟩ := by rw [hG1, put_same]
    have o1 : Only [B] G G1 := by rw [hG1]; exact Only.refl.put (.inr (by simp))
    have n1 : G1.n = G.n := by rw [hG1]; simp
    rw [← hG1] at st
    have ld : G1.load B (pre.length * 2 + 1) = some p.1 := by
      rw [load_bk b1]
      have hx' : ((pre ++ x :: suf).set pre.length ⟨k, nums (k + 1) x.items.length⟩)[pre.length]? = some ⟨k, nums (k + 1) x.items.length⟩ := by rw [set_mid]; exact get_mid
      have := cellsB_get hx' hp
      have hcl : (cellsB ((pre ++ x :: suf).set pre.length ⟨k, nums (k + 1) x.items.length⟩) rs).length = (pre ++ x :: suf).length * 2 := by rw [cellsB_len (by simpa using hG.1), List.length_set]
      rw [List.getElem?_append_left (by rw [hcl, hlen]; omega)]
      unfold seg at this
      rw [if_pos (by rw [hcl, hlen]; omega)] at this
      have h2 := congrArg (fun l => l[1]?) (Option.some.inj this)
      simp at h2
      rw [set_mid]
      exact h2
    have i1' : OI G1 p.1 p.2 x.items := i1.only o1 (fun z hz hm => by simp at hm; subst hm; exact i2 hz)
    simp (disch := omega) [hal, hlt, st]
    simp (disch := omega) [ld]
    refine K_wmarkI i1' (by omega) fun G2 i3 o2 => ?_
    have n2 := o2.1
    have b2 : G2.bk B = some ⟨cellsB ((pre ++ x :: suf).set pre.length ⟨k, nums (k + 1) x.items.length⟩) rs ++ ex, true⟩ := o2.bk (by omega) i2 b1
    have o12 : Only (B :: grB p.1 p.2) G G2 := ⟨by omega, fun z hz hm => by
      simp at hm
      rw [o2.2 z (by omega) hm.2, o1.2 z hz (by simpa using hm.1)]⟩
    have hs := hG.set hx hp (by rw [← hN]) g3 b2 (by omega) i3 o12
    rw [set_mid] at hs
    have hs' : OB G2 (.sl B 0 N c) ((pre ++ [⟨k, nums (k + 1) x.items.length⟩]) ++ suf) B rs := by simpa using hs
    have := ih (pre ++ [⟨k, nums (k + 1) x.items.length⟩]) (k := k + 1 + x.items.length) ⟨by omega, by omega⟩ hs' ⟨Nat.le_trans hO.1 (by omega), fun z hz hm => by
      have hnz : z ∉ B :: grB p.1 p.2 := fun hq => hm (mem_fpO.2 (by
        rcases List.mem_cons.1 hq with rfl | hq
        · exact .inl (by simp [grB])
        · exact .inr ⟨p, List.mem_of_getElem? hp, hq⟩))
      rw [o12.2 z (Nat.lt_of_lt_of_le hz hO.1) hnz, hO.2 z hz hm]⟩ (fun e G' h1 h2 h3 => hQ e G' (by simpa [marksB] using h1) h2 (by rw [h3, szB_cons]; congr 2; omega))
    simp (disch := omega)
    simpa using this
theorem K_wmarkBoxS {v : AV} {l : List Bx} {B : Nat} {rs : List (AV × Nat)} {k : Int} (h : OB H v l B rs) (hk : 0 ≤ k ∧ k + szB l ≤ 1125899906842624)
    (c : ∀ H', OB H' v (marksB k l) B rs → Only (fpO v B rs) H H' → K (.I (k + szB l)) H') : CallF Cd f_wmarkBoxS [v, .I k] H K w := by
  rw [CallF_eq e_wmarkBoxS rfl]
  simp
  have := K_wmarkBoxS_l (v := v) (B := B) (rs := rs) (Q := ?_) (H0 := H) l [] (k := k) hk (G := H) h Only.refl ?_
  · simpa using this
  · intro e G' g1 g2 g3
    simp [g3]
    exact c G' (by simpa using g1) g2
theorem K_wheldBoxS_l {v : AV} {B : Nat} {rs : List (AV × Nat)} {Q : Out → Env → AH → Prop} (suf : List Bx) : ∀ (pre : List Bx) {k : Int} (hk : 0 ≤ k ∧ k + szB suf ≤ 1099511627776) (hG : OB H v (pre ++ marksB k suf) B rs)
    (hQ : ∀ e, get e 1 = some (.I (k + szB suf)) → Q (.brk 0) e H),
    W Cd (.loop c_wheldBoxS_l0) [(0, v), (1, .I k), (5, .I pre.length)] H Q := by
  induction suf with
  | nil =>
    intro pre k hk hG hQ
    rw [W_loop_as c_wheldBoxS_l0.eq_1]
    have hal := hG.2.1.alen
    simp only [marksB, List.append_nil] at hal hG
    simp [hal]
    exact hQ _ (by simp [get, szB])
  | cons x suf ih =>
    intro pre k hk hG hQ
    rw [W_loop_as c_wheldBoxS_l0.eq_1]
    have hal := hG.2.1.alen
    rw [szB_cons] at hk
    simp only [marksB] at hal hG
    have hbig := hG.2.1.1
    have hlen : (pre ++ (⟨k, nums (k + 1) x.items.length⟩ : Bx) :: marksB (k + 1 + x.items.length) suf).length = pre.length + (suf.length + 1) := by simp [marksB_len]
    have hlt : (pre.length : Int) < ((pre ++ (⟨k, nums (k + 1) x.items.length⟩ : Bx) :: marksB (k + 1 + x.items.length) suf).length : Nat) := by omega
    have hx : (pre ++ (⟨k, nums (k + 1) x.items.length⟩ : Bx) :: marksB (k + 1 + x.items.length) suf)[pre.length]? = some ⟨k, nums (k + 1) x.items.length⟩ := get_mid
    obtain ⟨p, hp⟩ : ∃ p, rs[pre.length]? = some p := ⟨_, List.getElem?_eq_getElem (by rw [hG.1, hlen]; omega)⟩
    obtain ⟨i1, i2⟩ := hG.2.2.1 _ _ p hx hp
    obtain ⟨g1, g2, ⟨_, g3⟩ | ⟨c, ex, hv, g3, g4, g5⟩⟩ := id hG.2.1
    · omega
    obtain ⟨N, hN⟩ : ∃ N, N = (pre ++ (⟨k, nums (k + 1) x.items.length⟩ : Bx) :: marksB (k + 1 + x.items.length) suf).length := ⟨_, rfl⟩
    rw [← hN] at hv hal hlt
    subst hv
    have hcl := cellsB_len hG.1
    have sg := cellsB_get hx hp
    unfold seg at sg
    rw [if_pos (by rw [hcl, hlen]; omega)] at sg
    have ld0 : H.load B (pre.length * 2) = some (.I k) := by
      rw [load_bk g5, List.getElem?_append_left (by rw [hcl, hlen]; omega)]
      have h2 := congrArg (fun l => l[0]?) (Option.some.inj sg)
      simpa using h2
    have ld1 : H.load B (pre.length * 2 + 1) = some p.1 := by
      rw [load_bk g5, List.getElem?_append_left (by rw [hcl, hlen]; omega)]
      have h2 := congrArg (fun l => l[1]?) (Option.some.inj sg)
      simpa using h2
    have hr := ih (pre ++ [⟨k, nums (k + 1) x.items.length⟩]) (k := k + 1 + x.items.length) ⟨by omega, by omega⟩ (by simpa using hG) (fun e h3 => hQ e (by rw [h3, szB_cons]; congr 2; omega))
    have q1 : ¬ k + 1 + (x.items.length : Int) < 0 := by omega
    simp (disch := omega) [hal, hlt, ld0, ld1]
    refine K_wheldI (n := x.items.length) i1 (by omega) ?_
    simp (disch := omega) [q1]
    simpa using hr
theorem K_wheldBoxS {v : AV} {l : List Bx} {B : Nat} {rs : List (AV × Nat)} {k : Int} (h : OB H v (marksB k l) B rs) (hk : 0 ≤ k ∧ k + szB l ≤ 1099511627776)
    (c : K (.I (k + szB l)) H) : CallF Cd f_wheldBoxS [v, .I k] H K w := by
  rw [CallF_eq e_wheldBoxS rfl]
  simp
  have := K_wheldBoxS_l (v := v) (B := B) (rs := rs) (Q := ?_) l [] (k := k) hk (by simpa using h) ?_
  · simpa using this
  · intro e g3
    simp [g3]
    exact c
end
end Go.Proofs.YtcibjklpaljadaaGreat.AM
namespace Go.Proofs.YtcibjklpaljadaaGreat.AM
set_option linter.unusedSimpArgs false
set_option linter.unusedVariables false
set_option maxRecDepth 100000
set_option maxHeartbeats 4000000
open Go Go.RowKit
attribute [-simp] AM.elems
theorem cell_spot {w : World} {x : Addr} {v : Value} (h : w.cell? x = some v) : x.spot = none := by
  unfold World.cell? at h
  cases hx : x.spot with
  | none => rfl
  | some q =>
    rw [hx] at h
    split at h
    · simp at h
    · cases h
theorem add_spot {x : Addr} (h : x.spot = none) (i : Nat) : x.add i = ⟨x.block, x.off + i, none⟩ := by
  unfold Addr.add
  split
  · subst i; cases x; cases h; rfl
  · cases x; cases h; rfl
def AtC (w : World) (ρ : Rho) (x : Addr) (cs : List AV) : Prop := ∀ (i : Nat) c, cs[i]? = some c → c.flat = true ∧ ∃ v, w.cell? (x.add i) = some v ∧ VR ρ c v
def recB (a : Option Addr) (cs : List AV) : Nat × Nat × List AV := ((a.map (·.block)).getD 0, (a.map (·.off)).getD 0, cs)
def IsRec (w : World) (ρ : Rho) (a : Option Addr) (len cap sz : Nat) (cs : List AV) : Prop :=
  (a = none ∧ len = 0 ∧ cap = 0 ∧ cs = []) ∨ ∃ x, a = some x ∧ len ≤ cap ∧ cap ≤ maxLen ∧ cs.length = cap * sz ∧ AtC w ρ x cs
theorem rec_lies {w : World} {ρ : Rho} {a len cap sz cs} (h : IsRec w ρ a len cap sz cs) : ∀ (i : Nat) x, (recB a cs).2.2[i]? = some x → x.flat = true ∧ ∃ v, w.cell? ⟨(recB a cs).1, (recB a cs).2.1 + i, none⟩ = some v ∧ VR ρ x v := by
  intro i c hc
  rcases h with ⟨_, _, _, rfl⟩ | ⟨x, rfl, _, _, _, h⟩
  · simp [recB] at hc
  · obtain ⟨f, v, h1, h2⟩ := h i c hc
    have hs : x.spot = none := by
      obtain ⟨c0, hc0⟩ : ∃ c0, cs[0]? = some c0 := ⟨_, List.getElem?_eq_getElem (by have := (List.getElem?_eq_some_iff.1 hc).1; simp only [recB] at this; omega)⟩
      obtain ⟨_, v0, h3, _⟩ := h 0 c0 hc0
      have := cell_spot h3
      unfold Addr.add at this
      simpa using this
    rw [add_spot hs] at h1
    exact ⟨f, v, h1, h2⟩
theorem rec_spot {w : World} {ρ : Rho} {x : Addr} {cs : List AV} (h : AtC w ρ x cs) (h0 : cs.length ≠ 0) : x.spot = none := by
  obtain ⟨c0, hc0⟩ : ∃ c0, cs[0]? = some c0 := ⟨_, List.getElem?_eq_getElem (by omega)⟩
  obtain ⟨_, v0, h3, _⟩ := h 0 c0 hc0
  have := cell_spot h3
  unfold Addr.add at this
  simpa using this
theorem rec_v {w : World} {bs : Bs} {ρ : Rho} {a len cap sz cs} (h : IsRec w ρ a len cap sz cs) (hz : 0 < sz) {j : Nat} (hj : bs[j]? = some (recB a cs)) : VR (rho0 w.heap.size bs) (rowV (w.heap.size + j) a len cap) (.slice a len cap) := by
  unfold rowV
  by_cases hc : cap = 0
  · rcases h with ⟨rfl, rfl, rfl, rfl⟩ | ⟨x, rfl, h1, _, h3, h4⟩
    · simp only [if_true]; exact .nils
    · subst hc
      have : len = 0 := by omega
      subst this
      simp only [reduceCtorEq, if_false, if_true]
      exact .esl x 0
  · rcases h with ⟨_, _, h, _⟩ | ⟨x, rfl, h1, _, h3, h4⟩
    · exact absurd h hc
    have hcl : cs.length ≠ 0 := by
      rw [h3]
      have := Nat.mul_le_mul_right sz (Nat.pos_of_ne_zero hc)
      omega
    have hs := rec_spot h4 hcl
    simp only [reduceCtorEq, if_false, hc]
    have := @VR.slR (rho0 w.heap.size bs) (w.heap.size + j) 0 x.block x.off cs.length len cap (by
      simp only [rho0]
      rw [if_neg (by omega), Nat.add_sub_cancel_left, hj]
      simp only [recB, Option.bind_some, Option.map_some, Option.getD_some]
      rw [if_neg (by omega)]) h1
    have e : x = ⟨x.block, x.off + 0, none⟩ := by cases x; cases hs; rfl
    rw [← e] at this
    exact this
theorem rec_sees {w : World} {bs : Bs} {ρ : Rho} {a len cap sz cs} (h : IsRec w ρ a len cap sz cs) {j : Nat} (hj : bs[j]? = some (recB a cs)) (hl : len ≤ 8589934592) : SlC (fun _ => True) (heap0 w.heap.size bs) (rowV (w.heap.size + j) a len cap) len sz (cs.take (len * sz)) := by
  unfold rowV
  have hb : w.heap.size + j < (heap0 w.heap.size bs).n := by
    have := (List.getElem?_eq_some_iff.1 hj).1
    simp only [heap0]; omega
  rcases h with ⟨rfl, rfl, rfl, rfl⟩ | ⟨x, rfl, h1, _, h3, h4⟩
  · simp only [if_true]
    exact ⟨by omega, by simp, .inl ⟨rfl, .inl rfl⟩⟩
  · have hle := Nat.mul_le_mul_right sz h1
    refine ⟨hl, by rw [List.length_take, h3]; omega, ?_⟩
    by_cases hc : cap = 0
    · simp only [reduceCtorEq, if_false, hc, if_true]
      exact .inl ⟨by omega, by simp⟩
    · simp only [reduceCtorEq, if_false, hc]
      have hbk : (heap0 w.heap.size bs).bk (w.heap.size + j) = some ⟨cs, false⟩ := by
        simp only [heap0]
        rw [if_neg (by omega), Nat.add_sub_cancel_left, hj]
        rfl
      refine .inr ⟨w.heap.size + j, 0, .ro, rfl, ⟨trivial, trivial⟩, hb, ?_⟩
      rw [loadN_bk hbk]
      unfold seg
      rw [if_pos (by rw [h3]; omega)]
      rfl
theorem rec_alen {w : World} {ρ : Rho} {a len cap sz cs} {b : Nat} (h : IsRec w ρ a len cap sz cs) : alen (rowV b a len cap) = some len ∧ len ≤ 9223372036854775807 := by
  unfold rowV
  rcases h with ⟨rfl, rfl, rfl, rfl⟩ | ⟨x, rfl, h1, h2, h3, h4⟩
  · simp only [if_true]; exact ⟨rfl, by omega⟩
  · have hm : len ≤ 9223372036854775807 := by simp [maxLen] at h2; omega
    by_cases hc : cap = 0
    · simp only [reduceCtorEq, if_false, hc, if_true]
      have : len = 0 := by omega
      subst this
      exact ⟨rfl, hm⟩
    · simp only [reduceCtorEq, if_false, hc]
      exact ⟨rfl, hm⟩
theorem row_rec {w : World} {ρ : Rho} {a len cap zs} (h : IsRow .i64 w a len cap zs) : IsRec w ρ a len cap 1 (Ints zs) := by
  rcases h with ⟨rfl, rfl, rfl, rfl⟩ | ⟨x, rfl, h1, h2, h3, h4, _⟩
  · exact .inl ⟨rfl, rfl, rfl, rfl⟩
  · refine .inr ⟨x, rfl, h1, h2, by simp [Ints, h3], fun i c hc => ?_⟩
    simp only [Ints, List.getElem?_map, Option.map_eq_some_iff] at hc
    obtain ⟨n, hn, rfl⟩ := hc
    have hi := (List.getElem?_eq_some_iff.1 hn).1
    have : zs.getD i 0 = n := by simp [List.getD, hn]
    exact ⟨rfl, _, h4 i hi, by rw [this]; exact .i _ _⟩
theorem row_argI {w : World} {bs : Bs} {a len cap zs} (h : IsRow .i64 w a len cap zs) {j : Nat} (hj : bs[j]? = some (recB a (Ints zs))) : ArgI (heap0 w.heap.size bs) (rowV (w.heap.size + j) a len cap) (zs.take len) := by
  have hr := row_rec (ρ := rho0 w.heap.size bs) h
  have hl : (zs.take len).length = len := by
    rw [List.length_take]
    rcases h with ⟨rfl, rfl, rfl, rfl⟩ | ⟨x, rfl, h1, h2, h3, h4, _⟩
    · rfl
    · omega
  obtain ⟨a1, a2⟩ := rec_alen (b := w.heap.size + j) hr
  refine ⟨by rw [hl]; exact a1, by omega, rowV_flat, fun hle => ?_⟩
  have := rec_sees hr hj (by omega)
  unfold IV
  rw [hl]
  have e : Ints (zs.take len) = (Ints zs).take (len * 1) := by simp [Ints]
  rw [e]
  exact this
end Go.Proofs.YtcibjklpaljadaaGreat.AM
namespace Go.Proofs.YtcibjklpaljadaaGreat.AM
set_option linter.unusedSimpArgs false
set_option linter.unusedVariables false
set_option maxRecDepth 100000
set_option maxHeartbeats 4000000
open Go Go.RowKit
attribute [-simp] AM.elems
structure BRow where
  room : Int
  a : Option Addr
  len : Nat
  cap : Nat
  zs : List Int
def IsBs (w : World) (a : Option Addr) (len cap : Nat) (L : List BRow) : Prop :=
  (a = none ∧ len = 0 ∧ cap = 0 ∧ L = []) ∨ ∃ x, a = some x ∧ len ≤ cap ∧ cap ≤ maxLen ∧ L.length = cap ∧ ∀ (i : Nat) r, L[i]? = some r → w.cell? (x.add (i * 2)) = some (.int .i64 r.room) ∧ w.cell? (x.add (i * 2 + 1)) = some (.slice r.a r.len r.cap) ∧ IsRow .i64 w r.a r.len r.cap r.zs
def boxCells : Nat → List BRow → List AV
  | _, [] => []
  | n, r :: L => .I r.room :: rowV n r.a r.len r.cap :: boxCells (n + 1) L
theorem boxCells_len : ∀ {L : List BRow} {n : Nat}, (boxCells n L).length = L.length * 2
  | [], _ => rfl
  | r :: L, n => by simp [boxCells, boxCells_len (L := L)]; omega
def BRow.box (r : BRow) : Bx := ⟨r.room, r.zs.take r.len⟩
theorem boxCells_get : ∀ {L : List BRow} {n i : Nat} {c : AV}, (boxCells n L)[i]? = some c → ∃ r, L[i / 2]? = some r ∧ ((i % 2 = 0 ∧ c = .I r.room) ∨ (i % 2 = 1 ∧ c = rowV (n + i / 2) r.a r.len r.cap))
  | [], n, i, c, h => by simp [boxCells] at h
  | r :: L, n, 0, c, h => by simp [boxCells] at h; exact ⟨r, rfl, .inl ⟨rfl, h.symm⟩⟩
  | r :: L, n, 1, c, h => by simp [boxCells] at h; exact ⟨r, rfl, .inr ⟨rfl, h.symm⟩⟩
  | r :: L, n, i + 2, c, h => by
    have h' : (boxCells (n + 1) L)[i]? = some c := by simpa [boxCells] using h
    obtain ⟨r', g1, g2⟩ := boxCells_get h'
    have e1 : (i + 2) / 2 = i / 2 + 1 := by omega
    have e2 : (i + 2) % 2 = i % 2 := by omega
    rw [e1, e2]
    refine ⟨r', g1, ?_⟩
    rcases g2 with g2 | ⟨g2, g3⟩
    · exact .inl g2
    · exact .inr ⟨g2, by rw [g3, Nat.add_assoc, Nat.add_comm 1]⟩
theorem isBs_rec {w : World} {bs : Bs} {a len cap} {L : List BRow} {j0 : Nat} (h : IsBs w a len cap L) (hit : ∀ (i : Nat) r, L[i]? = some r → bs[j0 + i]? = some (recB r.a (Ints r.zs))) : IsRec w (rho0 w.heap.size bs) a len cap 2 (boxCells (w.heap.size + j0) L) := by
  rcases h with ⟨rfl, rfl, rfl, rfl⟩ | ⟨x, rfl, h1, h2, h3, h4⟩
  · exact .inl ⟨rfl, rfl, rfl, rfl⟩
  · refine .inr ⟨x, rfl, h1, h2, by rw [boxCells_len, h3], fun i c hc => ?_⟩
    obtain ⟨r, g1, ⟨g2, rfl⟩ | ⟨g2, rfl⟩⟩ := boxCells_get hc
    · have := (h4 _ r g1).1
      rw [show i / 2 * 2 = i by omega] at this
      exact ⟨rfl, _, this, .i _ _⟩
    · obtain ⟨_, q1, q2⟩ := h4 _ r g1
      rw [show i / 2 * 2 + 1 = i by omega] at q1
      refine ⟨rowV_flat, _, q1, ?_⟩
      have := rec_v (bs := bs) (row_rec (ρ := rho0 w.heap.size bs) q2) (by omega) (hit _ r g1)
      rwa [← Nat.add_assoc] at this
theorem boxCells_LF {H : AH} : ∀ {L : List BRow} {n : Nat}, (∀ (i : Nat) r, L[i]? = some r → ArgI H (rowV (n + i) r.a r.len r.cap) r.box.items) → LF 2 (fun c (x : Bx) => ∃ vi, c = [.I x.room, vi] ∧ ArgI H vi x.items) (L.map BRow.box) (boxCells n L)
  | [], _, _ => rfl
  | r :: L, n, h => ⟨[.I r.room, rowV n r.a r.len r.cap], boxCells (n + 1) L, rfl, rfl, ⟨_, rfl, h 0 r rfl⟩, boxCells_LF fun i r' hr => by
    have := h (i + 1) r' (by simpa using hr)
    rwa [show n + (i + 1) = n + 1 + i by omega] at this⟩
theorem isBs_arg {w : World} {bs : Bs} {a len cap} {L : List BRow} {j0 j : Nat} (h : IsBs w a len cap L) (hit : ∀ (i : Nat) r, L[i]? = some r → bs[j0 + i]? = some (recB r.a (Ints r.zs))) (hj : bs[j]? = some (recB a (boxCells (w.heap.size + j0) L))) : ArgB (heap0 w.heap.size bs) (rowV (w.heap.size + j) a len cap) ((L.map BRow.box).take len) := by
  have hr := isBs_rec h hit
  have hl : ((L.map BRow.box).take len).length = len := by
    rw [List.length_take, List.length_map]
    rcases h with ⟨rfl, rfl, rfl, rfl⟩ | ⟨x, rfl, h1, h2, h3, _⟩
    · rfl
    · omega
  obtain ⟨a1, a2⟩ := rec_alen (b := w.heap.size + j) hr
  refine ⟨by rw [hl]; exact a1, by omega, rowV_flat, fun hle => ?_⟩
  have hs := rec_sees hr hj (by omega)
  refine ⟨_, by rw [hl]; exact hs, ?_⟩
  refine LF.take (boxCells_LF fun i r hri => ?_) len
  have hir : IsRow .i64 w r.a r.len r.cap r.zs := by
    rcases h with ⟨rfl, rfl, rfl, rfl⟩ | ⟨x, rfl, h1, h2, h3, h4⟩
    · simp at hri
    · exact (h4 i r hri).2.2
  have := row_argI hir (hit i r hri)
  rwa [← Nat.add_assoc] at this
def itemsB (L : List BRow) : Bs := L.map fun r => recB r.a (Ints r.zs)
end Go.Proofs.YtcibjklpaljadaaGreat.AM
