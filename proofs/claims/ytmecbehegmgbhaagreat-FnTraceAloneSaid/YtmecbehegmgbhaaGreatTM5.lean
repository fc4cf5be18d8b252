/-
  The abstract machine and its walks, merged by program out of smaller texts (part 5). No condition.
-/
import Derived.Test.YtmecbehegmgbhaaGreatTM4
namespace Go.Proofs.YtmecbehegmgbhaaGreat.AM
set_option linter.unusedSimpArgs false
set_option linter.unusedVariables false
set_option maxRecDepth 100000
set_option maxHeartbeats 2000000
open Go
attribute [-simp] AM.elems
abbrev Evt := Int × Int × Int × Int
def evC (e : Evt) : List AV := [.I e.1, .I e.2.1, .I e.2.2.1, .I e.2.2.2]
def evCs (l : List Evt) : List AV := l.flatMap evC
theorem evCs_len {l : List Evt} : (evCs l).length = l.length * 4 := by
  induction l with
  | nil => rfl
  | cons e l ih =>
    have : evCs (e :: l) = evC e ++ evCs l := rfl
    rw [this, List.length_append, ih]
    simp [evC]; omega
theorem evCs_app {a b : List Evt} : evCs (a ++ b) = evCs a ++ evCs b := by simp [evCs]
/-- Who is told: nobody, or the one who keeps a list of events behind the cell in block PU. -/
def ObT (base P5 : Nat) (tr : Option Nat) (H : AH) (evs : List Evt) (ve : AV) (OE : Nat) : Prop :=
  match tr with
  | none => H.bk P5 = some ⟨[.nilf], true⟩
  | some PU => H.bk P5 = some ⟨[.fn f_iWorldTrace_1 [] [.ptr PU 0]], true⟩ ∧ PU < H.n ∧ H.bk PU = some ⟨[ve], true⟩ ∧ GrS base H ve evs.length 4 (evCs evs) OE
def trB (tr : Option Nat) (ve : AV) (OE : Nat) : List Nat := match tr with | none => [] | some PU => PU :: grB ve OE
/-- What is printed, and what is told. -/
def Ob (base P7 P5 : Nat) (tr : Option Nat) (vb : AV) (H : AH) (out : List Int) (evs : List Evt) (vo : AV) (O : Nat) (ve : AV) (OE : Nat) : Prop :=
  H.bk P7 = some ⟨[.nils, vb, .I 0, .I 0, vo], true⟩ ∧ P7 < H.n ∧ P5 < H.n ∧ GrS base H vo out.length 1 (Ints out) O ∧ ObT base P5 tr H evs ve OE
def obB (P7 : Nat) (tr : Option Nat) (vo : AV) (O : Nat) (ve : AV) (OE : Nat) : List Nat := P7 :: (grB vo O ++ trB tr ve OE)
theorem ObT.only {base P5 tr H H' evs ve OE bs} (h : ObT base P5 tr H evs ve OE) (k : Only bs H H') (h5 : P5 ∉ bs) (h5n : P5 < H.n) (hb : ∀ b ∈ bs, b ∉ trB tr ve OE) : ObT base P5 tr H' evs ve OE := by
  cases tr with
  | none => exact k.bk h5n h5 h
  | some PU =>
    obtain ⟨h1, h2, h3, h4⟩ := h
    refine ⟨k.bk h5n h5 h1, Nat.lt_of_lt_of_le h2 k.1, k.bk h2 (fun hm => hb PU hm (by simp [trB])) h3, ?_⟩
    by_cases hn : ve = .nils
    · subst hn
      exact ⟨h4.1, h4.2.1, by rcases h4.2.2 with q | ⟨_, _, ⟨q, _⟩ | ⟨_, _, q, _⟩⟩; exact .inl q; cases q; cases q⟩
    · have hg : grB ve OE = [OE] := by
        rcases h4.2.2 with q | ⟨_, _, ⟨q, _⟩ | ⟨_, _, q, _⟩⟩
        · exact absurd q.1 hn
        · rw [q]; rfl
        · rw [q]; rfl
      exact h4.only k (fun b hb' => .inr (fun e => hb b hb' (by simp [trB, hg, e])))
theorem GrS.onlyB {base G G' v n sz cs B bs} (h : GrS base G v n sz cs B) (k : Only bs G G') (hb : ∀ b ∈ bs, b ∉ grB v B) : GrS base G' v n sz cs B := by
  obtain ⟨h1, h2, h3 | ⟨h4, h5, h6⟩⟩ := h
  · exact ⟨h1, h2, .inl h3⟩
  · have hg : grB v B = [B] := by
      rcases h6 with ⟨q, _⟩ | ⟨_, _, q, _⟩
      · rw [q]; rfl
      · rw [q]; rfl
    have hB : B ∉ bs := fun hm => hb B hm (by rw [hg]; simp)
    refine ⟨h1, h2, .inr ⟨h4, Nat.lt_of_lt_of_le h5 k.1, ?_⟩⟩
    rw [k.2 B h5 hB]
    exact h6
theorem ObT.lt {base P5 tr H evs ve OE} (h : ObT base P5 tr H evs ve OE) {b : Nat} (hb : b ∈ trB tr ve OE) : b < H.n := by
  cases tr with
  | none => simp [trB] at hb
  | some PU =>
    obtain ⟨h1, h2, h3, h4⟩ := h
    simp [trB] at hb
    rcases hb with rfl | q
    · exact h2
    · have := h4.mem q; omega
def rwA : AC := match c_irunWorld_1_1.body with | .seq a _ => a | _ => .skip
def rwB : AC := match c_irunWorld_1_1.body with | .seq _ b => b | _ => .skip
theorem eq_rw : Cd f_irunWorld_1_1 = some ⟨6, .seq rwA rwB, []⟩ := rfl
/-- An event is told. -/
theorem W_rwB {base P5 X : Nat} {tr : Option Nat} {G : AH} {evs : List Evt} {ve : AV} {OE : Nat} {kd bx x turn : Int} {K : AV → AH → Prop} (hb : base ≤ G.n) (h : ObT base P5 tr G evs ve OE) (h5 : P5 < G.n) (hX : G.bk X = some ⟨[.I turn], true⟩)
    (hnd : (trB tr ve OE).Nodup) (h5t : P5 ∉ trB tr ve OE) (hl : evs.length < 900000)
    (k : ∀ ve' OE' G', ObT base P5 tr G' (evs ++ [(turn, kd, bx, x)]) ve' OE' → Only (trB tr ve OE) G G' → (∀ b ∈ trB tr ve' OE', b ∈ trB tr ve OE ∨ G.n ≤ b ∧ b < G'.n) → (trB tr ve' OE').Nodup → K (.tup []) G') :
    W Cd rwB [(0, .I kd), (1, .I bx), (2, .I x), (4, .ptr P5 0), (5, .ptr X 0)] G (retK [] K) := by
  cases tr with
  | none =>
    have h' : G.bk P5 = some ⟨[.nilf], true⟩ := h
    simp [rwB, c_irunWorld_1_1, load_bk h']
    exact k ve OE G h' Only.refl (fun b hb => .inl hb) (by simp [trB])
  | some PU =>
    obtain ⟨h1, h2, h3, h4⟩ := h
    have hd : PU ∉ grB ve OE := by simp [trB] at hnd; exact hnd.1
    simp [rwB, c_irunWorld_1_1, load_bk h1, load_bk hX]
    rw [CallF_eq e_iWorldTrace_1 rfl]
    have x1 := Ext.push G [.I turn, .I kd, .I bx, .I x]
    have x2 := x1.trans (Ext.push _ [.I turn, .I kd, .I bx, .I x])
    have g3 : (G.push [.I turn, .I kd, .I bx, .I x]).bk PU = some ⟨[ve], true⟩ := (x1.2 _ h2).trans h3
    obtain ⟨v', G', B', a1, a2, a3, a4⟩ := (h4.ext x2).app (by simp; omega) (k := 1) (new := [.I turn, .I kd, .I bx, .I x]) rfl (by omega)
    have n4 := a4.1
    simp only [push_n] at n4
    have hgm : ∀ b ∈ grB ve OE, b = OE ∧ base ≤ OE ∧ OE < G.n := fun b hb => h4.mem hb
    have g4 : G'.bk PU = some ⟨[ve], true⟩ := (a4.2 _ (by simp; omega) hd).trans ((x2.2 _ h2).trans h3)
    have f := a2.flat
    have st := store_cell (v := v') g4 (o := 0) (by simp)
    simp only [List.set_cons_zero] at st
    simp [AM.elems, load_bk g3, loadN_push, a1, flat_cells f, flat_tup f, st]
    have hB' : B' ≠ PU := by
      rcases a3 with q | q
      · rw [q.1]; rintro rfl; exact hd q.2
      · rw [q]; simp; omega
    have o : Only (PU :: grB ve OE) G (G'.put PU (some ⟨[v'], true⟩)) := ⟨by simp; omega, fun b hb hm => by
      simp at hm
      rw [put_bk, if_neg hm.1, a4.2 b (by simp; omega) hm.2]; exact x2.2 b hb⟩
    have hnew : ∀ b ∈ grB v' B', b ∈ grB ve OE ∨ G.n ≤ b ∧ b < G'.n := fun b hb => by
      have hb2 := a2.mem hb
      rcases a3 with q | q
      · exact .inl (by rw [hb2.1, q.1]; exact q.2)
      · exact .inr ⟨by rw [hb2.1, q]; simp; omega, by rw [hb2.1]; exact hb2.2.2⟩
    refine k v' B' _ ⟨o.bk h5 (by simpa [trB] using h5t) h1, by simp; omega, put_same, ?_⟩ o (fun b hb => ?_) ?_
    · have a2' : GrS base G' v' (evs ++ [(turn, kd, bx, x)]).length 4 (evCs (evs ++ [(turn, kd, bx, x)])) B' := by
        rw [evCs_app]; simpa [evCs, evC] using a2
      exact a2'.only (bs := [PU]) (Only.refl.put (by simp)) (fun b hb => .inr (by simp at hb; rw [hb]; exact Ne.symm hB'))
    · simp [trB] at hb ⊢
      rcases hb with q | q
      · exact .inl (.inl q)
      · rcases hnew b q with z | z
        · exact .inl (.inr z)
        · exact .inr z
    · simp [trB]
      refine ⟨fun hm => hB' (grB_sub hm).symm, ?_⟩
      cases v' <;> simp [grB]
theorem tell_runWorld {base P7 P5 X : Nat} {tr : Option Nat} {vb : AV} {out : List Int} {evs : List Evt} {vo : AV} {O : Nat} {ve : AV} {OE : Nat} {turn : Int} (hnd : (obB P7 tr vo O ve OE).Nodup) (h5 : P5 ∉ obB P7 tr vo O ve OE) (hX : X ∉ obB P7 tr vo O ve OE) (hl : out.length < 900000 ∧ evs.length < 900000) :
    TellOk f_irunWorld_1_1 [.ptr P7 0, .ptr P5 0, .ptr X 0] (obB P7 tr vo O ve OE)
      (fun H1 => Ob base P7 P5 tr vb H1 out evs vo O ve OE ∧ H1.bk X = some ⟨[.I turn], true⟩ ∧ X < H1.n ∧ base ≤ H1.n)
      (fun e H1 H2 => ∃ vo' O' ve' OE', Ob base P7 P5 tr vb H2 (out ++ prE (some e)) (evs ++ [(turn, e.1, e.2.1, e.2.2)]) vo' O' ve' OE' ∧ (∀ b ∈ obB P7 tr vo' O' ve' OE', b ∈ obB P7 tr vo O ve OE ∨ H1.n ≤ b ∧ b < H2.n) ∧ (obB P7 tr vo' O' ve' OE').Nodup) := by
  intro kd bx x H1 K1 w1 hP k
  obtain ⟨⟨h1, h2, h3, h4, h6⟩, h7, h8, h9⟩ := hP
  rw [CallF_eq eq_rw rfl]
  have hnd' := hnd
  simp only [obB, List.nodup_cons, List.mem_append, not_or, List.nodup_append] at hnd'
  obtain ⟨⟨d1, d2⟩, d3, d4, d5⟩ := hnd'
  have h5' := h5
  have hX' := hX
  simp only [obB, List.mem_cons, List.mem_append, not_or] at h5' hX'
  by_cases hk : kd = 3
  · subst hk
    have x1 := Ext.push H1 [.I x]
    obtain ⟨v', G', B', a1, a2, a3, a4⟩ := (h4.ext x1).app (by simp; omega) (k := 1) (new := [.I x]) rfl (by omega)
    have n4 := a4.1
    simp only [push_n] at n4
    have hgm : ∀ b ∈ grB vo O, b = O ∧ base ≤ O ∧ O < H1.n := fun b hb => h4.mem hb
    have g4 : G'.bk P7 = some ⟨[.nils, vb, .I 0, .I 0, vo], true⟩ := (a4.2 _ (by simp; omega) d1).trans ((x1.2 _ h2).trans h1)
    have f := a2.flat
    have st := store_cell (v := v') g4 (o := 4) (by simp)
    simp only [List.set_cons_succ, List.set_cons_zero] at st
    simp [rwA, c_irunWorld_1_1, AM.elems, load_bk h1, loadN_push, a1, flat_cells f, flat_tup f, st]
    have o : Only (P7 :: grB vo O) H1 (G'.put P7 (some ⟨[.nils, vb, .I 0, .I 0, v'], true⟩)) := ⟨by simp; omega, fun b hb hm => by
      simp at hm
      rw [put_bk, if_neg hm.1, a4.2 b (by simp; omega) hm.2]; exact x1.2 b hb⟩
    have hB' : B' ≠ P7 := by
      rcases a3 with q | q
      · rw [q.1]; rintro rfl; exact d1 q.2
      · rw [q]; simp; omega
    have hnew : ∀ b ∈ grB v' B', b ∈ grB vo O ∨ H1.n ≤ b ∧ b < G'.n := fun b hb => by
      have hb2 := a2.mem hb
      rcases a3 with q | q
      · exact .inl (by rw [hb2.1, q.1]; exact q.2)
      · exact .inr ⟨by rw [hb2.1, q]; simp, by rw [hb2.1]; exact hb2.2.2⟩
    have ht := h6.only o (by simp; exact ⟨h5'.1, h5'.2.1⟩) h3 (fun b hb => by
      rcases List.mem_cons.1 hb with rfl | q
      · exact d2
      · exact fun hm => d5 b q b hm rfl)
    have hXg : (G'.put P7 (some ⟨[.nils, vb, .I 0, .I 0, v'], true⟩)).bk X = some ⟨[.I turn], true⟩ := o.bk h8 (by simp; exact ⟨hX'.1, hX'.2.1⟩) h7
    refine W_rwB (by simp; omega) ht (by simp; omega) hXg d4 h5'.2.2 hl.2 fun ve' OE' G2 t1 t2 t3 t4 => ?_
    have n2 := t2.1
    simp only [put_n] at n2
    have a2' : GrS base G' v' (out ++ [x]).length 1 (Ints (out ++ [x])) B' := by
      have e1 : Ints out ++ [.I x] = Ints (out ++ [x]) := by simp [Ints]
      rw [← e1]; simpa using a2
    have a2'' := a2'.only (bs := [P7]) (G' := G'.put P7 (some ⟨[.nils, vb, .I 0, .I 0, v'], true⟩)) (Only.refl.put (by simp)) (fun b hb => .inr (by simp at hb; rw [hb]; exact Ne.symm hB'))
    have htb : ∀ b ∈ trB tr ve OE, b ∉ grB v' B' := fun b hb hm => by
      rcases hnew b hm with q | q
      · exact d5 b q b hb rfl
      · have := ht.lt hb; simp at this
        have := h6.lt hb; omega
    refine k G2 ⟨v', B', ve', OE', ⟨(t2.bk (by simp; omega) d2 put_same), by omega, by omega, by simpa [prE] using a2''.onlyB t2 htb, t1⟩, fun b hb => ?_, ?_⟩ ?_
    · simp only [obB, List.mem_cons, List.mem_append] at hb ⊢
      rcases hb with q | q | q
      · exact .inl (.inl q)
      · rcases hnew b q with z | z
        · exact .inl (.inr (.inl z))
        · exact .inr (by omega)
      · rcases t3 b q with z | z
        · exact .inl (.inr (.inr z))
        · simp at z; exact .inr (by omega)
    · simp only [obB, List.nodup_cons, List.mem_append, not_or, List.nodup_append]
      refine ⟨⟨fun hm => hB' (grB_sub hm).symm, fun hm => ?_⟩, by cases v' <;> simp [grB], t4, fun a ha b hb e => ?_⟩
      · rcases t3 _ hm with z | z
        · exact d2 z
        · simp at z; omega
      · subst e
        rcases t3 _ hb with z | z
        · exact htb _ z ha
        · simp at z
          have := a2.mem ha; omega
    · refine (o.mono (cs := obB P7 tr vo O ve OE) (fun b hb => .inl ?_)).trans (t2.mono (cs := obB P7 tr vo O ve OE) (fun b hb => .inl ?_))
      · simp only [obB, List.mem_cons, List.mem_append] at hb ⊢
        rcases hb with q | q
        · exact .inl q
        · exact .inr (.inl q)
      · simp only [obB, List.mem_cons, List.mem_append]; exact .inr (.inr hb)
  · simp [rwA, c_irunWorld_1_1, hk]
    refine W_rwB h9 h6 h3 h7 d4 h5'.2.2 hl.2 fun ve' OE' G2 t1 t2 t3 t4 => ?_
    have n2 := t2.1
    refine k G2 ⟨vo, O, ve', OE', ⟨t2.bk h2 d2 h1, by omega, by omega, by simpa [prE, hk] using h4.onlyB t2 (fun b hb hm => d5 b hm b hb rfl), t1⟩, fun b hb => ?_, ?_⟩ (t2.mono (fun b hb => .inl (by simp only [obB, List.mem_cons, List.mem_append]; exact .inr (.inr hb))))
    · simp only [obB, List.mem_cons, List.mem_append] at hb ⊢
      rcases hb with q | q | q
      · exact .inl (.inl q)
      · exact .inl (.inr (.inl q))
      · rcases t3 b q with z | z
        · exact .inl (.inr (.inr z))
        · exact .inr z
    · simp only [obB, List.nodup_cons, List.mem_append, not_or, List.nodup_append]
      refine ⟨⟨d1, fun hm => ?_⟩, d3, t4, fun a ha b hb e => ?_⟩
      · rcases t3 _ hm with z | z
        · exact d2 z
        · omega
      · subst e
        rcases t3 _ hb with z | z
        · exact d5 _ ha _ z rfl
        · have := h4.mem ha; omega
end Go.Proofs.YtmecbehegmgbhaaGreat.AM
namespace Go.Proofs.YtmecbehegmgbhaaGreat.AM
set_option linter.unusedSimpArgs false
set_option linter.unusedVariables false
set_option maxRecDepth 100000
set_option maxHeartbeats 4000000
open Go
attribute [-simp] AM.elems
/-- Where a running task lies: its struct, its variables' slice and block, what waits. -/
abbrev RV := Nat × AV × Nat × AV
theorem Ob.only {base P7 P5 tr vb H H' out evs vo O ve OE bs} (h : Ob base P7 P5 tr vb H out evs vo O ve OE) (k : Only bs H H') (h5 : P5 ∉ bs) (hb : ∀ b ∈ bs, b ∉ obB P7 tr vo O ve OE) : Ob base P7 P5 tr vb H' out evs vo O ve OE := by
  obtain ⟨h1, h2, h3, h4, h6⟩ := h
  refine ⟨k.bk h2 (fun hm => hb P7 hm (by simp [obB])) h1, Nat.lt_of_lt_of_le h2 k.1, Nat.lt_of_lt_of_le h3 k.1, h4.onlyB k (fun b hm hg => hb b hm (by simp [obB, hg])), h6.only k h5 h3 (fun b hm hg => hb b hm (by simp [obB, hg]))⟩
/-- A world that runs. -/
def RunW (lo3 : Nat) (X : List Nat) (G0 : AH) (base P8 P7 P5 : Nat) (tr : Option Nat) (many : Nat) (vts : AV) (m : Nat) (s : WSt) (H : AH) : Prop :=
  ∃ (M : List Nat) (rvs : List RV) (rs : List (AV × Nat)) (B : Nat) (vb : AV) (vo : AV) (O : Nat) (ve : AV) (OE : Nat),
    (H.bk P8 = some ⟨[vts], true⟩ ∧ P8 < H.n ∧ P8 ∉ M ∧ SlC (fun b => b ∉ M) H vts many 1 (rvs.map fun q => .ptr q.1 0) ∧ rvs.length = many ∧ s.1.length = many) ∧
    (Ob base P7 P5 tr vb H s.2.2.1 s.2.2.2 vo O ve OE ∧ (obB P7 tr vo O ve OE).Nodup ∧ (∀ b ∈ obB P7 tr vo O ve OE, b ∈ M) ∧ P5 ∉ M) ∧
    (RB base H vb s.2.1 B rs ∧ (∀ b ∈ fpB B rs, b ∈ M) ∧ (∀ b ∈ obB P7 tr vo O ve OE, b ∉ fpB B rs)) ∧
    (∀ (i : Nat) (t : Tk) (q : RV), s.1[i]? = some t → rvs[i]? = some q → RunT base M H q.1 q.2.1 q.2.2.1 q.2.2.2 t ∧ (q.1 ∈ M ∧ q.2.2.1 ∈ M) ∧ (q.1 ∉ fpB B rs ∧ q.2.2.1 ∉ fpB B rs) ∧ (q.1 ∉ obB P7 tr vo O ve OE ∧ q.2.2.1 ∉ obB P7 tr vo O ve OE)) ∧
    (∀ (i j : Nat) (q q' : RV), i ≠ j → rvs[i]? = some q → rvs[j]? = some q' → q.1 ≠ q'.1 ∧ q.1 ≠ q'.2.2.1 ∧ q.2.2.1 ≠ q'.2.2.1) ∧
    ((∀ b ∈ M, b < H.n) ∧ base ≤ H.n ∧ (many ≤ 3 ∧ (∀ t ∈ s.1, vaT s.2.1.length t = true) ∧ vaBs s.2.1 = true) ∧ s.2.2.1.length + m ≤ 890000 ∧ s.2.2.2.length + m ≤ 890000) ∧
    ((∀ b ∈ M, lo3 ≤ b ∨ b ∈ X) ∧ lo3 ≤ H.n ∧ ∀ b, b < lo3 → b ∉ X → H.bk b = G0.bk b)
theorem prE_len {e : Option (Int × Int × Int)} : (prE e).length ≤ 1 := by
  unfold prE
  split
  · split <;> simp
  · simp
theorem runW_code {lo3 : Nat} {X : List Nat} {G0 : AH} {base P8 P7 P5 : Nat} {tr : Option Nat} {many : Nat} {vts : AV} {m : Nat} {s : WSt} {H : AH} (h : RunW lo3 X G0 base P8 P7 P5 tr many vts m s H) {t : Int} (ht : 0 ≤ t ∧ t < many) : 1 ≤ cdW s t ∧ cdW s t ≤ 4 := by
  obtain ⟨M, rvs, rs, B, vb, vo, O, ve, OE, ⟨_, _, _, _, _, hs⟩, _, _, _, _, ⟨_, _, ⟨_, h3, _⟩, _⟩, _⟩ := h
  unfold cdW
  obtain ⟨x, hx⟩ : ∃ x, s.1[t.toNat]? = some x := ⟨_, List.getElem?_eq_getElem (by omega)⟩
  rw [hx]
  exact step_code' (h3 x (List.mem_of_getElem? hx))
theorem runW_step {lo3 : Nat} {X : List Nat} {G0 : AH} {base P8 P7 P5 : Nat} {tr : Option Nat} {many : Nat} {vts : AV} {m : Nat} {s : WSt} {t : Int} {H : AH} {K : AV → AH → Prop} {w : Fk K} (h : RunW lo3 X G0 base P8 P7 P5 tr many vts (m + 1) s H) (ht : 0 ≤ t ∧ t < many)
    (k : ∀ H', RunW lo3 X G0 base P8 P7 P5 tr many vts m (nxW s t) H' → K (.I (cdW s t)) H') : CallF Cd f_irunWorld_1 [.I t, .ptr P8 0, .ptr P7 0, .ptr P5 0] H K w := by
  obtain ⟨M, rvs, rs, B, vb, vo, O, ve, OE, ⟨g8, n8, m8, sl, hrl, hs⟩, ⟨ob, nd, obM, m5⟩, ⟨rb, fpM, obf⟩, ts, dis, ⟨hM, hbase, ⟨hm3, va, vb3⟩, hlo, hle⟩, ⟨fX, fn, ff⟩⟩ := h
  obtain ⟨x, hx⟩ : ∃ x, s.1[t.toNat]? = some x := ⟨_, List.getElem?_eq_getElem (by omega)⟩
  obtain ⟨⟨R, vv, V, p⟩, hq⟩ : ∃ q, rvs[t.toNat]? = some q := ⟨_, List.getElem?_eq_getElem (by omega)⟩
  obtain ⟨rt, ⟨RM, VM⟩, ⟨Rf, Vf⟩, ⟨Ro, Vo⟩⟩ := ts t.toNat x _ hx hq
  simp only at rt RM VM Rf Vf Ro Vo
  have hva := va x (List.mem_of_getElem? hx)
  have hb3 := (vaBs_facts vb3).1
  have hva3 := vaT_boxes (b := 3) (by omega) hva
  have hrd := rd_of_va hva
  have e1 : nxW s t = (s.1.set t.toNat (stepP x s.2.1).1, (stepP x s.2.1).2.1, s.2.2.1 ++ (stepP x s.2.1).2.2.1, s.2.2.2 ++ evL t (evS x s.2.1)) := by unfold nxW; simp only [hx]
  have e2 : cdW s t = (stepP x s.2.1).2.2.2 := by unfold cdW; rw [hx]
  rw [e1, e2] at k
  rw [CallF_eq e_irunWorld_1 rfl]
  have x0 := Ext.push H [.I t]
  have g8' := (x0.2 _ n8).trans g8
  obtain ⟨o1, o2, o3, o4, o6⟩ := id ob
  have g7' := (x0.2 _ o2).trans o1
  obtain ⟨b, o, cap, ev, okb, hbn, hsl⟩ := sl.at (i := t.toNat) (by omega)
  have lp : (H.push [.I t]).load b (o + t.toNat) = some (.ptr R 0) := by
    have hh := hsl t.toNat 1 (by omega)
    have h2 : seg (rvs.map fun q => AV.ptr q.1 0) t.toNat 1 = some [.ptr R 0] := by
      unfold seg
      rw [if_pos (by simp; omega)]
      congr 1
      exact take_one (by rw [List.getElem?_map, hq]; rfl)
    rw [h2] at hh
    have := loadN_get (loadN_extE hh x0 hbn) (i := 0) (by omega)
    simpa using this
  subst ev
  have ht1 : 0 ≤ t := ht.1
  have ht2 : t < (many : Int) := ht.2
  simp (disch := omega) [load_push, load_bk g8', load_bk g7', ht1, ht2, lp, n8, Nat.ne_of_lt, show ¬ P8 = H.n by omega, show ¬ P7 = H.n by omega, load_bk g8, load_bk o1]
  have rt0 : RunT base M (H.push [.I t]) R vv V p x := rt.only (cs := []) x0.only (by simp) (by simp) (by simp)
  have rb0 := rb.onlyA (cs := []) x0.only (by simp)
  have ob0 := ob.only (bs := []) x0.only (by simp) (by simp)
  have hXo : H.n ∉ obB P7 tr vo O ve OE := fun hm => by have := hM _ (obM _ hm); omega
  refine K_irunning_step (P := fun H1 => Ob base P7 P5 tr vb H1 s.2.2.1 s.2.2.2 vo O ve OE ∧ H1.bk H.n = some ⟨[.I t], true⟩ ∧ H.n < H1.n ∧ base ≤ H1.n) rt0 (fun b hb => by have := hM b hb; simp; omega) hva3 (by simp; omega) rb0 vb3 hrd Rf Vf fpM (tb := obB P7 tr vo O ve OE) obf (fun b hb => by have := hM b (obM b hb); simp; omega)
    (tell_runWorld (turn := t) nd (fun hm => m5 (obM _ hm)) hXo (by omega))
    (fun H1 oo => ⟨ob0.only oo (fun hm => by rcases List.mem_cons.1 hm with q | q; exact m5 (by rw [q]; exact VM); exact m5 (fpM _ q)) (fun b hb hm => by rcases List.mem_cons.1 hb with q | q; rw [q] at hm; exact Vo hm; exact obf b hm q),
      oo.bk (by simp) (fun hm => by rcases List.mem_cons.1 hm with q | q; have := hM _ VM; omega; have := hM _ (fpM _ q); omega) push_new, by have := oo.1; simp at this; omega, by have := oo.1; simp at this; omega⟩)
    Ro Vo obM fun p' rs' H1 H2 H' r1 b1 m1 w1 tl w2 => ?_
  have n1 := w1.1
  simp only [push_n] at n1
  have hpr := step_prints (bs := s.2.1) (t := x) (fun y hy => (okT_facts ((vaT_facts hva3).2.2.1 y hy).1).1)
  -- what is told
  obtain ⟨vo', O', ve', OE', ob2, obn, nd2, w12, n12⟩ : ∃ vo' O' ve' OE', Ob base P7 P5 tr vb H2 (s.2.2.1 ++ (stepP x s.2.1).2.2.1) (s.2.2.2 ++ evL t (evS x s.2.1)) vo' O' ve' OE' ∧
      (∀ b ∈ obB P7 tr vo' O' ve' OE', b ∈ obB P7 tr vo O ve OE ∨ H1.n ≤ b ∧ b < H2.n) ∧ (obB P7 tr vo' O' ve' OE').Nodup ∧ Only (obB P7 tr vo O ve OE) H1 H2 ∧ H1.n ≤ H2.n := by
    rw [hpr]
    cases he : evS x s.2.1 with
    | none =>
      rw [he] at tl
      have tl : H2 = H1 := tl
      subst tl
      refine ⟨vo, O, ve, OE, ?_, fun b hb => .inl hb, nd, Only.refl, Nat.le_refl _⟩
      have := ob0.only w1 (fun hm => by rcases List.mem_cons.1 hm with q | q; exact m5 (by rw [q]; exact VM); exact m5 (fpM _ q)) (fun b hb hm => by rcases List.mem_cons.1 hb with q | q; rw [q] at hm; exact Vo hm; exact obf b hm q)
      simpa [prE, evL] using this
    | some e =>
      rw [he] at tl
      obtain ⟨⟨vo', O', ve', OE', a1, a2, a3⟩, a4⟩ := tl
      exact ⟨vo', O', ve', OE', a1, a2, a3, a4, a4.1⟩
  have n2 := w2.1
  -- all that is written
  have wall : Only (R :: V :: (fpB B rs ++ obB P7 tr vo O ve OE)) H H' := by
    refine (((x0.only (bs := [])).mono (by simp)).trans (w1.mono (fun b hb => .inl ?_))).trans ((w12.mono (fun b hb => .inl ?_)).trans (w2.mono (fun b hb => .inl ?_)))
    · rcases List.mem_cons.1 hb with q | q
      · simp [q]
      · simp [q]
    · simp [hb]
    · simp at hb; rcases hb with q | q <;> simp [q]
  have wM : Only M H H' := wall.mono (fun b hb => .inl (by
    simp at hb
    rcases hb with q | q | q | q
    · rw [q]; exact RM
    · rw [q]; exact VM
    · exact fpM b q
    · exact obM b q))
  have hfp : ∀ b ∈ fpB B rs', b ∈ fpB B rs ∨ H.n < b ∧ b < H1.n := fun b hb => by
    rcases m1 b hb with q | q
    · exact .inl q
    · simp at q; exact .inr (by omega)
  -- the blocks that may be written from now on
  have hM' : ∀ b ∈ M ++ (fpB B rs' ++ obB P7 tr vo' O' ve' OE'), b ∈ M ∨ H.n ≤ b ∧ b < H'.n := fun b hb => by
    simp only [List.mem_append] at hb
    rcases hb with q | q | q
    · exact .inl q
    · rcases hfp b q with z | z
      · exact .inl (fpM b z)
      · exact .inr (by omega)
    · rcases obn b q with z | z
      · exact .inl (obM b z)
      · exact .inr (by omega)
  have hold : ∀ b, b < H.n → b ∉ M → b ∉ M ++ (fpB B rs' ++ obB P7 tr vo' O' ve' OE') := fun b hb hn hm => by
    rcases hM' b hm with q | q
    · exact hn q
    · omega
  have Rn := hM _ RM
  have Vn := hM _ VM
  have obf' : ∀ b ∈ obB P7 tr vo' O' ve' OE', b ∉ fpB B rs' := fun b hb hm => by
    rcases obn b hb with q | q
    · rcases hfp b hm with z | z
      · exact obf b q z
      · have := hM _ (obM b q); omega
    · rcases hfp b hm with z | z
      · have := hM _ (fpM b z); omega
      · omega
  have out' : ∀ b, b < H.n → b ∉ fpB B rs → b ∉ fpB B rs' := fun b hb hn hm => by
    rcases hfp b hm with q | q
    · exact hn q
    · omega
  have outo : ∀ b, b < H.n → b ∉ obB P7 tr vo O ve OE → b ∉ obB P7 tr vo' O' ve' OE' := fun b hb hn hm => by
    rcases obn b hm with q | q
    · exact hn q
    · omega
  obtain ⟨sk1, sk2, sk3, sk4, sk5, sk6⟩ := step_keeps hva vb3 hrd
  simp
  refine k H' ⟨M ++ (fpB B rs' ++ obB P7 tr vo' O' ve' OE'), rvs.set t.toNat (R, vv, V, p'), rs', B, vb, vo', O', ve', OE',
    ⟨wM.bk n8 m8 g8, by have := wM.1; omega, hold _ n8 m8, ?_, by simp; exact hrl, by simp; exact hs⟩,
    ⟨ob2.only w2 (by simp; exact ⟨fun e => m5 (by rw [e]; exact RM), fun e => m5 (by rw [e]; exact VM)⟩) (fun b hb hm => ?_), nd2, fun b hb => by simp [hb], hold _ o3 m5⟩,
    ⟨b1, fun b hb => by simp [hb], obf'⟩, ?_, ?_, ⟨fun b hb => ?_, by have := wM.1; omega, ⟨hm3, ?_, sk2⟩, ?_, ?_⟩, ⟨fun b hb => ?_, by have := wM.1; omega, fun b hb hx => ?_⟩⟩
  · have e5 : (rvs.set t.toNat (R, vv, V, p')).map (fun q => AV.ptr q.1 0) = rvs.map fun q => AV.ptr q.1 0 := by
      rw [List.map_set]
      refine List.ext_getElem? fun j => ?_
      by_cases hj : j = t.toNat
      · subst hj
        rw [List.getElem?_set_self (by simp; omega), List.getElem?_map, hq]; rfl
      · rw [List.getElem?_set_ne (by omega)]
    rw [e5]
    exact sl.mono wM.1 (fun b hb hn => wM.2 b hn hb) (fun b hb hn => hold b hn hb)
  · simp at hb
    rcases hb with q | q
    · rw [q] at hm; exact outo R Rn Ro hm
    · rw [q] at hm; exact outo V Vn Vo hm
  · intro i y q hy hq'
    by_cases hi : i = t.toNat
    · subst hi
      rw [List.getElem?_set_self (by omega)] at hy hq'
      cases hy; cases hq'
      refine ⟨r1 _ (fun b hb => ?_), ⟨by simp [RM], by simp [VM]⟩, ⟨out' R Rn Rf, out' V Vn Vf⟩, ⟨outo R Rn Ro, outo V Vn Vo⟩⟩
      simp only [List.mem_append] at hb
      rcases hb with z | z | z
      · exact .inl z
      · exact .inr (.inr z)
      · rcases obn b z with u | u
        · exact .inl (obM b u)
        · exact .inr (.inl u)
    · rw [List.getElem?_set_ne (by omega)] at hy hq'
      obtain ⟨a1, ⟨a2, a3⟩, ⟨a4, a5⟩, ⟨a6, a7⟩⟩ := ts i y q hy hq'
      obtain ⟨d1, d2, d3⟩ := dis i t.toNat q _ hi hq' hq
      obtain ⟨d4, d5, d6⟩ := dis t.toNat i _ q (Ne.symm hi) hq hq'
      have hqn := hM _ a2
      have hvn := hM _ a3
      refine ⟨?_, ⟨by simp [a2], by simp [a3]⟩, ⟨out' _ hqn a4, out' _ hvn a5⟩, ⟨outo _ hqn a6, outo _ hvn a7⟩⟩
      have r2 : RunT base (M ++ (fpB B rs' ++ obB P7 tr vo' O' ve' OE')) H q.1 q.2.1 q.2.2.1 q.2.2.2 y := a1.more (fun b hb => by rcases hM' b hb with z | z; exact .inl z; exact .inr z.1)
      refine r2.only wall ?_ ?_ (fun b hb => .inl ?_)
      · simp; exact ⟨d1, d2, a4, a6⟩
      · simp; exact ⟨Ne.symm d5, d3, a5, a7⟩
      · simp at hb
        rcases hb with z | z | z | z
        · simp [z, RM]
        · simp [z, VM]
        · simp [fpM b z]
        · simp [obM b z]
  · intro i j q q' hij h1 h2
    have key : ∀ (i : Nat) (q : RV), (rvs.set t.toNat (R, vv, V, p'))[i]? = some q → ∃ q0 : RV, rvs[i]? = some q0 ∧ q0.1 = q.1 ∧ q0.2.2.1 = q.2.2.1 := fun i q h => by
      by_cases hi : i = t.toNat
      · subst hi
        rw [List.getElem?_set_self (by omega)] at h
        cases h
        exact ⟨_, hq, rfl, rfl⟩
      · rw [List.getElem?_set_ne (by omega)] at h
        exact ⟨q, h, rfl, rfl⟩
    obtain ⟨q0, z1, z2, z3⟩ := key i q h1
    obtain ⟨q1, y1, y2, y3⟩ := key j q' h2
    have := dis i j q0 q1 hij z1 y1
    rw [← z2, ← z3, ← y2, ← y3]
    exact this
  · rcases hM' b hb with q | q
    · have := hM b q; have := wM.1; omega
    · exact q.2
  · intro y hy
    simp only at hy ⊢
    rw [sk3]
    rcases List.mem_or_eq_of_mem_set hy with q | q
    · exact va y q
    · subst q; exact sk1
  · simp only [List.length_append]
    have := @prE_len (evS x s.2.1)
    rw [hpr]; omega
  · simp only [List.length_append]
    have : (evL t (evS x s.2.1)).length ≤ 1 := by unfold evL; cases evS x s.2.1 <;> simp
    omega
  · rcases hM' b hb with q | q
    · exact fX b q
    · exact .inl (by omega)
  · rw [wM.2 b (by omega) (fun hm => by rcases fX b hm with q | q; omega; exact hx q)]
    exact ff b hb hx
end Go.Proofs.YtmecbehegmgbhaaGreat.AM
namespace Go.Proofs.YtmecbehegmgbhaaGreat.AM
set_option linter.unusedSimpArgs false
set_option linter.unusedVariables false
set_option maxRecDepth 100000
set_option maxHeartbeats 4000000
open Go
attribute [-simp] AM.elems
theorem K_inewRunning2 {ok : Nat → Prop} {H : AH} {K : AV → AH → Prop} {w : Fk K} {c : List AV} {t : Tk} (h : TC ok H c t) (h4 : t.vars.length = 4)
    (k : ∀ R vv' V p H', H'.bk R = some ⟨[vv', p], true⟩ → GrS H.n H' vv' t.vars.length 1 (Ints t.vars) V → PL (fun b => (ok b ∧ b < H.n ∨ H.n ≤ b) ∧ b ≠ V ∧ b ≠ R) H' p t.rest.list → H.n ≤ V → V < R → R < H'.n → Ext H H' → K (.ptr R 0) H') : CallF Cd f_inewRunning [.agg c] H K w := by
  obtain ⟨vv, vr, rfl, h1, h2⟩ := h
  rw [CallF_eq e_inewRunning rfl]
  have x0 := Ext.push H [vv, vr]
  simp [load_push]
  refine K_cloneG (h1.ext x0).src (by omega) fun vv' H1 V g1 x1 => ?_
  have n1 := x1.1
  simp only [push_n] at n1
  have fv := g1.flat
  have hV : H.n + 1 ≤ V ∧ V < H1.n := by
    rcases g1.2.2 with q | q
    · omega
    · exact ⟨by simpa using q.1, q.2.1⟩
  have q1 : H1.bk H.n = some ⟨[vv, vr], true⟩ := (x1.2 _ (by simp)).trans push_new
  simp [x1, load_bk q1, AM.elems]
  have sv : SV (fun b => (ok b ∧ b < H.n ∨ H.n ≤ b) ∧ b ≠ V) H1 vr t.rest := h2.mono (by omega) (fun b _ hb => (x0.trans x1).2 b hb) (fun b ho hb => ⟨.inl ⟨ho, hb⟩, by omega⟩)
  refine K_iahead (ok := fun b => (ok b ∧ b < H.n ∨ H.n ≤ b) ∧ b ≠ V) (rs := []) H1.n (Nat.le_refl _) (fun b hb => ⟨.inr (by omega), by omega⟩) sv (show PL _ H1 .nilp [] from rfl) fun p H2 hp x2 => ?_
  have fp := hp.flat
  have n2 := x2.1
  rw [List.append_nil] at hp
  have x3 := Ext.push H2 [vv', p]
  simp [x2, flat_cells fv, flat_tup fv, flat_cells fp, flat_tup fp]
  refine k H2.n vv' V p _ push_new ?_ (hp.mono (by simp) (fun b _ hb => x3.2 b hb) (fun b h hb => ⟨h.1, h.2, by omega⟩)) (by omega) (by omega) (by simp) (((x0.trans x1).trans x2).trans x3)
  have g3 := (g1.ext x2).ext x3
  exact g3.up (by simp)
/-- The blocks of running tasks. -/
def rvB (l : List RV) : List Nat := l.flatMap fun q => [q.1, q.2.2.1]
theorem rvB_mem {l : List RV} {q : RV} (h : q ∈ l) : q.1 ∈ rvB l ∧ q.2.2.1 ∈ rvB l := ⟨List.mem_flatMap.2 ⟨q, h, by simp⟩, List.mem_flatMap.2 ⟨q, h, by simp⟩⟩
theorem rvB_app {a b : List RV} : rvB (a ++ b) = rvB a ++ rvB b := by simp [rvB]
/-- Tasks that run, in blocks from lo on; F: blocks that what waits must not lie in. -/
def TSt (base lo : Nat) (F : List Nat) (G : AH) (ts : List Tk) (rvs : List RV) : Prop :=
  rvs.length = ts.length ∧ (∀ (j : Nat) (t : Tk) (q : RV), ts[j]? = some t → rvs[j]? = some q → RunT base (F ++ rvB rvs) G q.1 q.2.1 q.2.2.1 q.2.2.2 t) ∧ (∀ b ∈ rvB rvs, lo ≤ b ∧ b < G.n) ∧
  (∀ (i j : Nat) (q q' : RV), i ≠ j → rvs[i]? = some q → rvs[j]? = some q' → q.1 ≠ q'.1 ∧ q.1 ≠ q'.2.2.1 ∧ q.2.2.1 ≠ q'.2.2.1)
theorem TSt.only {base lo F G G' ts rvs cs} (h : TSt base lo F G ts rvs) (k : Only cs G G') (hF : ∀ b ∈ cs, b ∈ F ∨ G.n ≤ b) (hr : ∀ b ∈ cs, b ∉ rvB rvs) : TSt base lo F G' ts rvs := by
  obtain ⟨h1, h2, h3, h4⟩ := h
  refine ⟨h1, fun j t q ht hq => ?_, fun b hb => ⟨(h3 b hb).1, by have := (h3 b hb).2; have := k.1; omega⟩, h4⟩
  have hm := rvB_mem (List.mem_of_getElem? hq)
  exact (h2 j t q ht hq).only k (fun hc => hr _ hc hm.1) (fun hc => hr _ hc hm.2) (fun b hb => by rcases hF b hb with z | z; exact .inl (List.mem_append_left _ z); exact .inr z)
theorem TSt.more {base lo F F' G ts rvs} (h : TSt base lo F G ts rvs) (hF : ∀ b ∈ F', b ∈ F ∨ G.n ≤ b) : TSt base lo F' G ts rvs :=
  ⟨h.1, fun j t q ht hq => (h.2.1 j t q ht hq).more (fun b hb => by
    rcases List.mem_append.1 hb with z | z
    · rcases hF b z with u | u
      · exact .inl (List.mem_append_left _ u)
      · exact .inr u
    · exact .inl (List.mem_append_right _ z)), h.2.2.1, h.2.2.2⟩
theorem K_irunWorld_l0 {w : Wd} (hw : smW w) {vt b1 b2 b3 b4 n5 : AV} {P3 P5 P6 P7 P8 base lo : Nat} {F : List Nat} {Q : Out → Env → AH → Prop} {okw : Nat → Prop} (hok : ∀ b, okw b → b < lo ∧ b ≠ P8 ∧ b ∉ F) (hF : ∀ b ∈ F, b < lo ∧ b ≠ P8) (h8 : P8 < lo) (h3 : P3 < lo ∧ P3 ≠ P8) (hbl : base ≤ lo)
    (m i : Nat) (hm : i + m = w.tasks.length) {G : AH} {g : AV} {B : Nat} {rvs : List RV} (hlo : lo ≤ G.n) (gP : G.bk P3 = some ⟨[vt, b1, b2, b3, b4], true⟩) (hv : TV okw G vt w.tasks) (g8 : G.bk P8 = some ⟨[g], true⟩)
    (hg : GrS lo G g i 1 (rvs.map fun q => .ptr q.1 0) B) (hgr : ∀ b ∈ grB g B, b ∉ rvB rvs) (ht : TSt base lo (P8 :: (grB g B ++ F)) G (w.tasks.take i) rvs)
    (hQ : ∀ e G' g' B' rvs', GrS lo G' g' w.tasks.length 1 (rvs'.map fun q => .ptr q.1 0) B' → G'.bk P8 = some ⟨[g'], true⟩ → (∀ b ∈ grB g' B', b ∉ rvB rvs') → TSt base lo (P8 :: (grB g' B' ++ F)) G' w.tasks rvs' → (∀ b, b < lo → b ≠ P8 → G'.bk b = G.bk b) → G.n ≤ G'.n →
      get e 1 = some n5 → get e 3 = some (.ptr P3 0) → get e 5 = some (.ptr P5 0) → get e 6 = some (.ptr P6 0) → get e 7 = some (.ptr P7 0) → get e 8 = some (.ptr P8 0) → Q (.brk 0) e G') :
    W Cd (.loop c_irunWorld_l0) [(1, n5), (3, .ptr P3 0), (5, .ptr P5 0), (6, .ptr P6 0), (7, .ptr P7 0), (8, .ptr P8 0), (21, vt), (22, .I w.tasks.length), (23, .I i)] G Q := by
  have hbig := hv.big
  have hl3 : w.tasks.length ≤ 3 := (vaWd_iff.1 hw.1).1.2.1
  induction m generalizing i G g B rvs with
  | zero =>
    rw [W_loop_as c_irunWorld_l0.eq_1]
    have : i = w.tasks.length := by omega
    subst this
    simp
    rw [List.take_length] at ht
    exact hQ _ G g B rvs hg g8 hgr ht (fun _ _ _ => rfl) (Nat.le_refl _) rfl rfl rfl rfl rfl rfl
  | succ m ih =>
    rw [W_loop_as c_irunWorld_l0.eq_1]
    have hlt : i < w.tasks.length := by omega
    have hlt' : (i : Int) < w.tasks.length := by omega
    obtain ⟨t, htt⟩ : ∃ t, w.tasks[i]? = some t := ⟨_, List.getElem?_eq_getElem hlt⟩
    obtain ⟨b, o, cap, vv, vr, e1, ob, hbn, l1, i1, s1⟩ := hv.at htt
    obtain ⟨u1, u2, u3, u4, u5⟩ := hw.task (List.mem_of_getElem? htt)
    have hv' := hv
    subst e1
    have x0 := Ext.push G [vv, vr]
    have q8 := (x0.2 P8 (by omega)).trans g8
    have hne8 : ¬ P8 = G.n := by omega
    have st0 : (G.push [.nils, .nils]).store G.n 0 [vv, vr] = some (G.push [vv, vr]) := store_push2e
    simp (disch := omega) [hlt', l1, st0, load_bk q8, loadN_push]
    refine K_inewRunning2 (ok := fun b => okw b) ⟨vv, vr, rfl, i1.ext x0, s1.ext x0⟩ u5 fun R vv' V p H1 gR gv hp hV1 hVR hR x1 => ?_
    have n1 := x1.1
    simp only [push_n] at n1 hV1
    have x2 := (x0.trans x1).trans (Ext.push H1 [.ptr R 0])
    obtain ⟨g', G', B', a1, a2, a3, a4⟩ := (hg.ext x2).app (by simp; omega) (k := 1) (new := [.ptr R 0]) rfl (by omega)
    have n4 := a4.1
    simp only [push_n] at n4
    have hgm : ∀ b, b ∈ grB g B → b = B ∧ lo ≤ B ∧ B < G.n := fun b hb => hg.mem hb
    have g8' : G'.bk P8 = some ⟨[g], true⟩ := (a4.2 P8 (by simp; omega) (fun hm => by have := hgm _ hm; omega)).trans ((x2.2 P8 (by omega)).trans g8)
    have f := a2.flat
    have st := store_cell (v := g') g8' (o := 0) (by simp)
    simp only [List.set_cons_zero] at st
    have hB' : B' = B ∧ B ∈ grB g B ∨ B' = H1.n + 1 := by
      rcases a3 with q | q
      · exact .inl q
      · exact .inr (by rw [q]; simp)
    have hB8 : B' ≠ P8 := by
      rcases hB' with q | q
      · have := hgm _ q.2; omega
      · omega
    have hgr' : ∀ b ∈ grB g' B', b ∈ grB g B ∨ b = H1.n + 1 := fun b hb => by
      have := grB_sub hb
      rcases hB' with q | q
      · exact .inl (by rw [this, q.1]; exact q.2)
      · exact .inr (by rw [this, q])
    -- the new task
    have rt : RunT base (P8 :: (grB g B ++ F) ++ rvB (rvs ++ [(R, vv', V, p)])) H1 R vv' V p t := by
      refine ⟨gR, hR, by omega, gv.up (by simp; omega), by omega, by omega, by omega, hp.mono (Nat.le_refl _) (fun _ _ _ => rfl) (fun b hb hbn => ⟨hb.2.2, hb.2.1, fun hm => ?_⟩)⟩
      rw [rvB_app] at hm
      simp only [List.cons_append, List.mem_cons, List.mem_append] at hm
      rcases hb.1 with ⟨z1, z2⟩ | z1
      · have z3 := hok b z1
        rcases hm with q | (q | q) | q | q
        · exact z3.2.1 q
        · have := hgm _ q; omega
        · exact z3.2.2 q
        · have := (ht.2.2.1 b q).1; omega
        · simp [rvB] at q; omega
      · simp only [push_n] at z1
        rcases hm with q | (q | q) | q | q
        · omega
        · have := hgm _ q; omega
        · have := hF b q; omega
        · have := (ht.2.2.1 b q).2; omega
        · simp [rvB] at q
          rcases q with q | q
          · exact hb.2.2 q
          · exact hb.2.1 q
    have hil : (w.tasks.take i).length = i := by simp; omega
    have hrl : rvs.length = i := by rw [ht.1, hil]
    have t1 : TSt base lo (P8 :: (grB g B ++ F)) H1 (w.tasks.take (i + 1)) (rvs ++ [(R, vv', V, p)]) := by
      have ht1 := ht.only (cs := []) (G' := H1) ((x0.trans x1).only) (by simp) (by simp)
      rw [take_snoc htt]
      have key : ∀ (j : Nat) (q : RV), (rvs ++ [(R, vv', V, p)])[j]? = some q → (j < i ∧ rvs[j]? = some q) ∨ (j = i ∧ q = (R, vv', V, p)) := fun j q hq => by
        by_cases hj : j < i
        · rw [List.getElem?_append_left (by omega)] at hq; exact .inl ⟨hj, hq⟩
        · have := (List.getElem?_eq_some_iff.1 hq).1
          rw [List.length_append, hrl, List.length_singleton] at this
          have hj' : j = i := by omega
          subst hj'
          rw [List.getElem?_append_right (by omega), hrl, Nat.sub_self] at hq
          simp at hq
          exact .inr ⟨rfl, hq.symm⟩
      have old : ∀ b ∈ rvB rvs, b < G.n := fun b hb => (ht.2.2.1 b hb).2
      refine ⟨by simp [hrl]; omega, fun j y q hy hq => ?_, fun b hb => ?_, fun j j' q q' hjj hq hq' => ?_⟩
      · rcases key j q hq with ⟨z1, z2⟩ | ⟨z1, rfl⟩
        · rw [List.getElem?_append_left (by omega)] at hy
          refine (ht.only (cs := []) (G' := G) Only.refl (by simp) (by simp)).2.1 j y q hy z2 |>.more (M' := P8 :: (grB g B ++ F) ++ rvB (rvs ++ [(R, vv', V, p)])) (fun b hb => ?_) |>.only (cs := []) (x0.trans x1).only (by simp) (by simp) (by simp)
          rw [rvB_app] at hb
          simp only [List.cons_append, List.mem_cons, List.mem_append] at hb ⊢
          rcases hb with u | (u | u) | u | u
          · exact .inl (.inl u)
          · exact .inl (.inr (.inl (.inl u)))
          · exact .inl (.inr (.inl (.inr u)))
          · exact .inl (.inr (.inr u))
          · simp [rvB] at u; exact .inr (by omega)
        · subst z1
          rw [List.getElem?_append_right (by omega), hil, Nat.sub_self] at hy
          simp at hy
          subst hy
          exact rt
      · rw [rvB_app] at hb
        rcases List.mem_append.1 hb with z | z
        · have := ht.2.2.1 b z; omega
        · simp [rvB] at z; omega
      · rcases key j q hq with ⟨z1, z2⟩ | ⟨z1, rfl⟩ <;> rcases key j' q' hq' with ⟨y1, y2⟩ | ⟨y1, rfl⟩
        · exact ht.2.2.2 j j' q q' hjj z2 y2
        · have m1 := rvB_mem (List.mem_of_getElem? z2)
          have := old _ m1.1; have := old _ m1.2
          simp only; omega
        · have m1 := rvB_mem (List.mem_of_getElem? y2)
          have := old _ m1.1; have := old _ m1.2
          simp only; omega
        · omega
    have t2 : TSt base lo (P8 :: (grB g' B' ++ F)) (G'.put P8 (some ⟨[g'], true⟩)) (w.tasks.take (i + 1)) (rvs ++ [(R, vv', V, p)]) := by
      have s1 := (t1.more (F' := P8 :: (grB g B ++ (grB g' B' ++ F))) (fun b hb => by
        simp only [List.mem_cons, List.mem_append] at hb ⊢
        rcases hb with q | q | q | q
        · exact .inl (.inl q)
        · exact .inl (.inr (.inl q))
        · rcases hgr' b q with z | z
          · exact .inl (.inr (.inl z))
          · exact .inr (by omega)
        · exact .inl (.inr (.inr q)))).only (cs := []) (G' := H1.push [.ptr R 0]) (Ext.push _ _).only (by simp) (by simp)
      have rvlo : ∀ b ∈ rvB (rvs ++ [(R, vv', V, p)]), b ∈ rvB rvs ∨ (G.n ≤ b ∧ b < H1.n) := fun b hb => by
        rw [rvB_app] at hb
        rcases List.mem_append.1 hb with z | z
        · exact .inl z
        · simp [rvB] at z; exact .inr (by omega)
      have s2 := s1.only a4 (fun b hb => .inl (by simp [hb])) (fun b hb hm => by
        rcases rvlo b hm with z | z
        · exact hgr b hb z
        · have := hgm b hb; omega)
      have s3 := s2.only (cs := [P8]) (G' := G'.put P8 (some ⟨[g'], true⟩)) (Only.refl.put (by simp)) (fun b hb => .inl (by simp at hb; simp [hb])) (fun b hb hm => by
        simp at hb
        have := (t1.2.2.1 b hm).1; omega)
      exact s3.more (fun b hb => .inl (by
        simp only [List.mem_cons, List.mem_append] at hb ⊢
        rcases hb with q | q | q
        · exact .inl q
        · exact .inr (.inr (.inl q))
        · exact .inr (.inr (.inr q))))
    have gg : ∀ b, b < lo → b ≠ P8 → (G'.put P8 (some ⟨[g'], true⟩)).bk b = G.bk b := fun b hb h2 => by
      rw [put_bk, if_neg h2, a4.2 b (by simp; omega) (fun hm => by have := hgm _ hm; omega), x2.2 b (by omega)]
    simp (disch := omega) [AM.elems, x1, loadN_push, a1, flat_cells f, flat_tup f, st]
    have := ih (i + 1) (by omega) (G := G'.put P8 (some ⟨[g'], true⟩)) (g := g') (B := B') (rvs := rvs ++ [(R, vv', V, p)]) (by simp; omega)
      ((gg P3 h3.1 h3.2).trans gP) (hv'.mono (by simp; omega) (fun b hb _ => gg b (hok b hb).1 (hok b hb).2.1) (fun _ h _ => h)) put_same
      (by rw [List.map_append]; exact a2.only (bs := [P8]) (Only.refl.put (by simp)) (fun b hb => .inr (by simp at hb; rw [hb]; exact Ne.symm hB8)))
      (fun b hb hm => by
        rw [rvB_app] at hm
        rcases hgr' b hb with z | z
        · rcases List.mem_append.1 hm with y | y
          · exact hgr b z y
          · have := hgm b z; simp [rvB] at y; omega
        · rcases List.mem_append.1 hm with y | y
          · have := (ht.2.2.1 b y).2; omega
          · simp [rvB] at y; omega) t2
      (fun e G2 g2 B2 rvs2 z1 z2 z3 z4 z5 z6 y1 y2 y3 y4 y5 y6 => hQ e G2 g2 B2 rvs2 z1 z2 z3 z4 (fun b hb h2 => (z5 b hb h2).trans (gg b hb h2)) (by simp at z6; omega) y1 y2 y3 y4 y5 y6)
    simpa using this
end Go.Proofs.YtmecbehegmgbhaaGreat.AM
namespace Go.Proofs.YtmecbehegmgbhaaGreat.AM
set_option linter.unusedSimpArgs false
set_option linter.unusedVariables false
set_option maxRecDepth 100000
set_option maxHeartbeats 4000000
open Go
attribute [-simp] AM.elems
theorem K_irunWorld_l1 {ts : List Tk} (hts : ∀ t ∈ ts, vaT 3 t = true ∧ t.rest.list.length ≤ 4000) (hn3 : ts.length ≤ 3) {vts vb vo : AV} {P6 P7 base lo : Nat} {tn jn : Int} {M : List Nat} {rvs : List RV} {Q : Out → Env → AH → Prop} {okv : Nat → Prop} (hokv : ∀ b, okv b → b < lo ∧ b ≠ P7) (h7 : P7 < lo) (h7M : P7 ∈ M)
    (hrl : rvs.length = ts.length) (m i : Nat) (hm : i + m = ts.length) {G : AH} {g : AV} {cs : List AV} {B : Nat} (hlo : lo ≤ G.n) (g7 : G.bk P7 = some ⟨[g, vb, .I tn, .I jn, vo], true⟩) (hv : SlC okv G vts ts.length 1 (rvs.map fun q => .ptr q.1 0))
    (hg : GrS lo G g i 2 cs B) (he : LF 2 (TC (fun b => lo ≤ b ∧ b ≠ B) G) (ts.take i) cs)
    (ht : ∀ (j : Nat) (t : Tk) (q : RV), ts[j]? = some t → rvs[j]? = some q → RunT base (grB g B ++ M) G q.1 q.2.1 q.2.2.1 q.2.2.2 t ∧ (q.1 < lo ∧ q.2.2.1 < lo) ∧ (q.1 ≠ P7 ∧ q.2.2.1 ≠ P7))
    (hQ : ∀ e G' g' cs' B', GrS lo G' g' ts.length 2 cs' B' → LF 2 (TC (fun b => lo ≤ b ∧ b ≠ B') G') ts cs' → G'.bk P7 = some ⟨[g', vb, .I tn, .I jn, vo], true⟩ → (∀ b, b < lo → b ≠ P7 → G'.bk b = G.bk b) → G.n ≤ G'.n → get e 6 = some (.ptr P6 0) → get e 7 = some (.ptr P7 0) → Q (.brk 2) e G') :
    W Cd (.loop c_irunWorld_l1) [(6, .ptr P6 0), (7, .ptr P7 0), (48, vts), (49, .I ts.length), (50, .I i)] G Q := by
  induction m generalizing i G g cs B with
  | zero =>
    rw [W_loop_as c_irunWorld_l1.eq_1]
    have : i = ts.length := by omega
    subst this
    simp
    rw [List.take_length] at he
    exact hQ _ G g cs B hg he g7 (fun _ _ _ => rfl) (Nat.le_refl _) rfl rfl
  | succ m ih =>
    rw [W_loop_as c_irunWorld_l1.eq_1]
    have hlt : i < ts.length := by omega
    have hlt' : (i : Int) < ts.length := by omega
    obtain ⟨t, htt⟩ : ∃ t, ts[i]? = some t := ⟨_, List.getElem?_eq_getElem hlt⟩
    obtain ⟨⟨R, vv, V, p⟩, hq⟩ : ∃ q, rvs[i]? = some q := ⟨_, List.getElem?_eq_getElem (by omega)⟩
    obtain ⟨rt, ⟨Rl, Vl⟩, ⟨R7, V7⟩⟩ := ht i t _ htt hq
    simp only at rt Rl Vl R7 V7
    obtain ⟨hva, hlen⟩ := hts t (List.mem_of_getElem? htt)
    obtain ⟨f1, f2, f3, f4⟩ := vaT_facts hva
    obtain ⟨b, o, cap, ev, okb, hbn, hsl⟩ := hv.at (i := i) (by omega)
    have lp : G.load b (o + i) = some (.ptr R 0) := by
      have hh := hsl i 1 (by omega)
      have h2 : seg (rvs.map fun q => AV.ptr q.1 0) i 1 = some [.ptr R 0] := by
        unfold seg
        rw [if_pos (by simp; omega)]
        congr 1
        exact take_one (by rw [List.getElem?_map, hq]; rfl)
      rw [h2] at hh
      have := loadN_get hh (i := 0) (by omega)
      simpa using this
    have hv' := hv
    subst ev
    simp (disch := omega) [hlt', lp, load_bk g7]
    obtain ⟨t1, t2, t3, t4, t5, t6, t7, t8⟩ := rt
    refine K_irunning_task t1 t2 t4.iv.src (by omega) t8 (fun s hs => ⟨by rw [cpS_mem] at f4; exact List.all_eq_true.1 f4 s hs, by have := (f3 s hs).2; omega⟩) (by omega) fun c' H1 tc x1 => ?_
    have n1 := x1.1
    rw [Sts.of_list] at tc
    obtain ⟨cv, cr, rfl, j1, j2⟩ := id tc
    have x2 := x1.trans (Ext.push H1 [cv, cr])
    obtain ⟨g', G', B', a1, a2, a3, a4, a5, a6⟩ := LF.snoc2 (E := TC) (x := t) (fun h => h.mono) htt hg he (by omega) hlo x2 (c := [cv, cr]) rfl (tc.ext (Ext.push H1 _)) (by omega)
    have hgm : ∀ b, b ∈ grB g B → b = B ∧ lo ≤ B ∧ B < G.n := fun b hb => hg.mem hb
    have g7' : G'.bk P7 = some ⟨[g, vb, .I tn, .I jn, vo], true⟩ := (a4.2 P7 (by simp; omega) (fun hm => by have := hgm _ hm; omega)).trans ((x2.2 P7 (by omega)).trans g7)
    have hfl : cv.flat = true ∧ cr.flat = true := ⟨SlC.flat j1, j2.flat⟩
    have st := store_cell (v := g') g7' (o := 0) (by simp)
    simp only [List.set_cons_zero] at st
    have hB' : B' = B ∧ B ∈ grB g B ∨ B' = H1.n + 1 := by
      rcases a5 with q | q
      · exact .inl q
      · exact .inr (by rw [q]; simp)
    have hB7 : B' ≠ P7 := by
      rcases hB' with q | q
      · have := hgm _ q.2; omega
      · omega
    have hgr' : ∀ b ∈ grB g' B', b ∈ grB g B ∨ b = H1.n + 1 := fun b hb => by
      have := grB_sub hb
      rcases hB' with q | q
      · exact .inl (by rw [this, q.1]; exact q.2)
      · exact .inr (by rw [this, q])
    have n4 := a4.1
    simp only [push_n] at n4
    have gg : ∀ b, b < G.n → b ∉ grB g B → b ≠ P7 → (G'.put P7 (some ⟨[g', vb, .I tn, .I jn, vo], true⟩)).bk b = G.bk b := fun b hb h1 h2 => by
      rw [put_bk, if_neg h2, a4.2 b (by simp; omega) h1, x2.2 b hb]
    have glo : ∀ b, b < lo → b ∉ grB g B := fun b hb hm => by have := hgm b hm; omega
    have wall : Only (P7 :: grB g B) G (G'.put P7 (some ⟨[g', vb, .I tn, .I jn, vo], true⟩)) := ⟨by simp; omega, fun b hb hm => by
      simp at hm; exact gg b hb hm.2 hm.1⟩
    simp (disch := omega) [AM.elems, x1, loadN_push, a1, flat_cells a6, flat_tup a6, st]
    have := ih (i + 1) (by omega) (G := G'.put P7 (some ⟨[g', vb, .I tn, .I jn, vo], true⟩)) (g := g') (cs := cs ++ [cv, cr]) (B := B') (by simp; omega) put_same
      (hv'.mono (by simp; omega) (fun b hb hn => gg b hn (glo b (hokv b hb).1) (hokv b hb).2) (fun _ h _ => h))
      (a2.only (bs := [P7]) (Only.refl.put (by simp)) (fun b hb => .inr (by simp at hb; subst hb; exact Ne.symm hB7)))
      (a3.imp fun c a h => h.mono (by simp) (fun b hb _ => by rw [put_bk, if_neg (by omega)]) (fun _ h _ => h))
      (fun j y q hy hq' => by
        obtain ⟨r1, ⟨r2, r3⟩, ⟨r4, r5⟩⟩ := ht j y q hy hq'
        refine ⟨?_, ⟨r2, r3⟩, ⟨r4, r5⟩⟩
        have s1 : RunT base (grB g B ++ (grB g' B' ++ M)) G q.1 q.2.1 q.2.2.1 q.2.2.2 y := r1.more (fun b hb => by
          simp only [List.mem_append] at hb ⊢
          rcases hb with z | z | z
          · exact .inl (.inl z)
          · rcases hgr' b z with u | u
            · exact .inl (.inl u)
            · exact .inr (by omega)
          · exact .inl (.inr z))
        have s2 := s1.only wall (by simp; exact ⟨r4, glo _ r2⟩) (by simp; exact ⟨r5, glo _ r3⟩) (fun b hb => .inl (by
          simp at hb
          rcases hb with z | z
          · subst z; simp [h7M]
          · simp [z]))
        exact s2.more (fun b hb => .inl (List.mem_append_right _ hb)))
      (fun e G2 g2 cs2 B2 z1 z2 z3 z4 z5 z6 z7 => hQ e G2 g2 cs2 B2 z1 z2 z3 (fun b hb h2 => (z4 b hb h2).trans (gg b (by omega) (glo b hb) h2)) (by simp at z5; omega) z6 z7)
    simpa using this
/-- Who is told of a run's events. -/
def trV (tr : Option Nat) : AV := match tr with | none => .nilf | some PU => .fn f_iWorldTrace_1 [] [.ptr PU 0]
def trBk (tr : Option Nat) : List Nat := match tr with | none => [] | some PU => [PU]
def trIn (tr : Option Nat) (H : AH) : Prop := match tr with | none => True | some PU => PU < H.n ∧ H.bk PU = some ⟨[.nils], true⟩
def trOut (tr : Option Nat) (base : Nat) (H : AH) (evs : List Evt) : Prop := match tr with | none => True | some PU => ∃ ve OE, H.bk PU = some ⟨[ve], true⟩ ∧ GrS base H ve evs.length 4 (evCs evs) OE
theorem K_irunWorld {ok : Nat → Prop} {H : AH} {K : AV → AH → Prop} {wf : Fk K} {c : List AV} {w : Wd} {n : Nat} (tr : Option Nat) (h : WC ok H c w) (hok : ∀ b, ok b → b ∉ trBk tr) (hv : vaWd w = true) (hbo : boW w n) (hn : n ≤ 100000) (hol : w.out.length + n ≤ 800000) (htr : trIn tr H)
    (k : ∀ c' H', WC (fun b => H.n ≤ b) H' c' (runW n w) → Only (trBk tr) H H' → trOut tr H.n H' (trW n w) → K (.agg c') H') : CallF Cd f_irunWorld [.agg c, .I n, trV tr] H K wf := by
  have hw := hbo.sm hv
  obtain ⟨vt, vb, vo, rfl, h1, h2, h3⟩ := h
  rw [CallF_eq e_irunWorld rfl]
  obtain ⟨g1, g2, g3, g4⟩ := vaWd_iff.1 hv
  have hb3 := vaBs_facts g3
  have fl : (trV tr).flat = true := by cases tr <;> rfl
  have x0 := ((Ext.push H [vt, vb, .I w.turn, .I w.idle, vo]).trans (Ext.push _ [trV tr])).trans (Ext.push _ [.nils, .nils, .I 0, .I 0, .nils])
  have q3 : (((H.push [vt, vb, .I w.turn, .I w.idle, vo]).push [trV tr]).push [.nils, .nils, .I 0, .I 0, .nils]).bk H.n = some ⟨[vt, vb, .I w.turn, .I w.idle, vo], true⟩ := push_old (by simp <;> omega) (push_old (by simp) push_new)
  have q5 : (((H.push [vt, vb, .I w.turn, .I w.idle, vo]).push [trV tr]).push [.nils, .nils, .I 0, .I 0, .nils]).bk (H.n + 1) = some ⟨[trV tr], true⟩ := push_old (by simp) push_new
  simp [flat_cells fl, flat_tup fl, load_bk q3]
  refine R_iboxesCopy (h2.ext x0) (by omega) (fun x hx => by have := hb3.2 x hx; omega) fun vb' B rs H1 rb x1 => ?_
  have n1 := x1.1
  simp only [push_n] at n1
  have q31 := (x1.2 H.n (by simp; omega)).trans q3
  have y1 := x0.trans x1
  simp [flat_cells fl, x1, load_bk q31]
  refine K_cloneG (h3.ext y1).src (by omega) fun vo' H2 O og x2 => ?_
  have n2 := x2.1
  have of := og.flat
  have bf := rb.2.1.flat
  have x3 := (Ext.push H2 [.nils, vb', .I 0, .I 0, vo']).trans (Ext.push _ [.nils])
  have y3 := (y1.trans x2).trans x3
  have q33 := (x3.2 H.n (by omega)).trans ((x2.2 _ (by omega)).trans q31)
  have q7 : ((H2.push [.nils, vb', .I 0, .I 0, vo']).push [.nils]).bk H2.n = some ⟨[.nils, vb', .I 0, .I 0, vo'], true⟩ := push_old (by simp) push_new
  simp [flat_cells fl, x2, flat_cells of, flat_tup of, flat_cells bf, flat_tup bf, store_push5e, load_bk q33, h1.alen]
  -- the blocks that what waits must not lie in
  have hfp : ∀ b ∈ fpB B rs, H.n + 3 ≤ b ∧ b < H1.n := fun b hb => by have := rb.mem' hb; simp at this; omega
  have hO : ∀ b ∈ grB vo' O, H1.n ≤ b ∧ b < H2.n := fun b hb => by have := og.mem hb; omega
  have hPU : ∀ b ∈ trBk tr, b < H.n := fun b hb => by
    cases tr with
    | none => simp [trBk] at hb
    | some PU => simp [trBk] at hb; subst hb; exact htr.1
  refine ?_
  have := K_irunWorld_l0 hw (vt := vt) (b1 := vb) (b2 := .I w.turn) (b3 := .I w.idle) (b4 := vo) (n5 := .I n) (P3 := H.n) (P5 := H.n + 1) (P6 := H.n + 2) (P7 := H2.n) (P8 := H2.n + 1) (base := H.n) (lo := H2.n + 2) (F := H2.n :: (grB vo' O ++ (fpB B rs ++ trBk tr))) (okw := fun b => ok b ∧ b < H.n)
    (fun b hb => ⟨by omega, by omega, fun hm => by
      simp only [List.mem_cons, List.mem_append] at hm
      rcases hm with q | q | q | q
      · omega
      · have := hO b q; omega
      · have := hfp b q; omega
      · exact hok b hb.1 q⟩)
    (fun b hb => by
      simp only [List.mem_cons, List.mem_append] at hb
      rcases hb with q | q | q | q
      · omega
      · have := hO b q; omega
      · have := hfp b q; omega
      · have := hPU b q; omega) (by omega) (by omega) (by omega) w.tasks.length 0 (by omega)
    (G := (H2.push [.nils, vb', .I 0, .I 0, vo']).push [.nils]) (g := .nils) (B := H2.n + 1) (rvs := []) (by simp) q33 (h1.mono (by simp; omega) (fun b _ hb => y3.2 b hb) (fun b hb hn => ⟨hb, hn⟩)) push_new GrS.nils (by simp [grB]) ⟨by simp, by simp, by simp [rvB], by simp⟩ (Q := ?_) ?_
  · simpa using this
  · intro e G g B8 rvs gg g8 hgr ts hk hGn e1 e3 e5 e6 e7 e8
    simp only [push_n] at hGn
    have keep : ∀ b, b < H2.n + 1 → G.bk b = ((H2.push [.nils, vb', .I 0, .I 0, vo']).push [.nils]).bk b := fun b hb => hk b (by omega) (by omega)
    have q3G := (keep H.n (by omega)).trans q33
    have q7G := (keep H2.n (by omega)).trans q7
    have q5G : G.bk (H.n + 1) = some ⟨[trV tr], true⟩ := (keep _ (by omega)).trans ((x3.2 _ (by omega)).trans ((x2.2 _ (by omega)).trans ((x1.2 _ (by simp)).trans q5)))
    have q6G : G.bk (H.n + 2) = some ⟨[.nils, .nils, .I 0, .I 0, .nils], true⟩ := (keep _ (by omega)).trans ((x3.2 _ (by omega)).trans ((x2.2 _ (by omega)).trans ((x1.2 _ (by simp)).trans push_new)))
    have hga : alen g = some w.tasks.length := gg.alen
    simp [e1, e3, e5, e6, e7, e8, load_bk g8, hga, load_bk q3G]
    have hgB : ∀ b ∈ grB g B8, H2.n + 2 ≤ b ∧ b < G.n := fun b hb => by have := gg.mem hb; omega
    have trS : ∃ ve OE, ObT H.n (H.n + 1) tr G [] ve OE ∧ trB tr ve OE = trBk tr := by
      cases tr with
      | none => exact ⟨.nils, 0, q5G, rfl⟩
      | some PU =>
        obtain ⟨z1, z2⟩ := htr
        have zk : G.bk PU = some ⟨[.nils], true⟩ := (keep PU (by omega)).trans ((y3.2 PU z1).trans z2)
        exact ⟨.nils, 0, ⟨q5G, by omega, zk, GrS.nils⟩, rfl⟩
    obtain ⟨ve, OE, ot, otb⟩ := trS
    have obe : obB H2.n tr vo' O ve OE = H2.n :: (grB vo' O ++ trBk tr) := by unfold obB; rw [otb]
    have rbG : RB H.n G vb' w.boxes B rs := ((rb.up (by simp; omega)).onlyA (cs := []) (H' := H2) x2.only (by simp)).onlyA (cs := []) (H' := G) ⟨by omega, fun b hb _ => (keep b (by omega)).trans (x3.2 b hb)⟩ (by simp)
    have ogG : GrS H.n G vo' w.out.length 1 (Ints w.out) O := (og.up (by omega)).onlyB (bs := []) ⟨by omega, fun b hb _ => (keep b (by omega)).trans (x3.2 b hb)⟩ (by simp)
    have nd : (obB H2.n tr vo' O ve OE).Nodup := by
      rw [obe]
      simp only [List.nodup_cons, List.mem_append, not_or, List.nodup_append]
      refine ⟨⟨fun hm => by have := hO _ hm; omega, fun hm => by have := hPU _ hm; omega⟩, by cases vo' <;> simp [grB], by cases tr <;> simp [trBk], fun a ha b hb e => ?_⟩
      subst e
      have := hO _ ha; have := hPU _ hb; omega
    have S0 : RunW (H.n + 3) (trBk tr) G H.n (H2.n + 1) H2.n (H.n + 1) tr w.tasks.length g n (w.tasks, w.boxes, w.out, []) G := by
      refine ⟨H2.n :: (grB vo' O ++ (fpB B rs ++ trBk tr)) ++ rvB rvs, rvs, rs, B, vb', vo', O, ve, OE, ⟨g8, by omega, fun hm => ?_, ?_, ts.1, rfl⟩, ⟨⟨q7G, by omega, by omega, ogG, ot⟩, nd, fun b hb => ?_, fun hm => ?_⟩, ⟨rbG, fun b hb => by simp [hb], fun b hb hm => ?_⟩,
        fun i t q ht hq => ?_, ts.2.2.2, ⟨fun b hb => ?_, by omega, ⟨g1.2.1, g4, g3⟩, by simp; omega, by simp; omega⟩, ⟨fun b hb => ?_, by omega, fun _ _ _ => rfl⟩⟩
      · simp only [List.cons_append, List.mem_cons, List.mem_append] at hm
        rcases hm with q | (q | q | q) | q
        · omega
        · have := hO _ q; omega
        · have := hfp _ q; omega
        · have := hPU _ q; omega
        · have := (ts.2.2.1 _ q).1; omega
      · have hB8 : B8 ∈ grB g B8 := by
          rcases gg.2.2 with q | ⟨_, _, ⟨q, _⟩ | ⟨_, _, q, _⟩⟩
          · omega
          · rw [q]; simp [grB]
          · rw [q]; simp [grB]
        refine gg.ivB (fun hb1 hb2 hm => ?_)
        simp only [List.cons_append, List.mem_cons, List.mem_append] at hm
        rcases hm with q | (q | q | q) | q
        · omega
        · have := hO _ q; omega
        · have := hfp _ q; omega
        · have := hPU _ q; omega
        · exact hgr _ hB8 q
      · rw [obe] at hb; simp at hb ⊢
        rcases hb with q | q | q <;> simp [q]
      · simp only [List.cons_append, List.mem_cons, List.mem_append] at hm
        rcases hm with q | (q | q | q) | q
        · omega
        · have := hO _ q; omega
        · have := hfp _ q; omega
        · have := hPU _ q; omega
        · have := (ts.2.2.1 _ q).1; omega
      · rw [obe] at hb
        simp only [List.mem_cons, List.mem_append] at hb
        have := hfp b hm
        rcases hb with q | q | q
        · omega
        · have := hO _ q; omega
        · have := hPU _ q; omega
      · have hm := rvB_mem (List.mem_of_getElem? hq)
        have l1 := ts.2.2.1 _ hm.1
        have l2 := ts.2.2.1 _ hm.2
        refine ⟨(ts.2.1 i t q ht hq).more (fun b hb => .inl ?_), ⟨by simp [hm.1], by simp [hm.2]⟩, ⟨fun hc => by have := hfp _ hc; omega, fun hc => by have := hfp _ hc; omega⟩, ⟨fun hc => ?_, fun hc => ?_⟩⟩
        · simp only [List.cons_append, List.mem_cons, List.mem_append] at hb ⊢
          rcases hb with q | (q | q | q) | q
          · exact .inr (.inl (.inr (.inl q)))
          · exact .inr (.inl (.inr (.inr (.inl q))))
          · exact .inr (.inl (.inr (.inr (.inr (.inl q)))))
          · exact .inr (.inl (.inr (.inr (.inr (.inr q)))))
          · exact .inr (.inr q)
        · rw [obe] at hc
          simp only [List.mem_cons, List.mem_append] at hc
          rcases hc with q | q | q
          · omega
          · have := hO _ q; omega
          · have := hPU _ q; omega
        · rw [obe] at hc
          simp only [List.mem_cons, List.mem_append] at hc
          rcases hc with q | q | q
          · omega
          · have := hO _ q; omega
          · have := hPU _ q; omega
      · simp only [List.cons_append, List.mem_cons, List.mem_append] at hb
        rcases hb with q | (q | q | q) | q
        · omega
        · have := hO _ q; omega
        · have := hfp _ q; omega
        · have := hPU _ q; omega
        · exact (ts.2.2.1 _ q).2
      · simp only [List.cons_append, List.mem_cons, List.mem_append] at hb
        rcases hb with q | (q | q | q) | q
        · exact .inl (by omega)
        · have := hO _ q; exact .inl (by omega)
        · have := hfp _ q; exact .inl (by omega)
        · exact .inr q
        · have := (ts.2.2.1 _ q).1; exact .inl (by omega)
    refine K_itakeTurns (σ := WSt) (many := w.tasks.length) ⟨by omega, by omega⟩ (fun m s H' => RunW (H.n + 3) (trBk tr) G H.n (H2.n + 1) H2.n (H.n + 1) tr w.tasks.length g m s H') nxW cdW
      (fun m s t H' K' w' hS ht kk => runW_step hS ht kk) (fun m s t H' hS ht => runW_code hS ht) (n := n) (by omega) S0 ⟨g1.2.2.1, g1.2.2.2.1⟩ ⟨g1.2.2.2.2.1, g1.2.2.2.2.2⟩ fun m' H3 hS => ?_
    rw [turns_run n hv] at hS ⊢
    obtain ⟨kv, kl, kb, kr, ⟨kp, ko, kpl⟩, ku⟩ := runW_keeps n hv
    have ku4 := ku 4000 (fun t ht => (hbo.1 t ht).2)
    generalize hW : runW n w = W at *
    obtain ⟨M, rvs', rs', B', vb2, vo2, O2, ve2, OE2, ⟨p8, p8n, p8M, psl, prl, _⟩, ⟨⟨o7, o7n, o5n, oo, oT⟩, ond, oM, o5M⟩, ⟨prb, pfM, pof⟩, pts, pdis, ⟨pM, pbn, ⟨_, pva, pvb⟩, _, _⟩, ⟨pX, pln, pf⟩⟩ := hS
    simp only [List.nil_append] at o7 oo oT prb pts pva pvb
    have h7o : H2.n ∈ obB H2.n tr vo2 O2 ve2 OE2 := by simp [obB]
    have h7M := oM _ h7o
    have st1 := store_cell (v := AV.I W.turn) o7 (o := 2) (by simp)
    simp only [List.set_cons_succ, List.set_cons_zero] at st1
    have st2 := store_cell (H := H3.put H2.n (some ⟨[.nils, vb2, .I W.turn, .I 0, vo2], true⟩)) (v := AV.I W.idle) put_same (o := 3) (by simp)
    simp only [List.set_cons_succ, List.set_cons_zero] at st2
    have h78 : ¬ H2.n + 1 = H2.n := by omega
    have p8' : ((H3.put H2.n (some ⟨[.nils, vb2, .I W.turn, .I 0, vo2], true⟩)).put H2.n (some ⟨[.nils, vb2, .I W.turn, .I W.idle, vo2], true⟩)).bk (H2.n + 1) = some ⟨[g], true⟩ := by simp only [put_bk, if_neg h78]; exact p8
    have w7 : Only [H2.n] H3 ((H3.put H2.n (some ⟨[.nils, vb2, .I W.turn, .I 0, vo2], true⟩)).put H2.n (some ⟨[.nils, vb2, .I W.turn, .I W.idle, vo2], true⟩)) := (Only.refl.put (by simp)).put (by simp)
    simp [st1, st2, load_bk p8', hga]
    have htl : W.tasks.length = w.tasks.length := kl
    have := K_irunWorld_l1 (ts := W.tasks) (fun t ht => ⟨vaT_boxes (b := 3) (by have := (vaBs_facts pvb).1; omega) (pva t ht), Nat.le_trans (len_uL _) (ku4 t ht)⟩) (by omega) (vts := g) (vb := vb2) (vo := vo2) (P6 := H.n + 2) (P7 := H2.n) (base := H.n) (lo := H3.n) (tn := W.turn) (jn := W.idle) (M := M) (rvs := rvs')
      (okv := fun b => b ∉ M ∧ b < H3.n) (fun b hb => ⟨hb.2, fun e => hb.1 (by rw [e]; exact h7M)⟩) o7n h7M (by omega) W.tasks.length 0 (by omega) (G := (H3.put H2.n (some ⟨[.nils, vb2, .I W.turn, .I 0, vo2], true⟩)).put H2.n (some ⟨[.nils, vb2, .I W.turn, .I W.idle, vo2], true⟩)) (g := .nils) (cs := []) (B := H3.n) (by simp) put_same
      (by rw [htl]; exact psl.mono (by simp) (fun b hb hn => w7.2 b hn (by simp; exact fun e => hb (by rw [e]; exact h7M))) (fun b hb hn => ⟨hb, hn⟩)) GrS.nils rfl
      (fun j t q ht hq => by
        obtain ⟨r1, ⟨r2, r3⟩, _, ⟨r4, r5⟩⟩ := pts j t q ht hq
        have e1 : q.1 ≠ H2.n := fun e => r4 (by rw [e]; exact h7o)
        have e2 : q.2.2.1 ≠ H2.n := fun e => r5 (by rw [e]; exact h7o)
        exact ⟨by simpa [grB] using r1.only w7 (by simp; exact e1) (by simp; exact e2) (fun b hb => .inl (by simp at hb; rw [hb]; exact h7M)), ⟨pM _ r2, pM _ r3⟩, ⟨e1, e2⟩⟩) (Q := ?_) ?_
    · rw [htl] at this
      simpa using this
    · intro e G' g' cs' B2 z1 z2 z3 z4 z5 z6 z7
      simp only [put_n] at z5
      have keep2 : ∀ b, b < H3.n → b ≠ H2.n → G'.bk b = H3.bk b := fun b hb hne => (z4 b hb hne).trans (w7.2 b hb (by simpa using hne))
      have hX6 : H.n + 2 ∉ trBk tr := fun hm => by have := hPU _ hm; omega
      have hM6 : H.n + 2 ∉ M := fun hm => by rcases pX _ hm with q | q; omega; exact hX6 q
      have q6F : G'.bk (H.n + 2) = some ⟨[.nils, .nils, .I 0, .I 0, .nils], true⟩ := (keep2 _ (by omega) (by omega)).trans ((pf _ (by omega) hX6).trans q6G)
      have st6 := store_five q6F (l := [g', vb2, .I W.turn, .I W.idle, vo2]) rfl rfl
      simp [z6, z7, loadN_bk z3, st6, loadN_bk put_same]
      have wF : Only [H2.n, H.n + 2] H3 (G'.put (H.n + 2) (some ⟨[g', vb2, .I W.turn, .I W.idle, vo2], true⟩)) := ⟨by simp; omega, fun b hb hm => by
        simp at hm
        rw [put_bk, if_neg hm.2, keep2 b hb hm.1]⟩
      have h7f : H2.n ∉ fpB B' rs' := pof _ h7o
      have h6f : H.n + 2 ∉ fpB B' rs' := fun hm => hM6 (pfM _ hm)
      have hnd2 := ond
      simp only [obB, List.nodup_cons, List.mem_append, not_or, List.nodup_append] at hnd2
      have h6o : H.n + 2 ∉ obB H2.n tr vo2 O2 ve2 OE2 := fun hm => hM6 (oM _ hm)
      simp only [obB, List.mem_cons, List.mem_append, not_or] at h6o
      refine k _ _ ⟨g', vb2, vo2, rfl, ⟨cs', z1.slc.mono (by simp) (fun b hb _ => by rw [put_bk, if_neg (by omega)]) (fun b hb _ => by omega), z2.imp fun c a h => h.mono (by simp) (fun b hb _ => by rw [put_bk, if_neg (by omega)]) (fun b hb _ => by omega)⟩,
        (prb.onlyA wF (fun b hb => .inr (fun hm => by simp at hb; rcases hb with q | q; rw [q] at hm; exact h7f hm; rw [q] at hm; exact h6f hm))).bv,
        (oo.onlyB wF (fun b hb hm => by simp at hb; rcases hb with q | q; rw [q] at hm; exact hnd2.1.1 hm; rw [q] at hm; exact h6o.2.1 hm)).iv⟩ ⟨by simp; omega, fun b hb hm => ?_⟩ ?_
      · rw [wF.2 b (by omega) (by simp; omega), pf b (by omega) hm, keep b (by omega)]
        exact y3.2 b hb
      · cases tr with
        | none => trivial
        | some PU =>
          obtain ⟨t1, t2, t3, t4⟩ := oT
          have hPn : PU < H.n := htr.1
          have hp7 : PU ≠ H2.n := by omega
          refine ⟨ve2, OE2, wF.bk t2 (by simp; omega) t3, t4.onlyB wF (fun b hb hm => ?_)⟩
          simp at hb
          rcases hb with q | q
          · rw [q] at hm; exact hnd2.1.2 (by simp [trB, hm])
          · rw [q] at hm; exact h6o.2.2 (by simp [trB, hm])
end Go.Proofs.YtmecbehegmgbhaaGreat.AM
namespace Go.Proofs.YtmecbehegmgbhaaGreat.AM
set_option linter.unusedSimpArgs false
set_option linter.unusedVariables false
set_option maxRecDepth 100000
set_option maxHeartbeats 2000000
open Go
attribute [-simp] AM.elems
section
variable {ok : Nat → Prop} {H : AH} {K : AV → AH → Prop} {wf : Fk K} {c : List AV} {w : Wd} {n : Int}
theorem K_iWorldRun (h : WC ok H c w) (hct : ∀ t ∈ w.tasks, ctS t.rest ≤ 100000) (hbl : w.boxes.length ≤ 100) (hbo : n ≤ 100000 → boW w n.toNat) (hol : w.out.length ≤ 700000)
    (k : ∀ c' H', WC (fun b => H.n ≤ b) H' c' (runF n w).1 → Ext H H' → K (.tup [.agg c', .b (runF n w).2]) H') : CallF Cd f_iWorldRun [.agg c, .I n] H K wf := by
  have h' := h
  obtain ⟨vt, vb, vo, rfl, h1, h2, h3⟩ := h'
  rw [CallF_eq e_iWorldRun rfl]
  have x0 := (Ext.push H [vt, vb, .I w.turn, .I w.idle, vo]).trans (Ext.push _ zC)
  have q0 : ((H.push [vt, vb, .I w.turn, .I w.idle, vo]).push zC).bk H.n = some ⟨[vt, vb, .I w.turn, .I w.idle, vo], true⟩ := push_old (by simp) push_new
  simp [loadN_bk q0]
  refine K_iWorldValid (h.ext x0) hct hbl fun H1 x1 => ?_
  have n1 := x1.1
  simp only [push_n] at n1
  have y1 := x0.trans x1
  have q1 := (x1.2 H.n (by simp <;> omega)).trans q0
  have qR1 : H1.bk (H.n + 1) = some ⟨zC, true⟩ := (x1.2 _ (by simp)).trans push_new
  have stb := store_five qR1 (l := zC) rfl rfl
  have bad : ¬ (vaWd w = true ∧ 0 ≤ n ∧ n ≤ 100000) → K (.tup [.agg zC, .b false]) (H1.put (H.n + 1) (some ⟨zC, true⟩)) := fun hb => by
    have e : runF n w = (zeroW, false) := by unfold runF; rw [if_neg hb]
    rw [e] at k
    exact k zC _ zero_WC (y1.put (by omega))
  cases hv : vaWd w with
  | false =>
    simp [stb, loadN_bk put_same]
    exact bad (by rw [hv]; simp)
  | true =>
  by_cases hn0 : n < 0
  · simp [hn0, stb, loadN_bk put_same]
    exact bad (fun hh => by omega)
  by_cases hn1 : 100000 < n
  · simp [hn0, hn1, stb, loadN_bk put_same]
    exact bad (fun hh => by omega)
  have hF : runF n w = (runW n.toNat w, true) := by unfold runF; rw [if_pos ⟨hv, by omega, by omega⟩]
  rw [hF] at k
  have hbo := hbo (by omega)
  have en : n = (n.toNat : Int) := by omega
  simp [hn0, hn1, loadN_bk q1]
  have := K_irunWorld (K := ?_) (wf := ?_) (n := n.toNat) none (h.ext y1) (fun b _ => by simp [trBk]) hv hbo (by omega) (by omega) trivial ?_
  · rw [← en] at this
    exact this
  · intro c' H2 wc x2 _
    have x2 : Ext H1 H2 := ⟨x2.1, fun b hb => x2.2 b hb (by simp [trBk])⟩
    obtain ⟨vt', vb', vo', rfl, k1, k2, k3⟩ := id wc
    have qR := (x2.2 _ (by omega)).trans qR1
    have st := store_five qR (l := [vt', vb', .I (runW n.toNat w).turn, .I (runW n.toNat w).idle, vo']) rfl rfl
    simp [st, loadN_bk put_same]
    exact k _ _ (wc.mono (by simp) (fun b hb _ => by rw [put_bk, if_neg (by omega)]) (fun b hb _ => by omega)) ((y1.trans x2).put (by omega))
end
section
variable {o1 o2 : Nat → Prop}
end
end Go.Proofs.YtmecbehegmgbhaaGreat.AM
namespace Go.Proofs.YtmecbehegmgbhaaGreat.AM
set_option linter.unusedSimpArgs false
set_option linter.unusedVariables false
set_option maxRecDepth 100000
set_option maxHeartbeats 2000000
open Go
attribute [-simp] AM.elems
structure Pg where
  rooms : List Int
  tasks : List Sts
deriving DecidableEq, Inhabited
/-- A list of statements in one cell. -/
def L1 (ok : Nat → Prop) (H : AH) (c : List AV) (f : Sts) : Prop := ∃ v, c = [v] ∧ SV ok H v f
theorem L1.mono {ok ok' : Nat → Prop} {H H' c f} (h : L1 ok H c f) (hn : H.n ≤ H'.n) (hk : ∀ b, ok b → b < H.n → H'.bk b = H.bk b) (ho : ∀ b, ok b → b < H.n → ok' b) : L1 ok' H' c f := by
  obtain ⟨v, e, h⟩ := h; exact ⟨v, e, h.mono hn hk ho⟩
def LV (ok : Nat → Prop) (H : AH) (v : AV) (l : List Sts) : Prop := ∃ ca, SlC ok H v l.length 1 ca ∧ LF 1 (L1 ok H) l ca
theorem LV.mono {ok ok' : Nat → Prop} {H H' v l} (h : LV ok H v l) (hn : H.n ≤ H'.n) (hk : ∀ b, ok b → b < H.n → H'.bk b = H.bk b) (ho : ∀ b, ok b → b < H.n → ok' b) : LV ok' H' v l := by
  obtain ⟨ca, h1, h2⟩ := h
  exact ⟨ca, h1.mono hn hk ho, h2.imp fun c a h => h.mono hn hk ho⟩
theorem LV.ext {ok H H' c t} (h : LV ok H c t) (k : Ext H H') : LV ok H' c t := h.mono k.1 (fun b _ hb => k.2 b hb) (fun _ h _ => h)
theorem LV.alen {ok H v l} (h : LV ok H v l) : alen v = some l.length := h.choose_spec.1.alen
theorem LV.flat {ok H v l} (h : LV ok H v l) : v.flat = true := h.choose_spec.1.flat
theorem LV.big {ok H v l} (h : LV ok H v l) : l.length ≤ 8589934592 := h.choose_spec.1.1
theorem LV.at {ok H v l} (h : LV ok H v l) {i : Nat} {f : Sts} (hi : l[i]? = some f) : ∃ b o cap u, v = .sl b o l.length cap ∧ b < H.n ∧ H.load b (o + i) = some u ∧ SV ok H u f := by
  obtain ⟨ca, h1, h2⟩ := h
  have hl := (List.getElem?_eq_some_iff.1 hi).1
  obtain ⟨b, o, cap, e, ob, hb, hs⟩ := h1.at hl
  obtain ⟨c, hc, u, rfl, i1⟩ := h2.get hi
  have hh := hs i 1 (by omega)
  rw [Nat.mul_one] at hc
  rw [hc] at hh
  have := loadN_get hh (i := 0) (by omega)
  exact ⟨b, o, cap, u, e, hb, by simpa using this, i1⟩
def PgC (ok : Nat → Prop) (H : AH) (c : List AV) (p : Pg) : Prop := ∃ vr vt, c = [vr, vt] ∧ IV ok H vr p.rooms ∧ LV ok H vt p.tasks
theorem PgC.mono {ok ok' : Nat → Prop} {H H' c p} (h : PgC ok H c p) (hn : H.n ≤ H'.n) (hk : ∀ b, ok b → b < H.n → H'.bk b = H.bk b) (ho : ∀ b, ok b → b < H.n → ok' b) : PgC ok' H' c p := by
  obtain ⟨vr, vt, e, h1, h2⟩ := h
  exact ⟨vr, vt, e, h1.mono hn hk ho, h2.mono hn hk ho⟩
theorem PgC.ext {ok H H' c t} (h : PgC ok H c t) (k : Ext H H') : PgC ok H' c t := h.mono k.1 (fun b _ hb => k.2 b hb) (fun _ h _ => h)
def vaRm (l : List Int) : Bool := l.all (fun x => decide (1 ≤ x ∧ x ≤ 4)) && decide (l.length ≤ 3)
def vaF (many : Int) (f : Sts) : Bool := vaS 3 f && bxS many f
def vaPg (p : Pg) : Bool := vaRm p.rooms && decide (1 ≤ p.tasks.length ∧ p.tasks.length ≤ 3) && p.tasks.all (vaF p.rooms.length)
def newW (p : Pg) : Wd := ⟨p.tasks.map fun f => ⟨[0, 0, 0, 0], f⟩, p.rooms.map fun x => ⟨x, []⟩, 0, 0, []⟩
theorem newW_ok {p : Pg} (h : vaPg p = true) : vaWd (newW p) = true ∧ (∀ t ∈ (newW p).tasks, uL t.rest.list ≤ 40) := by
  unfold vaPg vaRm at h
  simp only [Bool.and_eq_true, decide_eq_true_eq, List.all_eq_true] at h
  obtain ⟨⟨⟨h1, h2⟩, h3⟩, h4⟩ := h
  have hw : ∀ f ∈ p.tasks, ∀ s ∈ f.list, vaW p.rooms.length s = true := fun f hf s hs => by
    have h5 := h4 f hf
    unfold vaF vaS at h5
    simp only [Bool.and_eq_true, decide_eq_true_eq] at h5
    refine vaW_iff.2 ⟨?_, ?_⟩
    · have := (ok_bx (many := p.rooms.length) (by omega) h5.1.1).2 h5.2
      rw [okS_mem, List.all_eq_true] at this
      exact this s hs
    · have := ctS_mem hs; unfold ctT; omega
  refine ⟨vaWd_iff.2 ⟨by simp [newW]; omega, rfl, ?_, fun t ht => ?_⟩, fun t ht => ?_⟩
  · unfold vaBs newW
    simp only [Bool.and_eq_true, decide_eq_true_eq, List.length_map, List.all_map, List.all_eq_true]
    refine ⟨fun x hx => ?_, h2⟩
    have := h1 x hx
    unfold vaB
    simp; omega
  · simp only [newW, List.mem_map] at ht
    obtain ⟨f, hf, rfl⟩ := ht
    refine vaT_iff.2 ⟨rfl, by simp [isW], fun s hs => ?_⟩
    simp only [newW, List.length_map]
    exact hw f hf s hs
  · simp only [newW, List.mem_map] at ht
    obtain ⟨f, hf, rfl⟩ := ht
    have h5 := h4 f hf
    unfold vaF vaS at h5
    simp only [Bool.and_eq_true, decide_eq_true_eq] at h5
    have hl := @len_ctS f
    have := uL_le (l := f.list) (m := 16) (fun s hs => (vaW_iff.1 (hw f hf s hs)).2)
    simp only; omega
section
variable {H : AH} {K : AV → AH → Prop} {w : Fk K}
theorem K_sl12Rooms_l {v : AV} {l : List Int} (h : SeesZ H v l) {Q : Out → Env → AH → Prop} (h1 : ∀ e, get e 0 = some v → Q (.brk 0) e H = K (.b (decide (l.length ≤ 3))) H) (h2 : ∀ e H, Q .ret e H = bindO (get e 2) fun v => K v H)
    (m i : Nat) (hm : i + m = l.length) (k : K (.b ((l.drop i).all (fun x => decide (1 ≤ x ∧ x ≤ 4)) && decide (l.length ≤ 3))) H) :
    W Cd (.loop c_sl12Rooms_l0) [(0, v), (3, .I i)] H Q := by
  have hbig := h.2.1
  induction m generalizing i with
  | zero =>
    rw [W_loop_as c_sl12Rooms_l0.eq_1]
    have : i = l.length := by omega
    subst this
    simp [h.1]
    rw [h1 _ rfl]
    rw [List.drop_eq_nil_of_le (Nat.le_refl _)] at k
    simpa using k
  | succ m ih =>
    rw [W_loop_as c_sl12Rooms_l0.eq_1]
    have hlt : i < l.length := by omega
    have hlt' : (i : Int) < l.length := by omega
    obtain ⟨b, o, s1, hb, l1⟩ := h.at hlt
    obtain ⟨x, hx⟩ : ∃ x, l[i]? = some x := ⟨_, List.getElem?_eq_getElem hlt⟩
    have ex : l[i] = x := by have := List.getElem?_eq_getElem hlt; rw [hx] at this; exact (Option.some.inj this).symm
    rw [ex] at l1
    rw [all_dropB hx] at k
    by_cases hok : 1 ≤ x ∧ x ≤ 4
    · rw [decide_eq_true hok, Bool.true_and] at k
      simp (disch := omega) [h.1, hlt', s1, l1, K_in_t hok]
      have := ih (i + 1) (by omega) k
      simpa using this
    · rw [decide_eq_false hok] at k
      simp (disch := omega) [h.1, hlt', s1, l1, K_in_f hok, h2]
      simpa using k
theorem K_sl12Rooms {v : AV} {l : List Int} (h : SeesZ H v l) (k : K (.b (vaRm l)) H) : CallF Cd f_sl12Rooms [v] H K w := by
  rw [CallF_eq e_sl12Rooms rfl]
  simp
  have := K_sl12Rooms_l (K := K) h (Q := ?_) ?_ ?_ l.length 0 (by omega) k
  · simpa using this
  · intro e he
    have : decide ((l.length : Int) ≤ 3) = decide (l.length ≤ 3) := dec_nat3
    simp [he, h.1, this]
  · intros; simp
end
theorem K_sProgramValid_l {p : Pg} {ok : Nat → Prop} {K : AV → AH → Prop} {vr vt : AV} {P : Nat} (hct : ∀ f ∈ p.tasks, ctS f ≤ 1000000) {Q : Out → Env → AH → Prop} (h1 : ∀ e G, Q (.brk 0) e G = K (.b true) G) (h2 : ∀ e H, Q .ret e H = bindO (get e 2) fun v => K v H) (hr : alen vr = some p.rooms.length) (hrl : p.rooms.length ≤ 100)
    (m i : Nat) (hm : i + m = p.tasks.length) {H : AH} (hP : P < H.n) (gP : H.bk P = some ⟨[vr, vt], true⟩) (h : LV ok H vt p.tasks)
    (k : ∀ H', Ext H H' → K (.b ((p.tasks.drop i).all (vaF p.rooms.length))) H') :
    W Cd (.loop c_sProgramValid_l0) [(1, .ptr P 0), (3, .I i)] H Q := by
  have hbig := h.big
  induction m generalizing i H with
  | zero =>
    rw [W_loop_as c_sProgramValid_l0.eq_1]
    have : i = p.tasks.length := by omega
    subst this
    simp [load_bk gP, h.alen, h1]
    have := k H (Ext.refl _)
    rwa [List.drop_eq_nil_of_le (Nat.le_refl _)] at this
  | succ m ih =>
    rw [W_loop_as c_sProgramValid_l0.eq_1]
    have hlt : i < p.tasks.length := by omega
    have hlt' : (i : Int) < p.tasks.length := by omega
    obtain ⟨f, hf⟩ : ∃ f, p.tasks[i]? = some f := ⟨_, List.getElem?_eq_getElem hlt⟩
    obtain ⟨b, o, cap, u, e1, hbn, l1, s1⟩ := h.at hf
    have hh := h
    subst e1
    rw [all_dropB hf] at k
    simp (disch := omega) [load_bk gP, hlt', l1]
    refine K_sStmtsValid s1 (hct f (List.mem_of_getElem? hf)) fun H2 x2 => ?_
    have g2 := (x2.2 _ hP).trans gP
    have l2 : H2.load b (o + i) = some u := by unfold AH.load at l1 ⊢; rw [x2.2 b hbn]; exact l1
    have evf : vaF p.rooms.length f = (vaS 3 f && bxS p.rooms.length f) := rfl
    rw [evf] at k
    cases hv : vaS 3 f with
    | false =>
      have := k H2 x2
      rw [hv] at this
      simp [x2, h2]
      simpa using this
    | true =>
      rw [hv, Bool.true_and] at k
      simp (disch := omega) [x2, load_bk g2, hlt', l2, hr]
      refine K_sl12Boxes f (s1.ext x2) fun H3 x3 => ?_
      have y3 := x2.trans x3
      cases hx : bxS p.rooms.length f with
      | false =>
        have := k H3 y3
        rw [hx] at this
        simp [x3, h2]
        simpa using this
      | true =>
        rw [hx, Bool.true_and] at k
        simp (disch := omega) [x3]
        have := ih (i + 1) (by omega) (H := H3) (by have := y3.1; omega) ((y3.2 _ hP).trans gP) (hh.ext y3) (fun H' x' => k H' (y3.trans x'))
        simpa using this
theorem K_sProgramValid {ok : Nat → Prop} {H : AH} {K : AV → AH → Prop} {wf : Fk K} {c : List AV} {p : Pg} (h : PgC ok H c p) (hct : ∀ f ∈ p.tasks, ctS f ≤ 1000000) (k : ∀ H', Ext H H' → K (.b (vaPg p)) H') : CallF Cd f_sProgramValid [.agg c] H K wf := by
  obtain ⟨vr, vt, rfl, h1, h2⟩ := h
  rw [CallF_eq e_sProgramValid rfl]
  have x0 := Ext.push H [vr, vt]
  have q0 : (H.push [vr, vt]).bk H.n = some ⟨[vr, vt], true⟩ := push_new
  have hbig := h2.big
  simp [load_bk q0]
  refine K_sl12Rooms (h1.ext x0).sees ?_
  have ev : vaPg p = (vaRm p.rooms && decide (1 ≤ p.tasks.length ∧ p.tasks.length ≤ 3) && p.tasks.all (vaF p.rooms.length)) := rfl
  rw [ev] at k
  cases hv : vaRm p.rooms with
  | false =>
    have := k _ x0
    rw [hv] at this
    simpa using this
  | true =>
    rw [hv, Bool.true_and] at k
    have hrl : p.rooms.length ≤ 3 := by unfold vaRm at hv; simp at hv; omega
    by_cases hm : 1 ≤ (p.tasks.length : Int) ∧ (p.tasks.length : Int) ≤ 3
    · have e2 : decide (1 ≤ p.tasks.length ∧ p.tasks.length ≤ 3) = true := decide_eq_true (by omega)
      rw [e2, Bool.true_and] at k
      simp [load_bk q0, h2.alen, K_in_t hm]
      have := K_sProgramValid_l (p := p) (K := K) (Q := ?_) hct ?_ ?_ h1.alen (by omega) p.tasks.length 0 (by omega) (P := H.n) (H := H.push [vr, vt]) (by simp) q0 (h2.ext x0) (fun H' x' => by simpa using k H' (x0.trans x'))
      · simpa using this
      · intros; simp
      · intros; simp
    · have e2 : decide (1 ≤ p.tasks.length ∧ p.tasks.length ≤ 3) = false := decide_eq_false (by omega)
      have := k _ x0
      rw [e2] at this
      simp [load_bk q0, h2.alen, K_in_f hm]
      simpa using this
end Go.Proofs.YtmecbehegmgbhaaGreat.AM
namespace Go.Proofs.YtmecbehegmgbhaaGreat.AM
set_option linter.unusedSimpArgs false
set_option linter.unusedVariables false
set_option maxRecDepth 100000
set_option maxHeartbeats 2000000
open Go
attribute [-simp] AM.elems
theorem K_sTaskNew {ok : Nat → Prop} {H : AH} {K : AV → AH → Prop} {w : Fk K} {v : AV} {f : Sts} (h : SV ok H v f) (hv : vaS 3 f = true)
    (k : ∀ c' H', TC (fun b => H.n ≤ b) H' c' ⟨[0, 0, 0, 0], f⟩ → Ext H H' → K (.tup [.agg c', .b true]) H') : CallF Cd f_sTaskNew [v] H K w := by
  rw [CallF_eq e_sTaskNew rfl]
  have hv' := hv
  unfold vaS at hv'
  simp only [Bool.and_eq_true, decide_eq_true_eq] at hv'
  have x0 := Ext.push H [.nils, .nils]
  simp
  refine K_sStmtsValid (h.ext x0) (by omega) fun H1 x1 => ?_
  have n1 := x1.1
  simp only [push_n] at n1
  have qR := (x1.2 H.n (by simp)).trans (push_new (H := H) (cs := [.nils, .nils]))
  have e4 : (List.replicate (4 : Int).toNat [AV.I 0]).flatten = Ints [0, 0, 0, 0] := rfl
  have x2 := (x0.trans x1).trans (Ext.push H1 (Ints [0, 0, 0, 0]))
  simp [hv, e4]
  refine K_sl11Copy f (h.ext x2) (cp_of_okS hv'.1) (by omega) fun v' H2 cs B g s x3 => ?_
  have n3 := x3.1
  simp only [push_n] at n3
  have fl := g.flat
  have qR2 := (x3.2 H.n (by simp; omega)).trans ((Ext.push H1 (Ints [0, 0, 0, 0])).2 H.n (by omega) |>.trans qR)
  have q4 : H2.bk H1.n = some ⟨Ints [0, 0, 0, 0], true⟩ := (x3.2 _ (by simp)).trans push_new
  have st : H2.store H.n 0 [.sl H1.n 0 4 (.ex 4), v'] = some (H2.put H.n (some ⟨[.sl H1.n 0 4 (.ex 4), v'], true⟩)) := store_bk qR2 (by simp)
  simp [x3, flat_cells fl, flat_tup fl, st, loadN_bk put_same]
  have hk : ∀ b, b ≠ H.n → (H2.put H.n (some ⟨[.sl H1.n 0 4 (.ex 4), v'], true⟩)).bk b = H2.bk b := fun b hb => by rw [put_bk, if_neg hb]
  refine k _ _ ⟨_, _, rfl, ⟨by simp, rfl, .inr ⟨H1.n, 0, _, rfl, ⟨by omega, by simp [capOk]⟩, by simp; omega, ?_⟩⟩, (g.sv s).mono (by simp) (fun b hb _ => hk b (by simp at hb; omega)) (fun b hb _ => by simp at hb; omega)⟩ ((x2.trans x3).put (by omega))
  rw [loadN_bk ((hk _ (by omega)).trans q4)]; rfl
theorem K_sl16Empty_l {l : List Int} (hll : l.length ≤ 1000) {base : Nat} {v : AV} {Q : Out → Env → AH → Prop} (m i : Nat) (him : i + m = l.length) {G : AH} {g : AV} {cs : List AV} {B : Nat} (hb : base ≤ G.n) (hv : IV (fun b => b < base) G v l) (hg : GrS base G g i 2 cs B)
    (he : LF 2 (BC (fun b => base ≤ b ∧ b ≠ B) G) ((l.take i).map fun x => ⟨x, []⟩) cs)
    (hQ : ∀ e G' g' cs' B', GrS base G' g' l.length 2 cs' B' → LF 2 (BC (fun b => base ≤ b ∧ b ≠ B') G') (l.map fun x => ⟨x, []⟩) cs' → (∀ b, b < base → G'.bk b = G.bk b) → G.n ≤ G'.n → get e 3 = some g' → Q (.brk 0) e G') :
    W Cd (.loop c_sl16Empty_l0) [(0, v), (3, g), (4, .I i)] G Q := by
  have hbig : l.length ≤ 8589934592 := hv.1
  induction m generalizing i G g cs B with
  | zero =>
    rw [W_loop_as c_sl16Empty_l0.eq_1]
    have : i = l.length := by omega
    subst this
    simp [SlC.alen hv]
    rw [List.take_length] at he
    exact hQ _ G g cs B hg he (fun _ _ => rfl) (Nat.le_refl _) rfl
  | succ m ih =>
    rw [W_loop_as c_sl16Empty_l0.eq_1]
    have hlt : i < l.length := by omega
    have hlt' : (i : Int) < l.length := by omega
    obtain ⟨b, o, s1, hbn, l1⟩ := hv.sees.at hlt
    obtain ⟨x, hx⟩ : ∃ x, l[i]? = some x := ⟨_, List.getElem?_eq_getElem hlt⟩
    have ex : l[i] = x := by have := List.getElem?_eq_getElem hlt; rw [hx] at this; exact (Option.some.inj this).symm
    rw [ex] at l1
    have x1 := Ext.push G []
    have x2 := x1.trans (Ext.push _ [.I x, .sl G.n 0 0 (.ex 0)])
    have bc : BC (fun b => G.n ≤ b) ((G.push []).push [.I x, .sl G.n 0 0 (.ex 0)]) [.I x, .sl G.n 0 0 (.ex 0)] ⟨x, []⟩ := ⟨_, rfl, IV.emp ((Ext.push _ _).2 _ (by simp) |>.trans push_new) (by simp; omega) (Nat.le_refl _)⟩
    obtain ⟨g', G', B', a1, a2, a3, a4, a5, a6⟩ := LF.snoc (E := BC) (l := l.map fun x => ⟨x, []⟩) (x := ⟨x, []⟩) (i := i) (fun h => h.mono) (by rw [List.getElem?_map, hx]; rfl) hg (by rw [← List.map_take]; exact he) hb x2 (c := [.I x, .sl G.n 0 0 (.ex 0)]) rfl bc (by omega)
    simp only [push_n] at a5
    simp (disch := omega) [SlC.alen hv, hlt', s1, l1, AM.elems, loadN_push, a1]
    rw [← List.map_take] at a3
    have := ih (i + 1) (by omega) (G := G') (g := g') (B := B') (by omega) (hv.mono (by omega) (fun b hb _ => a4 b hb) (fun _ h _ => h)) a2 a3
      (fun e G2 g2 c2 B2 z1 z2 z3 z4 z5 => hQ e G2 g2 c2 B2 z1 z2 (fun b hb => (z3 b hb).trans (a4 b hb)) (by omega) z5)
    simpa using this
theorem K_sl16Empty {ok : Nat → Prop} {H : AH} {K : AV → AH → Prop} {w : Fk K} {v : AV} {l : List Int} (h : IV ok H v l) (hl : l.length ≤ 1000)
    (k : ∀ v' H', BV (fun b => H.n ≤ b) H' v' (l.map fun x => ⟨x, []⟩) → Ext H H' → v'.flat = true → K v' H') : CallF Cd f_sl16Empty [v] H K w := by
  rw [CallF_eq e_sl16Empty rfl]
  have x0 := Ext.push H []
  simp
  have := K_sl16Empty_l (l := l) hl (base := H.n) (v := v) (Q := ?_) l.length 0 (by omega) (G := H.push []) (g := .sl H.n 0 0 (.ex 0)) (cs := []) (B := H.n) (by simp) (h.mono (by simp) (fun b _ hb => x0.2 b hb) (fun b _ hb => hb))
    ⟨by simp, by simp, .inr ⟨Nat.le_refl _, by simp, .inl ⟨rfl, push_new⟩⟩⟩ rfl ?_
  · simpa using this
  · intro e G g cs B z1 z2 z3 z4 z5
    simp [z5]
    simp only [push_n] at z4
    have hl2 : (l.map fun x => (⟨x, []⟩ : Bx)).length = l.length := by simp
    exact k g G (GrS.bv (by rw [hl2]; exact z1) z2) ⟨by omega, fun b hb => (z3 b hb).trans (x0.2 b hb)⟩ z1.flat
theorem K_sWorldNew_l {p : Pg} (hp : ∀ f ∈ p.tasks, vaS 3 f = true) (hl3 : p.tasks.length ≤ 3) {vr vt vb vo : AV} {P R P4 base lo : Nat} {Q : Out → Env → AH → Prop} (hbl : base ≤ lo) (hP4 : base ≤ P4 ∧ P4 < lo) (hPP : P < base)
    (m i : Nat) (hm : i + m = p.tasks.length) {G : AH} {g : AV} {cs : List AV} {B : Nat} (hlo : lo ≤ G.n) (gP : G.bk P = some ⟨[vr, vt], true⟩) (hv : LV (fun b => b < base) G vt p.tasks) (g4 : G.bk P4 = some ⟨[g, vb, .I 0, .I 0, vo], true⟩)
    (hg : GrS base G g i 2 cs B) (hB : B ≠ P4) (he : LF 2 (TC (fun b => lo ≤ b ∧ b ≠ B) G) ((p.tasks.take i).map fun f => ⟨[0, 0, 0, 0], f⟩) cs) (S : Nat → Prop) (hS : ∀ b, S b → b < lo ∧ b ≠ P4 ∧ b ≠ B)
    (hQ : ∀ e G' g' cs' B', GrS base G' g' p.tasks.length 2 cs' B' → LF 2 (TC (fun b => lo ≤ b ∧ b ≠ B') G') (p.tasks.map fun f => ⟨[0, 0, 0, 0], f⟩) cs' → G'.bk P4 = some ⟨[g', vb, .I 0, .I 0, vo], true⟩ → B' ≠ P4 → (∀ b, S b → b ≠ B') → (∀ b, (b < base ∨ S b) → G'.bk b = G.bk b) → G.n ≤ G'.n → get e 2 = some (.ptr R 0) → get e 4 = some (.ptr P4 0) → Q (.brk 0) e G') :
    W Cd (.loop c_sWorldNew_l0) [(1, .ptr P 0), (2, .ptr R 0), (4, .ptr P4 0), (5, .I i)] G Q := by
  have hbig := hv.big
  induction m generalizing i G g cs B with
  | zero =>
    rw [W_loop_as c_sWorldNew_l0.eq_1]
    have : i = p.tasks.length := by omega
    subst this
    simp [load_bk gP, hv.alen]
    rw [List.take_length] at he
    exact hQ _ G g cs B hg he g4 hB (fun b hb => (hS b hb).2.2) (fun _ _ => rfl) (Nat.le_refl _) rfl rfl
  | succ m ih =>
    rw [W_loop_as c_sWorldNew_l0.eq_1]
    have hlt : i < p.tasks.length := by omega
    have hlt' : (i : Int) < p.tasks.length := by omega
    obtain ⟨f, hf⟩ : ∃ f, p.tasks[i]? = some f := ⟨_, List.getElem?_eq_getElem hlt⟩
    obtain ⟨b, o, cap, u, e1, hbn, l1, s1⟩ := hv.at hf
    have hv' := hv
    subst e1
    simp (disch := omega) [load_bk gP, hlt', l1]
    refine K_sTaskNew s1 (hp f (List.mem_of_getElem? hf)) fun c' H1 tc x1 => ?_
    have n1 := x1.1
    have tc' := tc
    obtain ⟨cv, cr, rfl, j1, j2⟩ := tc'
    have x2 := (x1.trans (Ext.push H1 [cv, cr])).trans (Ext.push _ [cv, cr])
    have g4' : (H1.push [cv, cr]).bk P4 = some ⟨[g, vb, .I 0, .I 0, vo], true⟩ := ((x1.trans (Ext.push H1 [cv, cr])).2 P4 (by omega)).trans g4
    obtain ⟨g', G', B', a1, a2, a3, a4, a5, a6⟩ := LF.snoc2 (E := TC) (l := p.tasks.map fun f => ⟨[0, 0, 0, 0], f⟩) (x := ⟨[0, 0, 0, 0], f⟩) (i := i) (fun h => h.mono) (by rw [List.getElem?_map, hf]; rfl) hg (by rw [← List.map_take]; exact he) (by omega) hlo x2 (c := [cv, cr]) rfl ((tc.ext (Ext.push H1 _)).ext (Ext.push _ _)) (by omega)
    have hgm : ∀ b, b ∈ grB g B → b = B ∧ base ≤ B ∧ B < G.n := fun b hb => hg.mem hb
    have g4'' : G'.bk P4 = some ⟨[g, vb, .I 0, .I 0, vo], true⟩ := (a4.2 P4 (by simp; omega) (fun hm => hB (hgm _ hm).1.symm)).trans ((x2.2 P4 (by omega)).trans g4)
    have st := store_cell (v := g') g4'' (o := 0) (by simp)
    simp only [List.set_cons_zero] at st
    have hB' : B' ≠ P4 := by
      rcases a5 with q | q
      · rw [q.1]; exact hB
      · rw [q]; simp; omega
    have n4 := a4.1
    simp only [push_n] at n4
    have gg : ∀ b, b < G.n → b ∉ grB g B → b ≠ P4 → (G'.put P4 (some ⟨[g', vb, .I 0, .I 0, vo], true⟩)).bk b = G.bk b := fun b hb h1 h2 => by
      rw [put_bk, if_neg h2, a4.2 b (by simp; omega) h1, x2.2 b hb]
    simp (disch := omega) [store_push2e, load_bk g4', AM.elems, loadN_push, a1, flat_cells a6, flat_tup a6, st]
    rw [← List.map_take] at a3
    have := ih (i + 1) (by omega) (G := G'.put P4 (some ⟨[g', vb, .I 0, .I 0, vo], true⟩)) (g := g') (cs := cs ++ [cv, cr]) (B := B') (by simp; omega)
      ((gg P (by omega) (fun hm => by have := hgm _ hm; omega) (by omega)).trans gP)
      (hv'.mono (by simp; omega) (fun b hb _ => gg b (by omega) (fun hm => by have := hgm _ hm; omega) (by omega)) (fun _ h _ => h)) put_same
      (a2.only (bs := [P4]) (Only.refl.put (by simp)) (fun b hb => .inr (by simp at hb; subst hb; exact Ne.symm hB'))) hB'
      (a3.imp fun c a h => h.mono (by simp) (fun b hb _ => by rw [put_bk, if_neg (by omega)]) (fun _ h _ => h))
      (fun b hb => ⟨(hS b hb).1, (hS b hb).2.1, by
        rcases a5 with q | q
        · rw [q.1]; exact (hS b hb).2.2
        · have := (hS b hb).1; rw [q]; simp; omega⟩)
      (fun e G2 g2 cs2 B2 z1 z2 z3 z4 z5 z6 z7 z8 z9 => hQ e G2 g2 cs2 B2 z1 z2 z3 z4 z5 (fun b hb => (z6 b hb).trans (gg b (by rcases hb with q | q; omega; have := (hS b q).1; omega) (fun hm => by
        have := hgm _ hm
        rcases hb with q | q
        · omega
        · exact (hS b q).2.2 this.1) (by rcases hb with q | q; omega; exact (hS b q).2.1))) (by simp at z7; omega) z8 z9)
    simpa using this
theorem K_sWorldNew {ok : Nat → Prop} {H : AH} {K : AV → AH → Prop} {wf : Fk K} {c : List AV} {p : Pg} (h : PgC ok H c p) (hct : ∀ f ∈ p.tasks, ctS f ≤ 1000000)
    (k : ∀ c' H', WC (fun b => H.n ≤ b) H' c' (if vaPg p = true then newW p else zeroW) → Ext H H' → K (.tup [.agg c', .b (vaPg p)]) H') : CallF Cd f_sWorldNew [.agg c] H K wf := by
  have h' := h
  obtain ⟨vr, vt, rfl, h1, h2⟩ := h'
  rw [CallF_eq e_sWorldNew rfl]
  have x0 := (Ext.push H [vr, vt]).trans (Ext.push _ zC)
  have q0 : ((H.push [vr, vt]).push zC).bk H.n = some ⟨[vr, vt], true⟩ := push_old (by simp) push_new
  simp [loadN_bk q0]
  refine K_sProgramValid (h.ext x0) hct fun H1 x1 => ?_
  have n1 := x1.1
  simp only [push_n] at n1
  have y1 := x0.trans x1
  have q1 := (x1.2 H.n (by simp <;> omega)).trans q0
  have qR1 : H1.bk (H.n + 1) = some ⟨zC, true⟩ := (x1.2 _ (by simp)).trans push_new
  have stb := store_five qR1 (l := zC) rfl rfl
  cases hv : vaPg p with
  | false =>
    rw [hv] at k
    simp [stb, loadN_bk put_same]
    exact k zC _ zero_WC (y1.put (by omega))
  | true =>
  rw [hv, if_pos rfl] at k
  have hv' := hv
  unfold vaPg vaRm at hv'
  simp only [Bool.and_eq_true, decide_eq_true_eq, List.all_eq_true] at hv'
  have xa := Ext.push H1 []
  have q1a : (H1.push []).bk H.n = some ⟨[vr, vt], true⟩ := (xa.2 _ (by omega)).trans q1
  simp [load_bk q1a]
  refine K_sl16Empty (h1.ext (y1.trans xa)) (by omega) fun vb H2 bv x2 fb => ?_
  have n2 := x2.1
  simp only [push_n] at n2
  have x3 := (Ext.push H2 []).trans (Ext.push _ [.sl H1.n 0 0 (.ex 0), vb, .I 0, .I 0, .sl H2.n 0 0 (.ex 0)])
  have y3 := ((y1.trans xa).trans x2).trans x3
  have st5 : ((H2.push []).push [.nils, .nils, .I 0, .I 0, .nils]).store (H2.n + 1) 0 [.sl H1.n 0 0 (.ex 0), vb, .I 0, .I 0, .sl H2.n 0 0 (.ex 0)] = some ((H2.push []).push [.sl H1.n 0 0 (.ex 0), vb, .I 0, .I 0, .sl H2.n 0 0 (.ex 0)]) := store_push5e (H := H2.push [])
  simp [flat_cells fb, flat_tup fb, st5]
  have keep : ∀ b, b < H1.n → ((H2.push []).push [.sl H1.n 0 0 (.ex 0), vb, .I 0, .I 0, .sl H2.n 0 0 (.ex 0)]).bk b = H1.bk b := fun b hb => (x3.2 b (by omega)).trans ((x2.2 b (by simp; omega)).trans (xa.2 b hb))
  have := K_sWorldNew_l (p := p) (fun f hf => by have := hv'.2 f hf; unfold vaF at this; simp only [Bool.and_eq_true] at this; exact this.1) (by omega) (vr := vr) (vt := vt) (vb := vb) (vo := .sl H2.n 0 0 (.ex 0)) (P := H.n) (R := H.n + 1) (P4 := H2.n + 1) (base := H1.n) (lo := H2.n + 2) (by omega) (by omega) (by omega) p.tasks.length 0 (by omega)
    (G := (H2.push []).push [.sl H1.n 0 0 (.ex 0), vb, .I 0, .I 0, .sl H2.n 0 0 (.ex 0)]) (g := .sl H1.n 0 0 (.ex 0)) (cs := []) (B := H1.n) (by simp) ((keep _ (by omega)).trans q1) (h2.mono (by simp; omega) (fun b _ hb => y3.2 b hb) (fun b _ hb => by omega)) push_new
    ⟨by simp, by simp, .inr ⟨Nat.le_refl _, by simp; omega, .inl ⟨rfl, (x3.2 _ (by omega)).trans ((x2.2 _ (by simp)).trans push_new)⟩⟩⟩ (by omega) rfl (fun b => H1.n < b ∧ b ≤ H2.n) (fun b hb => by omega) (Q := ?_) ?_
  · simpa using this
  · intro e G g cs B z1 z2 z3 z4 z5 z6 z7 z8 z9
    simp only [push_n] at z7
    have keep0 : ∀ b, b < H1.n → G.bk b = H1.bk b := fun b hb => (z6 b (.inl hb)).trans (keep b hb)
    have keepS : ∀ b, H1.n < b → b ≤ H2.n → G.bk b = ((H2.push []).push [.sl H1.n 0 0 (.ex 0), vb, .I 0, .I 0, .sl H2.n 0 0 (.ex 0)]).bk b := fun b h h' => z6 b (.inr ⟨h, h'⟩)
    have qR2 := (keep0 (H.n + 1) (by omega)).trans qR1
    have st := store_five qR2 (l := [g, vb, .I 0, .I 0, .sl H2.n 0 0 (.ex 0)]) rfl rfl
    simp [z8, z9, loadN_bk z3, st, loadN_bk put_same]
    have hk : ∀ b, b ≠ H.n + 1 → (G.put (H.n + 1) (some ⟨[g, vb, .I 0, .I 0, .sl H2.n 0 0 (.ex 0)], true⟩)).bk b = G.bk b := fun b hb => by rw [put_bk, if_neg hb]
    have qe : G.bk H2.n = some ⟨[], true⟩ := (keepS H2.n (by omega) (Nat.le_refl _)).trans ((Ext.push _ _).2 _ (by simp) |>.trans push_new)
    have hlen : (newW p).tasks.length = p.tasks.length := by simp [newW]
    refine k _ _ ⟨_, _, _, rfl, ⟨cs, ?_, z2.imp fun c a h => h.mono (by simp) (fun b hb _ => hk b (by omega)) (fun b hb _ => by omega)⟩, ?_, ?_⟩ ⟨by simp; omega, fun b hb => by rw [hk b (by omega), keep0 b (by omega)]; exact y1.2 b hb⟩
    · rw [hlen]
      exact z1.slc.mono (by simp) (fun b hb _ => hk b (by omega)) (fun b hb _ => by omega)
    · refine bv.mono (by simp; omega) (fun b hb hn => ?_) (fun b hb _ => by simp at hb; omega)
      simp only [push_n] at hb
      rw [hk b (by omega), keepS b (by omega) (by omega)]
      exact x3.2 b hn
    · exact IV.emp ((hk _ (by omega)).trans qe) (by simp; omega) (by omega)
end Go.Proofs.YtmecbehegmgbhaaGreat.AM
namespace Go.Proofs.YtmecbehegmgbhaaGreat.AM
set_option linter.unusedSimpArgs false
set_option linter.unusedVariables false
set_option maxRecDepth 100000
set_option maxHeartbeats 2000000
open Go
theorem K_sl92Rooms_l {base r : Nat} (hrb : r < base) {Q : Out → Env → AH → Prop} {n : Int} (hn : n ≤ 10) (j i : Nat) (hij : (i + j : Int) = n) {G : AH} {g : AV} {l : List Int} {B : Nat} {m : Int} (hb : base ≤ G.n) (hl : l.length = i) (hg : GrS base G g l.length 1 (Ints l) B) (hR : Rdx G r m) (hm : m + 5 * j ≤ 900000000000)
    (hQ : ∀ e g' l' B' G', (l'.length : Int) = n → GrS base G' g' l'.length 1 (Ints l') B' → Rdx G' r (m + 5 * j) → (∀ b, b < base → b ≠ r → G'.bk b = G.bk b) → G.n ≤ G'.n → get e 3 = some g' → Q (.brk 0) e G') :
    W Cd (.loop c_sl92Rooms_l0) [(0, .ptr r 0), (3, g), (4, .I n), (5, .I i)] G Q := by
  induction j generalizing i G g l B m with
  | zero =>
    rw [W_loop_as c_sl92Rooms_l0.eq_1]
    have hi : (i : Int) = n := by omega
    simp [hi]
    exact hQ _ g l B G (by omega) hg (hR.up (by omega)) (fun _ _ _ => rfl) (Nat.le_refl _) rfl
  | succ j ih =>
    rw [W_loop_as c_sl92Rooms_l0.eq_1]
    have hlt : (i : Int) < n := by omega
    simp (disch := omega) [hlt]
    refine P_pick hR.push (by omega) (by omega) fun x1 H1 hx1 hR1 hS1 => ?_
    obtain ⟨x, hy, e⟩ := @Ints_get [1, 1, 2, 3, 4] x1 5 (by omega) rfl
    have eb : H1.bk G.n = some ⟨Ints [1, 1, 2, 3, 4], true⟩ := hS1.at (Nat.lt_succ_self _) (Nat.ne_of_gt hR.lt) (by simp; rfl)
    have hS : St r G H1 := (St.push St.refl).trans hS1
    obtain ⟨g', G', B', a1, a2, a3, a4, a5⟩ := app_word (x := x) hg hS hrb hb (by omega)
    simp (disch := omega) [load_eq, eb, e, loadN_push, a1]
    have := ih (i + 1) (by push_cast; omega) (G := G') (g := g') (l := l ++ [x]) (B := B') (m := m + 1) (by have := hS.1; omega) (by simp; omega) a2 (hR1.same a4 fun b hb => a3 b (by omega)) (by omega)
      (fun e g2 l2 B2 G2 u1 u2 u3 u4 u5 u6 => hQ e g2 l2 B2 G2 u1 u2 (u3.up (by omega)) (fun b h1 h2 => by rw [u4 b h1 h2, a3 b h1, hS.2 b (by omega) h2]) (by have := hS.1; omega) u6)
    simpa using this
section
variable {H : AH} {K : AV → AH → Prop} {r : Nat} {w : Fk K} {m boxes : Int}
theorem K_sl92Rooms (h : Rdx H r m) (hm : m ≤ 800000000000)
    (k : ∀ v l B H', l.length ≤ 3 → GrS H.n H' v l.length 1 (Ints l) B → Rdx H' r (m + 50) → St r H H' → K v H') : CallF Cd f_sl92Rooms [.ptr r 0] H K w := by
  rw [CallF_eq e_sl92Rooms rfl]
  have hr := h.lt
  simp
  refine P_pick h.push.push (by omega) (by omega) fun x1 H1 hx1 hR1 hS1 => ?_
  have n1 := hS1.1
  simp only [push_n] at n1
  obtain ⟨n, hy, e⟩ := @Ints_get [0, 1, 1, 2, 2, 3] x1 6 (by omega) rfl
  have eb : H1.bk (H.n + 1) = some ⟨Ints [0, 1, 1, 2, 2, 3], true⟩ := hS1.at (by simp) (by omega) (by simp; rfl)
  have q0 : H1.bk H.n = some ⟨[], true⟩ := hS1.at (by simp; omega) (by omega) (push_old (by simp) push_new)
  have hn : 0 ≤ n ∧ n ≤ 3 := by simp at hy; omega
  simp (disch := omega) [load_eq, eb, e]
  obtain ⟨j, rfl⟩ : ∃ j : Nat, n = j := ⟨n.toNat, by omega⟩
  have := K_sl92Rooms_l (base := H.n) hr (n := j) (by omega) (Q := ?_) j 0 (by simp) (G := H1) (g := .sl H.n 0 0 (.ex 0)) (l := []) (B := H.n) (m := m + 1) (by omega) rfl ⟨by simp, rfl, .inr ⟨Nat.le_refl _, by omega, .inl ⟨rfl, q0⟩⟩⟩ hR1 (by omega) ?_
  · simpa using this
  · intro e g l B G u1 u2 u3 u4 u5 u6
    simp [u6]
    refine k g l B G (by omega) u2 (u3.up (by omega)) ⟨by omega, fun b hb hbr => (u4 b hb hbr).trans ((hS1.2 b (by simp; omega) hbr).trans ((push_old (by simp; omega) (push_old hb rfl))))⟩
theorem K_sl92Endless (h : Rdx H r m) (hm : m ≤ 600000000000)
    (k : ∀ c s H', S1 (fun b => H.n ≤ b) H' c s → ctT s ≤ 1000 → Rdx H' r (m + 60000) → St r H H' → K (.agg c) H') : CallF Cd f_sl92Endless [.ptr r 0] H K w := by
  rw [CallF_eq e_sl92Endless rfl]
  have hr := h.lt
  simp
  refine K_sl4Leaf fun ve H1 d1 x1 => ?_
  have n1 := x1.1
  simp only [push_n] at n1
  simp
  refine P_pick (h.push.ext x1) (by omega) (by omega) fun x0 H2 hx0 hR2 hS2 => ?_
  have n2 := hS2.1
  simp
  have hm1 : x0 * cR 1 ≤ 6 * 8500 ∧ 0 ≤ x0 * cR 1 := by simp [cR]; omega
  have hN1 : x0.toNat * cB 1 ≤ 10 := by
    have : x0.toNat ≤ 1 := by omega
    have := Nat.mul_le_mul_right (cB 1) this
    simp [cB] at this ⊢; omega
  refine blkD (n := 1) (by omega) (by omega) (by omega) hR2 (by simp; omega) fun g cs B f H3 hg hf hlb hct hR3 hS3 => ?_
  have n3 := hS3.1
  have fg := hg.flat
  have S13 := hS2.trans hS3
  have qR : H3.bk H.n = some ⟨[.I 0, .I 0, .I 0, .I 0, .I 0, .nils, .nils, .nils], true⟩ := S13.at (by omega) (by omega) ((x1.2 H.n (by simp)).trans push_new)
  have st := store_bk (o := 0) (vs := [.I 3, .I 0, .I 0, .I 0, .I 1, ve, g, .nils]) qR (by simp)
  have fe := d1.ev.flat
  simp [flat_cells fg, flat_tup fg, flat_cells fe, flat_tup fe, st, loadN_bk put_same]
  have hk : ∀ b, b ≠ H.n → (H3.put H.n (some ⟨[.I 3, .I 0, .I 0, .I 0, .I 1, ve, g, .nils], true⟩)).bk b = H3.bk b := fun b hb => by rw [put_bk, if_neg hb]
  refine k [.I 3, .I 0, .I 0, .I 0, .I 1, ve, g, .nils] ⟨3, 0, 0, ⟨0, 1, .nil⟩, f, .nil⟩ _ ⟨ve, g, .nils, rfl, (d1.ev.mono (by simp; omega) (fun b hb hb2 => ?_) (fun b hb _ => by simp at hb; omega)), (hg.sv hf).mono (by simp) (fun b hb _ => hk b (by omega)) (fun b hb _ => by omega), SV.nil (.inl rfl)⟩ (by simp [ctT, ctS]; omega) ((hR3.put (by omega)).up (by omega)) ?_
  · simp only [push_n] at hb
    rw [hk b (by omega), S13.2 b hb2 (by omega)]
  · exact (((Ext.push H _).trans x1).st.trans S13).put_new (Nat.le_refl _)
end
end Go.Proofs.YtmecbehegmgbhaaGreat.AM
namespace Go.Proofs.YtmecbehegmgbhaaGreat.AM
set_option linter.unusedSimpArgs false
set_option linter.unusedVariables false
set_option maxRecDepth 100000
set_option maxHeartbeats 2000000
open Go
attribute [-simp] AM.elems
theorem LF.snoc3 {α : Type} {sz : Nat} {E : (Nat → Prop) → AH → List AV → α → Prop} (mono : ∀ {ok ok' : Nat → Prop} {H H' : AH} {c a}, E ok H c a → H.n ≤ H'.n → (∀ b, ok b → b < H.n → H'.bk b = H.bk b) → (∀ b, ok b → b < H.n → ok' b) → E ok' H' c a)
    {base lo B r : Nat} {G G1 : AH} {g : AV} {l : List α} {x : α} {cs c : List AV} (hg : GrS base G g l.length sz cs B) (he : LF sz (E (fun b => lo ≤ b ∧ b ≠ B) G) l cs)
    (hb : base ≤ G.n) (hlo : lo ≤ G.n) (hrb : r < base) (hrl : r < lo) (x1 : St r G G1) (hc : c.length = sz) (hx : E (fun b => G.n ≤ b) G1 c x) (hi : l.length < 1000000) :
    ∃ g' G' B', aapp G1 sz g 1 c = some (g', G') ∧ GrS base G' g' (l ++ [x]).length sz (cs ++ c) B' ∧ LF sz (E (fun b => lo ≤ b ∧ b ≠ B') G') (l ++ [x]) (cs ++ c) ∧ Only (grB g B) G1 G' ∧ ((B' = B ∧ B ∈ grB g B) ∨ B' = G1.n) ∧ g'.flat = true := by
  obtain ⟨g', G', B', a1, a2, a3, a4⟩ := (hg.st x1 hrb).app (k := 1) (new := c) (by have := x1.1; omega) (by omega) (by omega)
  have hm : ∀ b, b ∈ grB g B → b = B ∧ base ≤ B ∧ B < G.n := fun b hb => hg.mem hb
  have hB : (B' = B ∧ base ≤ B ∧ B < G.n) ∨ G1.n = B' := by
    rcases a3 with q | q
    · exact .inl ⟨q.1, (hm _ q.2).2⟩
    · exact .inr q.symm
  have n1 := x1.1
  refine ⟨g', G', B', a1, by simpa using a2, ?_, a4, a3, a2.flat⟩
  refine LF.app (he.imp fun c a h => mono h (by have := a4.1; omega) (fun b hb' h1 => ?_) (fun b hb' h1 => ⟨hb'.1, by omega⟩)) (LF.one (mono hx a4.1 (fun b hb' h1 => a4.2 b h1 (fun hm' => by have := hm b hm'; omega)) (fun b hb' h1 => by omega)) hc)
  rw [a4.2 b (by omega) (fun hm' => hb'.2 (hm b hm').1), x1.2 b h1 (by omega)]
theorem GrS.keep {base : Nat} {H G : AH} {v n sz cs B} (h : GrS base H v n sz cs B) (hn : H.n ≤ G.n) (hk : ∀ b, base ≤ b → b < H.n → G.bk b = H.bk b) : GrS base G v n sz cs B := by
  obtain ⟨h1, h2, h3 | ⟨h4, h5, h6⟩⟩ := h
  · exact ⟨h1, h2, .inl h3⟩
  · exact ⟨h1, h2, .inr ⟨h4, by omega, by rw [hk B h4 h5]; exact h6⟩⟩
theorem GrS.keep1 {base : Nat} {H G : AH} {v n sz cs B} (h : GrS base H v n sz cs B) (hn : H.n ≤ G.n) (hk : base ≤ B → B < H.n → G.bk B = H.bk B) : GrS base G v n sz cs B := by
  obtain ⟨h1, h2, h3 | ⟨h4, h5, h6⟩⟩ := h
  · exact ⟨h1, h2, .inl h3⟩
  · exact ⟨h1, h2, .inr ⟨h4, by omega, by rw [hk h4 h5]; exact h6⟩⟩
/-- The tasks of a drawn program: the first's list may grow, its block is apart. -/
def T0 (lo B : Nat) (G : AH) (l : List Sts) (cs : List AV) : Prop :=
  (l = [] ∧ cs = []) ∨ ∃ v0 c0 B0 f0 l' cs', l = f0 :: l' ∧ cs = v0 :: cs' ∧ GrS lo G v0 f0.list.length 8 c0 B0 ∧ B0 ≠ B ∧ B0 < G.n ∧ SF (fun b => lo ≤ b ∧ b ≠ B ∧ b ≠ B0) G f0 c0 ∧ LF 1 (L1 (fun b => lo ≤ b ∧ b ≠ B ∧ b ≠ B0) G) l' cs'
theorem T0.lf {lo B G l cs} (h : T0 lo B G l cs) : LF 1 (L1 (fun b => lo ≤ b ∧ b ≠ B) G) l cs := by
  rcases h with ⟨rfl, rfl⟩ | ⟨v0, c0, B0, f0, l', cs', rfl, rfl, h1, h2, h3, h4, h5⟩
  · rfl
  · exact ⟨[v0], cs', rfl, rfl, ⟨v0, rfl, c0, h1.ivB (fun a b => ⟨a, h2⟩), h4.mono (Nat.le_refl _) (fun _ _ _ => rfl) (fun b hb _ => ⟨hb.1, hb.2.1⟩)⟩, h5.imp fun c a h => h.mono (Nat.le_refl _) (fun _ _ _ => rfl) (fun b hb _ => ⟨hb.1, hb.2.1⟩)⟩
theorem T0.up {lo lo' B G l cs} (h : T0 lo B G l cs) (hl : lo' ≤ lo) : T0 lo' B G l cs := by
  rcases h with ⟨rfl, rfl⟩ | ⟨v0, c0, B0, f0, l', cs', rfl, rfl, h1, h2, h3, h4, h5⟩
  · exact .inl ⟨rfl, rfl⟩
  · exact .inr ⟨v0, c0, B0, f0, l', cs', rfl, rfl, h1.up hl, h2, h3, h4.mono (Nat.le_refl _) (fun _ _ _ => rfl) (fun b hb _ => ⟨by omega, hb.2⟩), h5.imp fun c a h => h.mono (Nat.le_refl _) (fun _ _ _ => rfl) (fun b hb _ => ⟨by omega, hb.2⟩)⟩
theorem T0.keep {lo B G G' l cs} (h : T0 lo B G l cs) (hn : G.n ≤ G'.n) (hk : ∀ b, lo ≤ b → b ≠ B → b < G.n → G'.bk b = G.bk b) : T0 lo B G' l cs := by
  rcases h with ⟨rfl, rfl⟩ | ⟨v0, c0, B0, f0, l', cs', rfl, rfl, h1, h2, h3, h4, h5⟩
  · exact .inl ⟨rfl, rfl⟩
  · exact .inr ⟨v0, c0, B0, f0, l', cs', rfl, rfl, h1.keep1 hn (fun a b => hk _ a h2 b), h2, by omega, h4.mono hn (fun b hb hb2 => hk b hb.1 hb.2.1 hb2) (fun _ h _ => h), h5.imp fun c a h => h.mono hn (fun b hb hb2 => hk b hb.1 hb.2.1 hb2) (fun _ h _ => h)⟩
/-- A list's block, named so that it is apart (none: 0). -/
theorem GrS.name {base lo G v n sz cs B} (h : GrS base G v n sz cs B) (hb : lo ≤ base) (h0 : 0 < base) (hG : 0 < G.n) : ∃ B', GrS lo G v n sz cs B' ∧ ((B' = B ∧ base ≤ B' ∧ B' < G.n) ∨ (B' = 0 ∧ cs = [])) := by
  obtain ⟨h1, h2, ⟨h3, h3'⟩ | ⟨h4, h5, h6⟩⟩ := h
  · refine ⟨0, ⟨h1, h2, .inl ⟨h3, h3'⟩⟩, .inr ⟨rfl, List.eq_nil_of_length_eq_zero (by rw [h2, h3']; simp)⟩⟩
  · exact ⟨B, ⟨h1, h2, .inr ⟨by omega, h5, h6⟩⟩, .inl ⟨rfl, h4, h5⟩⟩
theorem T0.snoc {base lo B B' r : Nat} {G G1 G' : AH} {g v : AV} {l : List Sts} {f : Sts} {n : Nat} {cs c : List AV} {B1 : Nat} (hg : GrS base G g n 1 cs B) (h : T0 lo B G l cs) (hb0 : 0 < base) (hBb : base ≤ B) (hbl : base ≤ lo) (hlo : lo ≤ G.n) (hr : r < lo) (x1 : St r G G1) (o : Only (grB g B) G1 G') (hB : (B' = B ∧ B ∈ grB g B) ∨ B' = G1.n)
    (gs : GrS G.n G1 v f.list.length 8 c B1) (sf : SF (fun b => G.n ≤ b ∧ b ≠ B1) G1 f c) : T0 lo B' G' (l ++ [f]) (cs ++ [v]) := by
  have hm : ∀ b, b ∈ grB g B → b = B ∧ base ≤ B ∧ B < G.n := fun b hb => hg.mem hb
  have hB2 : (B' = B ∧ B < G.n) ∨ B' = G1.n := by
    rcases hB with q | q
    · exact .inl ⟨q.1, (hm _ q.2).2.2⟩
    · exact .inr q
  have n1 := x1.1
  have n2 := o.1
  have hk1 : ∀ b, G.n ≤ b → b < G1.n → G'.bk b = G1.bk b := fun b h1 h2 => o.2 b h2 (fun hq => by have := hm b hq; omega)
  have hk2 : ∀ b, lo ≤ b → b ≠ B → b < G.n → G'.bk b = G.bk b := fun b h1 h2 h3 => by rw [o.2 b (by omega) (fun hq => h2 (hm b hq).1), x1.2 b h3 (by omega)]
  rcases h with ⟨rfl, rfl⟩ | ⟨v0, c0, B0, f0, l', cs', rfl, rfl, h1, h2, h3, h4, h5⟩
  · obtain ⟨B2, g2, q⟩ := gs.name (lo := lo) hlo (by omega) (by omega)
    refine .inr ⟨v, c, B2, f, [], [], rfl, rfl, g2.keep1 n2 (fun a b => hk1 _ ?_ b), by omega, by omega, ?_, rfl⟩
    · rcases q with q | q
      · exact q.2.1
      · omega
    · rcases q with q | q
      · exact sf.mono n2 (fun b hb hb2 => hk1 b hb.1 hb2) (fun b hb hb2 => ⟨by omega, by omega, by omega⟩)
      · exact sf.mono n2 (fun b hb hb2 => hk1 b hb.1 hb2) (fun b hb hb2 => ⟨by omega, by omega, by omega⟩)
  · refine .inr ⟨v0, c0, B0, f0, l' ++ [f], cs' ++ [v], rfl, rfl, h1.keep1 (by omega) (fun a b => hk2 _ a h2 b), by omega, by omega, h4.mono (by omega) (fun b hb hb2 => hk2 b hb.1 hb.2.1 hb2) (fun b hb hb2 => ⟨hb.1, by omega, hb.2.2⟩), ?_⟩
    refine LF.app (h5.imp fun c a h => h.mono (by omega) (fun b hb hb2 => hk2 b hb.1 hb.2.1 hb2) (fun b hb hb2 => ⟨hb.1, by omega, hb.2.2⟩)) (LF.one ⟨v, rfl, (gs.sv sf).mono n2 (fun b hb hb2 => hk1 b hb hb2) (fun b hb hb2 => ⟨by omega, by omega, by omega⟩)⟩ rfl)
theorem K_sl92Program_l {r : Nat} {vr : AV} {nr : Nat} (hvr : alen vr = some nr) (hnr : nr ≤ 3) {P2 P3 base lo : Nat} (hrb : r < base) (hb3 : base < P3) (h3lo : P3 < lo) {n : Int} (hn : n ≤ 10) {Q : Out → Env → AH → Prop} (j i : Nat) (hij : (i + j : Int) = n) {G : AH} {g : AV} {l : List Sts} {cs : List AV} {B : Nat} {m : Int} (hlo : lo ≤ G.n) (hl : l.length = i) (gP : G.bk P3 = some ⟨[vr, g], true⟩)
    (hg : GrS base G g l.length 1 cs B) (hB : B ≠ P3) (hBb : base ≤ B) (he : T0 lo B G l cs) (hct : ∀ f ∈ l, ctS f ≤ 1000) (hR : Rdx G r m) (hm : m + 60000 * j ≤ 500000000000)
    (hQ : ∀ e g' l' cs' B' G', (l'.length : Int) = n → GrS base G' g' l'.length 1 cs' B' → B' ≠ P3 → T0 lo B' G' l' cs' → G'.bk P3 = some ⟨[vr, g'], true⟩ → (∀ f ∈ l', ctS f ≤ 1000) → Rdx G' r (m + 60000 * j) → (∀ b, b < base → b ≠ r → G'.bk b = G.bk b) → G.n ≤ G'.n → get e 0 = some (.ptr r 0) → get e 2 = some (.ptr P2 0) → get e 3 = some (.ptr P3 0) → Q (.brk 0) e G') :
    W Cd (.loop c_sl92Program_l0) [(0, .ptr r 0), (2, .ptr P2 0), (3, .ptr P3 0), (4, .I n), (5, .I i)] G Q := by
  induction j generalizing i G g l cs B m with
  | zero =>
    rw [W_loop_as c_sl92Program_l0.eq_1]
    have hi : (i : Int) = n := by omega
    simp [hi]
    exact hQ _ g l cs B G (by omega) hg hB he gP hct (hR.up (by omega)) (fun _ _ _ => rfl) (Nat.le_refl _) rfl rfl rfl
  | succ j ih =>
    rw [W_loop_as c_sl92Program_l0.eq_1]
    have hlt : (i : Int) < n := by omega
    simp (disch := omega) [hlt, load_bk gP, hvr]
    refine K_sl92Stmts (by omega) hR (by omega) fun vs cs1 B1 f H1 gs sf ctf hR1 hS1 => ?_
    have n1 := hS1.1
    have gP1 : H1.bk P3 = some ⟨[vr, g], true⟩ := hS1.at (by omega) (by omega) gP
    have fs := gs.flat
    have hS : St r G (H1.push [vs]) := hS1.push
    obtain ⟨g', G', B', a1, a2, a3, a4, a5, a6⟩ := LF.snoc3 (E := L1) (c := [vs]) (x := f) (fun h => h.mono) hg he.lf (by omega) hlo hrb (by omega) hS rfl ⟨vs, rfl, (gs.sv sf).ext (Ext.push _ _)⟩ (by omega)
    have hmg : ∀ b, b ∈ grB g B → b = B ∧ base ≤ B ∧ B < G.n := fun b hb => hg.mem hb
    have t3 : T0 lo B' G' (l ++ [f]) (cs ++ [vs]) := T0.snoc hg he (by omega) hBb (by omega) hlo (by omega) hS a4 a5 (gs.ext (Ext.push _ _)) (sf.ext (Ext.push _ _))
    have hk : ∀ b, b < H1.n → b ≠ B ∨ b < base → G'.bk b = H1.bk b := fun b hb hb2 => (a4.2 b (by simp; omega) (fun hq => by have := hmg b hq; omega)).trans (push_old hb rfl)
    have gP2 : G'.bk P3 = some ⟨[vr, g], true⟩ := (hk P3 (by omega) (.inl (Ne.symm hB))).trans gP1
    have st := store_cell (v := g') gP2 (o := 1) (by simp)
    simp only [List.set_cons_succ, List.set_cons_zero] at st
    have n4 := a4.1
    simp only [push_n] at n4 a5
    have hB' : B' ≠ P3 := by
      rcases a5 with q | q
      · rw [q.1]; exact hB
      · omega
    have hB2' : base ≤ B' := by
      rcases a5 with q | q
      · rw [q.1]; exact hBb
      · omega
    have kk : H1.bk P3 = G.bk P3 := hS1.2 P3 (by omega) (by omega)
    simp (disch := omega) [kk, AM.elems, flat_cells fs, flat_tup fs, loadN_push, a1, st, flat_cells a6, flat_tup a6]
    have := ih (i + 1) (by push_cast; omega) (G := G'.put P3 (some ⟨[vr, g'], true⟩)) (g := g') (l := l ++ [f]) (cs := cs ++ [vs]) (B := B') (m := m + 60000) (by simp; omega) (by simp; omega) put_same
      (a2.only (bs := [P3]) (Only.refl.put (by simp)) (fun b hb => .inr (by simp at hb; subst hb; exact Ne.symm hB'))) hB'
      hB2' (t3.keep (by simp) (fun b hb _ _ => by rw [put_bk, if_neg (by omega)]))
      (fun f' hf' => by
        rcases List.mem_append.1 hf' with q | q
        · exact hct f' q
        · rw [List.mem_singleton.1 q]; exact ctf)
      ((hR1.same (by omega) fun b hb => hk b (by have := hR1.lt; omega) (.inr (by omega))).put (by omega)) (by omega)
      (fun e g2 l2 c2 B2 G2 u1 u2 u3 u4 u5 u6 u7 u8 u9 ua ub uc => hQ e g2 l2 c2 B2 G2 u1 u2 u3 u4 u5 u6 (u7.up (by omega)) (fun b h1 h2 => by rw [u8 b h1 h2, put_bk, if_neg (by omega), hk b (by omega) (.inr h1), hS1.2 b (by omega) h2]) (by simp at u9; omega) ua ub uc)
    simpa using this
section
variable {H : AH} {K : AV → AH → Prop} {r : Nat} {w : Fk K} {m boxes : Int}
theorem K_sl92ProgramX (h : Rdx H r m) (hm : m ≤ 400000000000)
    (k : ∀ vr vt (p : Pg) RB TB lo cs H', H.n ≤ lo → lo ≤ H'.n → GrS H.n H' vr p.rooms.length 1 (Ints p.rooms) RB → (∀ b ∈ grB vr RB, b < lo) → IV (fun b => H.n ≤ b ∧ b < lo) H' vr p.rooms → GrS lo H' vt p.tasks.length 1 cs TB → T0 lo TB H' p.tasks cs → 1 ≤ p.tasks.length ∧ p.tasks.length ≤ 3 → p.rooms.length ≤ 3 →
      (∀ f ∈ p.tasks, ctS f ≤ 1000) → Rdx H' r (m + 600000) → St r H H' → K (.agg [vr, vt]) H') : CallF Cd f_sl92Program [.ptr r 0] H K w := by
  rw [CallF_eq e_sl92Program rfl]
  have hr := h.lt
  simp
  refine K_sl92Rooms h.push (by omega) fun vr lr Br H1 hlr gr hR1 hS1 => ?_
  have n1 := hS1.1
  simp only [push_n] at n1
  have fr := gr.flat
  have e2 : ((H1.push []).push [.nils, .nils]).store (H1.n + 1) 0 [vr, .sl H1.n 0 0 (.ex 0)] = some ((H1.push []).push [vr, .sl H1.n 0 0 (.ex 0)]) := store_push2e (H := H1.push [])
  simp [flat_cells fr, flat_tup fr, e2]
  have iv1 : IV (fun b => H.n + 1 ≤ b ∧ b < H1.n) H1 vr lr := gr.ivB (fun a b => ⟨by simpa using a, b⟩)
  have x3 := (Ext.push H1 []).trans (Ext.push _ [vr, .sl H1.n 0 0 (.ex 0)])
  refine P_pick (hR1.ext x3) (by omega) (by omega) fun x H4 hx hR4 hS4 => ?_
  have n4 := hS4.1
  simp only [push_n] at n4
  simp (disch := omega)
  have hS14 : St r H1 H4 := x3.st.trans hS4
  have q4 : H4.bk (H1.n + 1) = some ⟨[vr, .sl H1.n 0 0 (.ex 0)], true⟩ := hS4.at (by simp) (by omega) push_new
  have qb : H4.bk H1.n = some ⟨[], true⟩ := hS4.at (by simp; omega) (by omega) (push_old (by simp) push_new)
  have qR4 : H4.bk H.n = some ⟨[.nils, .nils], true⟩ := hS14.at (by omega) (by omega) (hS1.at (by simp) (by omega) push_new)
  have S04 : St r H H4 := ((Ext.push H _).st.trans hS1).trans hS14
  have iv4 : IV (fun b => H.n + 1 ≤ b ∧ b < H1.n) H4 vr lr := iv1.mono (by omega) (fun b hb hb2 => hS14.2 b hb2 (by omega)) (fun _ h _ => h)
  obtain ⟨j, hj⟩ : ∃ j : Nat, 1 + x = j := ⟨(1 + x).toNat, by omega⟩
  have hj3 : j ≤ 3 := by omega
  -- the end, common to both ways
  have fin : ∀ (G : AH) (g : AV) (l : List Sts) (cs : List AV) (B : Nat), GrS H1.n G g l.length 1 cs B → 1 ≤ l.length ∧ l.length ≤ 3 → B ≠ H1.n + 1 → T0 (H1.n + 2) B G l cs → G.bk (H1.n + 1) = some ⟨[vr, g], true⟩ → (∀ f ∈ l, ctS f ≤ 1000) → Rdx G r (m + 500000) → (∀ b, b < H1.n → b ≠ r → G.bk b = H4.bk b) → H4.n ≤ G.n →
      ∃ G1, G.loadN (H1.n + 1) 0 2 = some [vr, g] ∧ G.store H.n 0 [vr, g] = some G1 ∧ G1.loadN H.n 0 2 = some [vr, g] ∧ K (.agg [vr, g]) G1 := by
    intro G g l cs B z1 zl z2 z3 z4 z5 z6 z7 z8
    have qR := (z7 H.n (by omega) (by omega)).trans qR4
    refine ⟨_, by rw [loadN_bk z4]; rfl, store_bk qR (by simp), by rw [loadN_bk put_same]; rfl, ?_⟩
    have hk : ∀ b, b ≠ H.n → (G.put H.n (some ⟨splice [.nils, .nils] 0 [vr, g], true⟩)).bk b = G.bk b := fun b hb => by rw [put_bk, if_neg hb]
    have kv : ∀ b, H.n < b → b < H1.n → (G.put H.n (some ⟨splice [.nils, .nils] 0 [vr, g], true⟩)).bk b = H1.bk b := fun b h1 h2 => by
      rw [hk b (by omega), z7 b h2 (by omega), hS14.2 b h2 (by omega)]
    have gr2 : GrS (H.n + 1) H1 vr lr.length 1 (Ints lr) Br := by simpa using gr
    refine k vr g ⟨lr, l⟩ Br B H1.n cs _ (by omega) (by simp; omega) ((gr2.keep (by simp; omega) (fun b h1 h2 => kv b (by omega) h2)).up (by omega)) (fun b hb => ?_) (iv4.mono (by simp; omega) (fun b hb hb2 => ?_) (fun b hb _ => by omega)) (z1.keep (by simp) (fun b h1 _ => hk b (by omega))) ((z3.keep (by simp) (fun b h1 _ _ => hk b (by omega))).up (by omega)) zl hlr z5 ((z6.put (by omega)).up (by omega)) ?_
    · have := gr2.mem hb; omega
    · rw [hk b (by omega), z7 b hb.2 (by omega)]
    · exact St.put_new ⟨by have := S04.1; omega, fun b hb hbr => by rw [z7 b (by omega) hbr, S04.2 b hb hbr]⟩ (Nat.le_refl _)
  have := K_sl92Program_l (P2 := H.n) (P3 := H1.n + 1) (base := H1.n) (lo := H1.n + 2) (vr := vr) (nr := lr.length) gr.alen hlr (r := r) (by omega) (by omega) (by omega) (n := j) (by omega) (Q := ?_) j 0 (by simp) (G := H4) (g := .sl H1.n 0 0 (.ex 0)) (l := []) (cs := []) (B := H1.n) (m := m + 51) (by omega) rfl q4
    ⟨by simp, by simp, .inr ⟨Nat.le_refl _, by omega, .inl ⟨rfl, qb⟩⟩⟩ (by omega) (Nat.le_refl _) (.inl ⟨rfl, rfl⟩) (by simp) (hR4.up (by omega)) (by omega) ?_
  · simpa [hj] using this
  · intro e g l cs B G z1 z2 z3 z4 z5 z6 z7 z8 z9 za zb zc
    simp [za, zb, zc]
    refine P_pick z7 (by omega) (by omega) fun y G2 hy hR5 hS5 => ?_
    have n5 := hS5.1
    have g2 := z2.st hS5 (by omega)
    have q5 : G2.bk (H1.n + 1) = some ⟨[vr, g], true⟩ := hS5.at (by omega) (by omega) z5
    have t5 : T0 (H1.n + 2) B G2 l cs := z4.keep n5 (fun b hb _ hb2 => hS5.2 b hb2 (by omega))
    have e5 := t5.lf
    simp
    by_cases hy0 : y = 0
    · simp [hy0, load_bk q5]
      refine K_sl92Endless hR5 (by omega) fun c s G3 s1 cts hR6 hS6 => ?_
      have n6 := hS6.1
      have l8 := s1.len
      have g3 := (g2.st hS6 (by omega)).ext (Ext.push G3 c)
      obtain ⟨f0, l', rfl⟩ : ∃ f0 l', l = f0 :: l' := by
        cases l with
        | nil => simp at z1; omega
        | cons f0 l' => exact ⟨f0, l', rfl⟩
      obtain ⟨cap, G4, rfl, t1, t2, t3, t4, t5⟩ := g3.storeAt (o := 0) (c := [.sl G3.n 0 1 (.ex 1)]) (by simp) (by simp)
      obtain ⟨cc, cr, rfl, h2, h3, hrest⟩ := e5
      have es : splice (cc ++ cr) 0 [.sl G3.n 0 1 (.ex 1)] = [.sl G3.n 0 1 (.ex 1)] ++ cr := by
        obtain ⟨v0, rfl⟩ : ∃ v0, cc = [v0] := by
          cases cc with
          | nil => simp at h2
          | cons a t => cases t with
            | nil => exact ⟨a, rfl⟩
            | cons _ _ => simp at h2
        rfl
      rw [es] at t2
      have q6 : G4.bk (H1.n + 1) = some ⟨[vr, .sl B 0 (f0 :: l').length cap], true⟩ := (t3.2 _ (by simp; omega) (by simp; omega)).trans ((push_old (by omega) rfl).trans (hS6.at (by omega) (by omega) q5))
      have hk4 : ∀ b, b ≠ B → b < G3.n → G4.bk b = G3.bk b := fun b hb hb2 => (t3.2 b (by simp; omega) (by simpa using hb)).trans (push_old hb2 rfl)
      have n7 := t3.1
      simp only [push_n] at n7
      have hBlt : B < G2.n := (g2.mem (b := B) (by simp [grB])).2.2
      have s2 : SF (fun b => G2.n ≤ b) G3 (Sts.of [s]) c := s1.one
      have g30 : GrS (H1.n + 2) G4 (.sl G3.n 0 1 (.ex 1)) (Sts.of [s]).list.length 8 c G3.n := (GrS.new (base := H1.n + 2) (G := G3) (n := 1) (sz := 8) (cs := c) (by omega) (by omega) (by simpa using l8)).keep1 n7 (fun _ hb2 => t3.2 _ hb2 (by simp; omega))
      have t6 : T0 (H1.n + 2) B G4 (Sts.of [s] :: l') ([.sl G3.n 0 1 (.ex 1)] ++ cr) := .inr ⟨_, c, G3.n, _, l', cr, rfl, rfl, g30, by omega, by omega, s2.mono (by omega) (fun b hb hb2 => hk4 b (by omega) hb2) (fun b hb _ => ⟨by omega, by omega, by omega⟩), hrest.imp fun c a h => h.mono (by omega) (fun b hb hb2 => by rw [hk4 b hb.2 (by omega), hS6.2 b hb2 (by omega)]) (fun b hb hb2 => ⟨hb.1, hb.2, by omega⟩)⟩
      obtain ⟨G5, w1, w2, w3, w4⟩ := fin G4 _ (Sts.of [s] :: l') _ B (by simpa using t2) (by simp at z1 ⊢; omega) z3 t6 q6
        (fun f hf => by
          rcases List.mem_cons.1 hf with q | q
          · rw [q]; simp only [Sts.of, ctS]; unfold ctT at cts; omega
          · exact z6 f (List.mem_cons_of_mem _ q)) ((hR6.same (by omega) fun b hb => hk4 b (by omega) (by omega)).up (by omega)) (fun b hb hbr => by rw [hk4 b (by omega) (by omega), hS6.2 b (by omega) hbr, hS5.2 b (by omega) hbr, z8 b hb hbr]) (by omega)
      have elen : (f0 :: l').length = l'.length + 1 := rfl
      have kk : G3.bk (H1.n + 1) = G2.bk (H1.n + 1) := hS6.2 _ (by omega) (by omega)
      rw [elen] at w1 w2 w3 w4
      simp [l8, kk, t1, w1, w2, w3]
      exact w4
    · obtain ⟨G5, w1, w2, w3, w4⟩ := fin G2 g l cs B g2 (by omega) z3 t5 q5 z6 (hR5.up (by omega)) (fun b hb hbr => by rw [hS5.2 b (by omega) hbr, z8 b hb hbr]) (by omega)
      simp [hy0, w1, w2, w3]
      exact w4
theorem K_sl92Program (h : Rdx H r m) (hm : m ≤ 400000000000)
    (k : ∀ c p H', PgC (fun b => H.n ≤ b) H' c p → (∀ f ∈ p.tasks, ctS f ≤ 1000) → Rdx H' r (m + 600000) → St r H H' → K (.agg c) H') : CallF Cd f_sl92Program [.ptr r 0] H K w :=
  K_sl92ProgramX h hm fun vr vt p RB TB lo cs H' h1 h2 h3 h4 h5 h6 h7 h8 h9 h10 h11 h12 =>
    k [vr, vt] p H' ⟨vr, vt, rfl, h5.mono (Nat.le_refl _) (fun _ _ _ => rfl) (fun b hb _ => hb.1), ⟨cs, h6.slc.mono (Nat.le_refl _) (fun _ _ _ => rfl) (fun b hb _ => by omega), h7.lf.imp fun c a h => h.mono (Nat.le_refl _) (fun _ _ _ => rfl) (fun b hb _ => by omega)⟩⟩ h10 h11 h12
end
end Go.Proofs.YtmecbehegmgbhaaGreat.AM
namespace Go.Proofs.YtmecbehegmgbhaaGreat.AM
set_option linter.unusedSimpArgs false
set_option linter.unusedVariables false
set_option maxRecDepth 100000
set_option maxHeartbeats 2000000
open Go
attribute [-simp] AM.elems
def w0 (p : Pg) : Wd := if vaPg p = true then newW p else zeroW
theorem w0_bo {p : Pg} (h : ∀ f ∈ p.tasks, ctS f ≤ 1000) : boW (w0 p) 850000 ∧ (w0 p).boxes.length ≤ 3 := by
  unfold w0
  split
  · rename_i hv
    obtain ⟨h1, h2⟩ := newW_ok hv
    refine ⟨⟨fun t ht => ⟨?_, by have := h2 t ht; omega⟩, by simp [newW]⟩, (vaBs_facts (vaWd_iff.1 h1).2.2.1).1⟩
    simp only [newW, List.mem_map] at ht
    obtain ⟨f, hf, rfl⟩ := ht
    have := h f hf
    simp only; omega
  · exact ⟨⟨fun t ht => by simp [zeroW] at ht, by simp [zeroW]⟩, by simp [zeroW]⟩
theorem runF_bo {w : Wd} {n : Int} {m : Nat} (h : boW w (n.toNat + m)) (hb : w.boxes.length ≤ 3) : boW (runF n w).1 m ∧ (runF n w).1.boxes.length ≤ 3 := by
  unfold runF
  split
  · rename_i hv
    obtain ⟨a1, a2, a3, a4, ⟨p, a5, a6⟩, a7⟩ := runW_keeps n.toNat hv.1
    have hu := a7 4000 (fun t ht => (h.1 t ht).2)
    have ho := h.2
    simp only
    refine ⟨⟨fun t ht => ⟨?_, hu t ht⟩, ?_⟩, by omega⟩
    · have := (show smW (runW n.toNat w) from ⟨a1, hu, by rw [a5, List.length_append]; omega⟩).task ht
      omega
    · rw [a5, List.length_append]; omega
  · exact ⟨⟨fun t ht => by simp [zeroW] at ht, by have := h.2; simp [zeroW]; omega⟩, by simp [zeroW]⟩
theorem WC.st {base r : Nat} {H H' : AH} {c : List AV} {t : Wd} (h : WC (fun b => base ≤ b) H c t) (k : St r H H') (hr : r < base) : WC (fun b => base ≤ b) H' c t := h.mono k.1 (fun b hb hb2 => k.2 b hb2 (by omega)) (fun _ h _ => h)
theorem WX.st {base r : Nat} {H H' : AH} {c : List AV} {t : Wd} (h : WX (fun b => base ≤ b) H c t) (k : St r H H') (hr : r < base) : WX (fun b => base ≤ b) H' c t := h.mono k.1 (fun b hb hb2 => k.2 b hb2 (by omega)) (fun _ h _ => h)
section
variable {H : AH} {K : AV → AH → Prop} {r : Nat} {w : Fk K} {m boxes : Int}
end
end Go.Proofs.YtmecbehegmgbhaaGreat.AM
namespace Go.Proofs.YtmecbehegmgbhaaGreat.AM
set_option linter.unusedSimpArgs false
set_option linter.unusedVariables false
set_option maxRecDepth 100000
set_option maxHeartbeats 2000000
open Go
attribute [-simp] AM.elems
section
variable {H : AH} {K : AV → AH → Prop} {w : Fk K}
end
end Go.Proofs.YtmecbehegmgbhaaGreat.AM
namespace Go.Proofs.YtmecbehegmgbhaaGreat.AM
set_option linter.unusedSimpArgs false
set_option linter.unusedVariables false
set_option maxRecDepth 100000
set_option maxHeartbeats 2000000
open Go
attribute [-simp] AM.elems
theorem runW_rest {w : Wd} (h : ¬ w.idle < w.tasks.length) : ∀ n, runW n w = w
  | 0 => rfl
  | n + 1 => by unfold runW; rw [if_neg h]
theorem runW_add (a : Nat) : ∀ (b : Nat) (w : Wd), runW b (runW a w) = runW (a + b) w := by
  induction a with
  | zero => intro b w; rw [Nat.zero_add]; rfl
  | succ a ih =>
    intro b w
    rw [Nat.succ_add]
    by_cases h : w.idle < w.tasks.length
    · rw [show runW (a + 1) w = runW a (stepW w) by conv => lhs; unfold runW
                                                    rw [if_pos h], ih]
      conv => rhs; unfold runW
      rw [if_pos h]
    · rw [runW_rest h, runW_rest h, runW_rest h]
theorem T_wfirstInts {o1 o2 : Nat → Prop} {H : AH} {K : AV → AH → Prop} {w : Fk K} {va vp : AV} {l p : List Int} (ha : IV o1 H va (l ++ p)) (hp : IV o2 H vp l) (k : K (.b true) H) : CallF Cd f_wfirstInts [va, vp] H K w := by
  rw [CallF_eq e_wfirstInts rfl]
  have hle : (l.length : Int) ≤ (l.length : Int) + (p.length : Int) := by omega
  obtain ⟨v', e1, e2, e3⟩ := SlC.part ha (i := 0) (j := l.length) (Nat.zero_le _) (by rw [List.length_append]; omega) (by omega) (lo := none) (hi := some (.I l.length)) rfl (by simp [bnd, aint])
  have e4 : (List.take ((l.length - 0) * 1) (List.drop (0 * 1) (Ints (l ++ p)))) = Ints l := by simp [Ints]
  rw [e4] at e2
  have i2 : IV o1 H v' l := e2
  simp [SlC.alen ha, SlC.alen hp, hle, e1]
  exact T_wsameInts i2.sees hp.sees (by simpa using k)
/-- The bounds of a drawn world. -/
theorem boW.ct {w : Wd} {n : Nat} (h : boW w n) : ∀ t ∈ w.tasks, ctS t.rest ≤ 100000 := fun t ht => (h.1 t ht).1
theorem boW.run {w : Wd} {n m : Nat} (h : boW w (n + m)) (hv : vaWd w = true) : boW (runW n w) m := by
  obtain ⟨a1, a2, a3, a4, ⟨p, a5, a6⟩, a7⟩ := runW_keeps n hv
  have hu := a7 4000 (fun t ht => (h.1 t ht).2)
  have ho := h.2
  refine ⟨fun t ht => ⟨?_, hu t ht⟩, by rw [a5, List.length_append]; omega⟩
  have := (show smW (runW n w) from ⟨a1, hu, by rw [a5, List.length_append]; omega⟩).task ht
  omega
theorem boW.le {w : Wd} {n m : Nat} (h : boW w n) (hm : m ≤ n) : boW w m := ⟨h.1, by have := h.2; omega⟩
end Go.Proofs.YtmecbehegmgbhaaGreat.AM
namespace Go.Proofs.YtmecbehegmgbhaaGreat.AM
set_option linter.unusedSimpArgs false
set_option linter.unusedVariables false
set_option maxRecDepth 100000
set_option maxHeartbeats 2000000
open Go
attribute [-simp] AM.elems
theorem AH.same {G G' : AH} (hn : G.n = G'.n) (h : ∀ b, G.bk b = G'.bk b) : G = G' := by
  cases G; cases G'; simp only [AH.mk.injEq] at *; exact ⟨hn, funext h⟩
/-- One more statement on a list that may grow: what becomes of the heap, for each such statement alike. -/
theorem GrS.app1 {base B n : Nat} {G : AH} {v : AV} {cs : List AV} (h : GrS base G v n 8 cs B) (hb : base ≤ G.n) (hn : n < 1000000) :
    ∃ B' cap ex, ∃ F : List AV → AH, (∀ c, c.length = 8 → aapp (G.push c) 8 v 1 c = some (.sl B' 0 (n + 1) cap, F c) ∧ (F c).bk B' = some ⟨cs ++ c ++ ex, true⟩ ∧ (F c).n = (F []).n ∧ G.n + 1 ≤ (F c).n ∧ B' < (F c).n ∧ (∀ b, b ≠ B' → b ≠ G.n → (F c).bk b = (F []).bk b) ∧
      (∀ b, b < G.n → b ≠ B ∨ b < base → (F c).bk b = G.bk b) ∧ GrS base (F c) (.sl B' 0 (n + 1) cap) (n + 1) 8 (cs ++ c) B') ∧ B' ≠ G.n ∧ base ≤ B' ∧ ((B' = B ∧ B < G.n) ∨ B' = G.n + 1) := by
  obtain ⟨h1, h2, h3⟩ := h
  rcases h3 with ⟨rfl, rfl⟩ | ⟨h4, h5, ⟨rfl, h6⟩ | ⟨c0, ex, rfl, h7, h8, h9⟩⟩
  · have : cs = [] := List.eq_nil_of_length_eq_zero (by omega)
    subst this
    refine ⟨G.n + 1, .lb 1 8, [], fun c => (G.push c).push c, fun c hc => ⟨?_, by simp, rfl, by simp, by simp, fun b h1 h2 => by simp [h1, h2], fun b hb2 _ => push_old (by simp; omega) (push_old hb2 rfl), by omega, by simp; omega, .inr ⟨by omega, by simp, .inr ⟨1, [], rfl, by omega, by simp, by simp⟩⟩⟩, by omega, by omega, .inr rfl⟩
    unfold aapp
    rw [if_neg (by omega), if_pos (by unfold big; omega)]; rfl
  · refine ⟨G.n + 1, .lb (n + 1) 8, [], fun c => (G.push c).push (cs ++ c), fun c hc => ⟨?_, by simp, rfl, by simp, by simp, fun b h1 h2 => by simp [h1, h2], fun b hb2 _ => push_old (by simp; omega) (push_old hb2 rfl), by omega, by simp; omega, .inr ⟨by omega, by simp, .inr ⟨n + 1, [], rfl, by omega, by simp, by simp⟩⟩⟩, by omega, by omega, .inr rfl⟩
    have e1 : (G.push c).loadN B 0 (n * 8) = some cs := by rw [loadN_bk (push_old h5 h6)]; exact seg_self h2
    unfold aapp
    simp only [Nat.zero_add]
    rw [if_neg (by omega), if_neg (by unfold big; omega)]
    rw [if_neg (by omega), e1]
    rfl
  · by_cases hc0 : n + 1 ≤ c0
    · refine ⟨B, .lb c0 8, ex.drop 8, fun c => (G.push c).put B (some ⟨cs ++ c ++ ex.drop 8, true⟩), fun c hc => ⟨?_, by simp, rfl, by simp, by simp; omega, fun b h1 h2 => by simp only [put_bk, push_bk]; rw [if_neg h1, if_neg h1, if_neg h2, if_neg h2], fun b hb2 hbb => by rw [put_bk, if_neg (by omega)]; exact push_old hb2 rfl, by omega, by simp; omega, .inr ⟨by omega, by simp; omega, .inr ⟨c0, ex.drop 8, rfl, by omega, by simp; omega, by simp⟩⟩⟩, by omega, by omega, .inl ⟨rfl, h5⟩⟩
      have e3 := store_bk (o := n * 8) (vs := c) (push_old (cs := c) h5 h9) (by simp; omega)
      have e2 : splice (cs ++ ex) (n * 8) c = (cs ++ c) ++ ex.drop 8 := by
        unfold splice
        rw [← h2, List.take_left, List.drop_append]
        rw [List.drop_of_length_le (by omega), List.nil_append]
        congr 2; omega
      rw [e2] at e3
      unfold aapp
      simp only [Nat.zero_add]
      rw [if_neg (by omega), if_neg (by unfold big; omega)]
      rw [if_neg (by simp), if_pos hc0, e3]; rfl
    · refine ⟨G.n + 1, .lb (n + 1) 8, [], fun c => ((G.push c).put B none).push (cs ++ c), fun c hc => ⟨?_, by simp, rfl, by simp, by simp, fun b h1 h2 => ?_, fun b hb2 hbb => ?_, by omega, by simp; omega, .inr ⟨by omega, by simp, .inr ⟨n + 1, [], rfl, by omega, by simp, by simp⟩⟩⟩, by omega, by omega, .inr rfl⟩
      · have e1 : (G.push c).loadN B 0 (n * 8) = some cs := by rw [loadN_bk (push_old h5 h9)]; exact seg_app h2
        have e2 : (G.push c).bk B = _ := push_old h5 h9
        unfold aapp
        simp only [Nat.zero_add]
        rw [if_neg (by omega), if_neg (by unfold big; omega)]
        rw [if_neg (by simp), if_neg hc0, e1, e2]
        rfl
      · simp [h1, h2]
      · refine push_old (by simp; omega) ?_
        rw [put_bk, if_neg (by omega)]; exact push_old hb2 rfl
theorem GrS.out {base G v n sz cs B} (h : GrS base G v n sz cs B) (hn : 0 < n) : ∃ cap xs, v = .sl B 0 n cap ∧ base ≤ B ∧ B < G.n ∧ G.bk B = some ⟨cs ++ xs, true⟩ := by
  obtain ⟨h1, h2, ⟨h3, h3'⟩ | ⟨h4, h5, ⟨rfl, h6⟩ | ⟨c0, ex, rfl, h7, h8, h9⟩⟩⟩ := h
  · omega
  · exact ⟨_, [], rfl, h4, h5, by simpa using h6⟩
  · exact ⟨_, ex, rfl, h4, h5, h9⟩
section
variable {H : AH} {K : AV → AH → Prop} {r : Nat} {w : Fk K} {m boxes : Int}
theorem K_sl92Wrong (h : Rdx H r m) (hm : m ≤ 300000000000)
    (k : ∀ c p H', PgC (fun b => H.n ≤ b) H' c p → (∀ f ∈ p.tasks, ctS f ≤ 1001) → p.tasks.length ≤ 6 → p.rooms.length ≤ 4 → Rdx H' r (m + 700000) → St r H H' → K (.agg c) H') : CallF Cd f_sl92Wrong [.ptr r 0] H K w := by
  rw [CallF_eq e_sl92Wrong rfl]
  have hr := h.lt
  simp
  refine K_sl92ProgramX h.push (by omega) fun vr vt p RB TB lo cs H1 hlo1 hlo2 g1 hgl iv1 g2 t0 hl hlr hct hR1 hS1 => ?_
  simp only [push_n] at hlo1 g1 hgl iv1
  have n1 := hS1.1
  simp only [push_n] at n1
  have fr := g1.flat
  have ft := g2.flat
  simp [flat_cells fr, flat_tup fr, flat_cells ft, flat_tup ft]
  have e2 : (H1.push [.nils, .nils]).store H1.n 0 [vr, vt] = some (H1.push [vr, vt]) := store_push2e
  simp [e2]
  refine P_pick hR1.push (by omega) (by omega) fun x H3 hx hR3 hS3 => ?_
  have n3 := hS3.1
  simp only [push_n] at n3
  have hS13 : St r H1 H3 := (Ext.push H1 [vr, vt]).st.trans hS3
  have S03 : St r H H3 := ((Ext.push H _).st.trans hS1).trans hS13
  have g3 : GrS (H.n + 1) H3 vr p.rooms.length 1 (Ints p.rooms) RB := g1.st hS13 (by omega)
  have gt3 : GrS lo H3 vt p.tasks.length 1 cs TB := g2.st hS13 (by omega)
  have t3 : T0 lo TB H3 p.tasks cs := t0.keep (by omega) (fun b hb _ hb2 => hS13.2 b hb2 (by omega))
  have q3 : H3.bk H1.n = some ⟨[vr, vt], true⟩ := hS3.at (by simp) (by omega) push_new
  have qR : H3.bk H.n = some ⟨[.nils, .nils], true⟩ := hS13.at (by omega) (by omega) (hS1.at (by simp) (by omega) push_new)
  have ar := g3.alen
  have at' := gt3.alen
  have hRB : ∀ b, b ∈ grB vr RB → b = RB ∧ H.n + 1 ≤ RB ∧ RB < lo := fun b hb => ⟨(g3.mem hb).1, (g3.mem hb).2.1, by have := hgl b hb; have := (g3.mem hb).1; omega⟩
  have hTB : ∀ b, b ∈ grB vt TB → b = TB ∧ lo ≤ TB ∧ TB < H1.n := fun b hb => g2.mem hb
  have iv3 : IV (fun b => H.n + 1 ≤ b ∧ b < lo) H3 vr p.rooms := iv1.mono (by omega) (fun b hb hb2 => hS13.2 b hb2 (by omega)) (fun _ h _ => h)
  have lf1 : LF 1 (L1 (fun b => (lo ≤ b ∧ b ≠ TB) ∧ b < H1.n) H3) p.tasks cs := t0.lf.imp fun c a h => h.mono (by omega) (fun b hb hb2 => hS13.2 b hb2 (by omega)) (fun b hb hb2 => ⟨hb, hb2⟩)
  have lv3 : LV (fun b => lo ≤ b ∧ b < H1.n) H3 vt p.tasks := ⟨cs, g2.slc.mono (by omega) (fun b hb hb2 => hS13.2 b hb2 (by omega)) (fun b hb hb2 => ⟨hb, hb2⟩), lf1.imp fun c a h => h.mono (Nat.le_refl _) (fun _ _ _ => rfl) (fun b hb _ => ⟨hb.1.1, hb.2⟩)⟩
  have fin : ∀ (G : AH) (vr' vt' : AV) (p' : Pg), G.bk H1.n = some ⟨[vr', vt'], true⟩ → IV (fun b => H.n < b) G vr' p'.rooms → LV (fun b => H.n < b) G vt' p'.tasks → (∀ f ∈ p'.tasks, ctS f ≤ 1001) → p'.tasks.length ≤ 6 → p'.rooms.length ≤ 4 → Rdx G r (m + 650000) → G.bk H.n = some ⟨[.nils, .nils], true⟩ → St r H G →
      ∃ G1, G.loadN H1.n 0 2 = some [vr', vt'] ∧ G.store H.n 0 [vr', vt'] = some G1 ∧ G1.loadN H.n 0 2 = some [vr', vt'] ∧ K (.agg [vr', vt']) G1 := by
    intro G vr' vt' p' z1 z2 z3 z4 z5 z6 z7 z8 z9
    refine ⟨_, by rw [loadN_bk z1]; rfl, store_bk z8 (by simp), by rw [loadN_bk put_same]; rfl, ?_⟩
    have hk : ∀ b, b ≠ H.n → (G.put H.n (some ⟨splice [.nils, .nils] 0 [vr', vt'], true⟩)).bk b = G.bk b := fun b hb => by rw [put_bk, if_neg hb]
    exact k _ p' _ ⟨vr', vt', rfl, z2.mono (by simp) (fun b hb _ => hk b (by omega)) (fun b hb _ => by omega), z3.mono (by simp) (fun b hb _ => hk b (by omega)) (fun b hb _ => by omega)⟩ z4 z5 z6 ((z7.put (by omega)).up (by omega)) (z9.put_new (Nat.le_refl _))
  have hct' : ∀ f ∈ p.tasks, ctS f ≤ 1001 := fun f hf => by have := hct f hf; omega
  have S1G : ∀ G : AH, H3.n ≤ G.n → (∀ b, b < H3.n → b ≠ H1.n → b ≠ TB ∨ b < lo → b ≠ RB ∨ b < H.n + 1 ∨ lo ≤ b → b ≠ r → G.bk b = H3.bk b) → G.bk H.n = some ⟨[.nils, .nils], true⟩ ∧ St r H G := fun G hn hk =>
    ⟨(hk _ (by omega) (by omega) (by omega) (by omega) (by omega)).trans qR, by have := S03.1; omega, fun b hb hbr => (hk b (by omega) (by omega) (by omega) (by omega) hbr).trans (S03.2 b hb hbr)⟩
  simp
  by_cases x0 : x = 0
  · simp [x0, load_bk q3]
    refine P_pick hR3.push (by omega) (by omega) fun z H4 hz hR4 hS4 => ?_
    have n4 := hS4.1
    simp only [push_n] at n4
    obtain ⟨q, hq, eq⟩ := @Ints_get [0, 5] z 2 (by omega) rfl
    have eb : H4.bk H3.n = some ⟨Ints [0, 5], true⟩ := hS4.at (by simp) (by omega) push_new
    have q4 : H4.bk H1.n = some ⟨[vr, vt], true⟩ := hS4.at (by simp; omega) (by omega) (push_old (by omega) q3)
    have k3 : (H3.push (Ints [0, 5])).bk H1.n = some ⟨[vr, vt], true⟩ := push_old (by omega) q3
    have hS34 : St r H3 H4 := (Ext.push H3 _).st.trans hS4
    obtain ⟨g', G', B', a1, a2, a3, a4⟩ := ((g3.st hS34 (by omega)).ext (Ext.push H4 [.I q])).app (k := 1) (new := [.I q]) (by simp; omega) (by simp) (by omega)
    have n5 := a4.1
    simp only [push_n] at n5 a3
    have hk : ∀ b, b < H4.n → b ≠ RB ∨ b < H.n + 1 ∨ lo ≤ b → G'.bk b = H4.bk b := fun b hb hb2 => (a4.2 b (by simp; omega) (fun hq => by have := hRB b hq; omega)).trans (push_old hb rfl)
    have q5 : G'.bk H1.n = some ⟨[vr, vt], true⟩ := (hk _ (by omega) (by omega)).trans q4
    have st := store_cell (v := g') q5 (o := 0) (by simp)
    simp only [List.set_cons_succ, List.set_cons_zero] at st
    have f5 := a2.flat
    have hne : ¬ H1.n = H3.n := by omega
    have e8 : Ints p.rooms ++ [AV.I q] = Ints (p.rooms ++ [q]) := by simp [Ints]
    have hB' : B' ≠ H1.n ∧ H.n < B' := by
      rcases a3 with z | z
      · have := hRB _ z.2; omega
      · omega
    rw [e8] at a2
    obtain ⟨s1, s2⟩ := S1G (G'.put H1.n (some ⟨[g', vt], true⟩)) (by simp; omega) (fun b c1 c2 c3 c4 c5 => by rw [put_bk, if_neg c2, hk b (by omega) c4, hS34.2 b c1 c5])
    have a6 := a2.keep1 (G := G'.put H1.n (some ⟨[g', vt], true⟩)) (by simp) (fun _ _ => by rw [put_bk, if_neg hB'.1])
    obtain ⟨G1, u1, u2, u3, u4⟩ := fin (G'.put H1.n (some ⟨[g', vt], true⟩)) g' vt ⟨p.rooms ++ [q], p.tasks⟩ put_same (by have := a6.ivB (ok := fun b => H.n < b) (fun _ _ => hB'.2); simpa [IV] using this)
      (lv3.mono (by simp; omega) (fun b hb hb2 => by rw [put_bk, if_neg (by omega), hk b (by omega) (by omega), hS34.2 b hb2 (by omega)]) (fun b hb _ => by omega)) hct' (by simp only; omega) (by simp; omega) (((hR4.same (by omega) fun b hb => hk b (by have := hR4.lt; omega) (.inr (.inl (by omega)))).put (by omega)).up (by omega)) s1 s2
    simp (disch := omega) [AM.elems, load_eq, eb, eq, q4, q3, k3, hne, loadN_push, a1, st, flat_cells f5, flat_tup f5, u1, u2, u3]
    exact ⟨rfl, u4⟩
  by_cases x1 : x = 1
  · simp [x1, load_bk q3, ar]
    refine K_sl91Leaf hR3 (by omega) fun op n v H4 d4 hR4 hS4 => ?_
    have n4 := hS4.1
    have q4 : H4.bk H1.n = some ⟨[vr, vt], true⟩ := hS4.at (by omega) (by omega) q3
    have sm := (leafT_S1 (k := 4) (v := 0) (b := p.rooms.length) (e := ⟨op, n, .nil⟩) d4.ev).ext (Ext.push H4 [.I 4, .I 0, .I p.rooms.length, .I op, .I n, v, .nils, .nils])
    have svm : SV (fun b => H3.n ≤ b) (H4.push [.I 4, .I 0, .I p.rooms.length, .I op, .I n, v, .nils, .nils]) (.sl H4.n 0 1 (.ex 1)) (Sts.of [leafT 4 0 p.rooms.length ⟨op, n, .nil⟩]) :=
      ⟨_, (GrS.new (base := H3.n) (G := H4) (n := 1) (sz := 8) (cs := [.I 4, .I 0, .I p.rooms.length, .I op, .I n, v, .nils, .nils]) (by omega) (by omega) rfl).slc, sm.one⟩
    obtain ⟨G5, hG5⟩ : ∃ G5, G5 = (H4.push [.I 4, .I 0, .I p.rooms.length, .I op, .I n, v, .nils, .nils]).push [.sl H4.n 0 1 (.ex 1)] := ⟨_, rfl⟩
    have hS5 : St r H3 G5 := by rw [hG5]; exact (hS4.push).push
    have n5 : G5.n = H4.n + 2 := by rw [hG5]; rfl
    have l1 : L1 (fun b => H3.n ≤ b ∧ b ≠ H1.n) G5 [.sl H4.n 0 1 (.ex 1)] (Sts.of [leafT 4 0 p.rooms.length ⟨op, n, .nil⟩]) := by
      rw [hG5]; exact ⟨_, rfl, (svm.ext (Ext.push _ _)).mono (Nat.le_refl _) (fun _ _ _ => rfl) (fun b hb _ => ⟨hb, by omega⟩)⟩
    obtain ⟨g', G', B', a1, a2, a3, a4, a5, a6⟩ := LF.snoc3 (E := fun ok H c f => L1 (fun b => ok b ∧ b ≠ H1.n) H c f) (fun h h1 h2 h3 => h.mono h1 (fun b hb => h2 b hb.1) (fun b hb h => ⟨h3 b hb.1 h, hb.2⟩)) gt3 (lf1.imp fun c a h => h.mono (Nat.le_refl _) (fun _ _ _ => rfl) (fun b hb _ => ⟨hb.1, by omega⟩)) (by omega) (by omega) (r := r) (by omega) (by omega) hS5 rfl l1 (by omega)
    have hk : ∀ b, b < G5.n → b ≠ TB ∨ b < lo ∨ H1.n ≤ b → G'.bk b = G5.bk b := fun b hb hb2 => a4.2 b hb (fun hq => by have := hTB b hq; omega)
    have n6 := a4.1
    have q6 : G'.bk H1.n = some ⟨[vr, vt], true⟩ := (hk _ (by omega) (by omega)).trans (hS5.at (by omega) (by omega) q3)
    have st := store_cell (v := g') q6 (o := 1) (by simp)
    simp only [List.set_cons_succ, List.set_cons_zero] at st
    rw [hG5] at a1
    have hB' : B' ≠ H1.n ∧ H.n < B' := by
      rcases a5 with z | z
      · have := hTB _ z.2; omega
      · omega
    obtain ⟨s1, s2⟩ := S1G (G'.put H1.n (some ⟨[vr, g'], true⟩)) (by simp; omega) (fun b c1 c2 c3 c4 c5 => by rw [put_bk, if_neg c2, hk b (by omega) (by omega), hS5.2 b c1 c5])
    have a7 := a2.keep1 (G := G'.put H1.n (some ⟨[vr, g'], true⟩)) (by simp) (fun _ _ => by rw [put_bk, if_neg hB'.1])
    obtain ⟨G1, u1, u2, u3, u4⟩ := fin (G'.put H1.n (some ⟨[vr, g'], true⟩)) vr g' ⟨p.rooms, p.tasks ++ [Sts.of [leafT 4 0 p.rooms.length ⟨op, n, .nil⟩]]⟩ put_same
      (iv3.mono (by simp; omega) (fun b hb hb2 => by rw [put_bk, if_neg (by omega), hk b (by omega) (by omega), hS5.2 b hb2 (by omega)]) (fun b hb _ => by omega))
      ⟨_, a7.ivB (fun _ _ => hB'.2), a3.imp fun c a h => h.mono (by simp) (fun b hb _ => by rw [put_bk, if_neg hb.2]) (fun b hb _ => by omega)⟩
      (fun f hf => by
        rcases List.mem_append.1 hf with z | z
        · exact hct' f z
        · rw [List.mem_singleton.1 z]; simp [Sts.of, ctS, leafT]) (by simp; omega) (by simp only; omega) (((hR4.push.push).same (G' := G') (by rw [hG5] at n6; simpa using n6) (fun b hb => by rw [hk b (by omega) (by omega), hG5]) |>.put (by omega)).up (by omega)) s1 s2
    simp [AM.elems, q4, q3, loadN_push, a1, st, flat_cells a6, flat_tup a6, u1, u2, u3]
    exact u4
  by_cases x2 : x = 2
  · have q4 : (H3.push []).bk H1.n = some ⟨[vr, vt], true⟩ := push_old (by omega) q3
    have st := store_cell (v := .sl H3.n 0 0 (.ex 0)) q4 (o := 1) (by simp)
    simp only [List.set_cons_succ, List.set_cons_zero] at st
    obtain ⟨s1, s2⟩ := S1G ((H3.push []).put H1.n (some ⟨[vr, .sl H3.n 0 0 (.ex 0)], true⟩)) (by simp) (fun b c1 c2 c3 c4 c5 => by rw [put_bk, if_neg c2]; exact push_old c1 rfl)
    have b0 : ((H3.push []).put H1.n (some ⟨[vr, .sl H3.n 0 0 (.ex 0)], true⟩)).bk H3.n = some ⟨[], true⟩ := by rw [put_bk, if_neg (by omega)]; exact push_new
    obtain ⟨G1, u1, u2, u3, u4⟩ := fin ((H3.push []).put H1.n (some ⟨[vr, .sl H3.n 0 0 (.ex 0)], true⟩)) vr (.sl H3.n 0 0 (.ex 0)) ⟨p.rooms, []⟩ put_same
      (iv3.mono (by simp) (fun b hb hb2 => by rw [put_bk, if_neg (by omega)]; exact push_old hb2 rfl) (fun b hb _ => by omega))
      ⟨[], ⟨by simp, rfl, .inr ⟨H3.n, 0, _, rfl, ⟨by omega, by simp [capOk]⟩, by simp, by rw [loadN_bk b0]; rfl⟩⟩, rfl⟩
      (fun f hf => by simp at hf) (by simp) (by simp only; omega) ((hR3.push.put (by omega)).up (by omega)) s1 s2
    simp [x2, st, u1, u2, u3]
    exact u4
  by_cases x3 : x = 3
  · obtain ⟨cap, xs, rfl, b1, b2, b3⟩ := gt3.out (by omega)
    rcases t3 with ⟨e0, _⟩ | ⟨v0, c0, B0, f0, l', cs', e1, rfl, w1, w2, w3, w4, w5⟩
    · rw [e0] at hl; simp at hl
    have hl1 : 0 < p.tasks.length := by omega
    have b4 : (H3.push [v0, v0, v0]).bk TB = _ := push_old b2 b3
    obtain ⟨g', G', B', a1, a2, a3, a4⟩ := (gt3.ext (Ext.push H3 [v0, v0, v0])).app (k := 3) (new := [v0, v0, v0]) (by simp; omega) (by simp) (by omega)
    have n5 := a4.1
    simp only [push_n] at n5 a3
    have hk : ∀ b, b < H3.n → b ≠ TB ∨ b < lo ∨ H1.n ≤ b → G'.bk b = H3.bk b := fun b hb hb2 => (a4.2 b (by simp; omega) (fun hq => by have := hTB b hq; omega)).trans (push_old hb rfl)
    have q5 : G'.bk H1.n = some ⟨[vr, .sl TB 0 p.tasks.length cap], true⟩ := (hk _ (by omega) (by omega)).trans q3
    have st := store_cell (v := g') q5 (o := 1) (by simp)
    simp only [List.set_cons_succ, List.set_cons_zero] at st
    have f5 := a2.flat
    have f0' := w1.flat
    have hB' : B' ≠ H1.n ∧ H.n < B' ∧ (B' = TB ∨ B' = H3.n + 1) := by
      rcases a3 with z | z
      · have := hTB _ z.2; omega
      · omega
    have hTB1 : TB < H1.n := (hTB TB (by simp [grB])).2.2
    obtain ⟨s1, s2⟩ := S1G (G'.put H1.n (some ⟨[vr, g'], true⟩)) (by simp; omega) (fun b c1 c2 c3 c4 c5 => by rw [put_bk, if_neg c2, hk b (by omega) (by omega)])
    have a7 := a2.keep1 (G := G'.put H1.n (some ⟨[vr, g'], true⟩)) (by simp) (fun _ _ => by rw [put_bk, if_neg hB'.1])
    obtain ⟨cc, hcc, l0⟩ := lf1.get (i := 0) (a := f0) (by rw [e1]; rfl)
    have : cc = [v0] := by
      unfold seg at hcc
      rw [if_pos (by simp)] at hcc
      exact (Option.some.inj hcc).symm
    subst this
    have mv : ∀ c a, L1 (fun b => (lo ≤ b ∧ b ≠ TB) ∧ b < H1.n) H3 c a → L1 (fun b => H.n < b) (G'.put H1.n (some ⟨[vr, g'], true⟩)) c a := fun c a h => h.mono (by simp; omega) (fun b hb _ => by rw [put_bk, if_neg (by omega), hk b (by omega) (by omega)]) (fun b hb _ => by omega)
    obtain ⟨G1, u1, u2, u3, u4⟩ := fin (G'.put H1.n (some ⟨[vr, g'], true⟩)) vr g' ⟨p.rooms, p.tasks ++ [f0, f0, f0]⟩ put_same
      (iv3.mono (by simp; omega) (fun b hb hb2 => by rw [put_bk, if_neg (by omega), hk b (by omega) (by omega)]) (fun b hb _ => by omega))
      ⟨_, by simpa using a7.ivB (ok := fun b => H.n < b) (fun _ _ => hB'.2.1), (lf1.imp mv).app ⟨[v0], [v0, v0], rfl, rfl, mv _ _ l0, [v0], [v0], rfl, rfl, mv _ _ l0, [v0], [], rfl, rfl, mv _ _ l0, rfl⟩⟩
      (fun f hf => by
        rcases List.mem_append.1 hf with z | z
        · exact hct' f z
        · have : f = f0 := by simpa using z
          rw [this]; exact hct' f0 (by rw [e1]; simp)) (by simp; omega) (by simp only; omega) (((hR3.push).same (G' := G') (by simpa using n5) (fun b hb => (a4.2 b (by simp; omega) (fun hq => by have := hTB b hq; omega)).trans rfl) |>.put (by omega)).up (by omega)) s1 s2
    simp [AM.elems, x3, load_bk q3, hl1, load_bk b3, flat_cells f0', flat_tup f0', loadN_push, a1, st, flat_cells f5, flat_tup f5, u1, u2, u3]
    exact u4
  by_cases x4 : x = 4
  · obtain ⟨cap, xs, rfl, b1, b2, b3⟩ := g2.out (by omega)
    rcases t0 with ⟨e0, _⟩ | ⟨v0, c0, B0, f0, l', cs', e1, rfl, w1, w2, w3, w4, w5⟩
    · rw [e0] at hl; simp at hl
    have hl1 : 0 < p.tasks.length := by omega
    have hsk : ∀ b, b < H3.n → H3.skip.bk b = H3.bk b := fun b hb => by unfold AH.skip; rw [put_bk, if_neg (by omega)]; exact push_old hb rfl
    obtain ⟨J, hJ⟩ : ∃ J, J = H3.skip := ⟨_, rfl⟩
    have nJ : J.n = H3.n + 1 := by rw [hJ]; rfl
    rw [← hJ] at hsk
    have hJ1 : ∀ b, b < H1.n → b ≠ r → J.bk b = H1.bk b := fun b hb hbr => (hsk b (by omega)).trans (hS13.2 b hb hbr)
    have wJ := w1.keep1 (G := J) (by omega) (fun q1 q2 => hJ1 _ q2 (by omega))
    have hlen := len_ctS (f := f0)
    have hc0 := hct f0 (by rw [e1]; simp)
    obtain ⟨B', cp, ex, F, hF, hB1, hB2, hB3⟩ := wJ.app1 (by omega) (by omega)
    obtain ⟨A1, A2, A3, A4, A5, A6, A7, A8⟩ := hF [.I 0, .I 0, .I 0, .I 0, .I 0, .nils, .nils, .nils] rfl
    obtain ⟨D1, D2, D3, D4, D5, D6, D7, D8⟩ := hF [.I 9, .I 0, .I 0, .I 0, .I 0, .nils, .nils, .nils] rfl
    generalize hF1 : F [.I 0, .I 0, .I 0, .I 0, .I 0, .nils, .nils, .nils] = F1 at *
    generalize hF2 : F [.I 9, .I 0, .I 0, .I 0, .I 0, .nils, .nils, .nils] = F2 at *
    have jH1 : J.bk H1.n = some ⟨[vr, .sl TB 0 p.tasks.length cap], true⟩ := (hsk _ (by omega)).trans q3
    have jTB : J.bk TB = some ⟨v0 :: (cs' ++ xs), true⟩ := (hJ1 _ b2 (by omega)).trans b3
    have fTB1 : F1.bk TB = some ⟨v0 :: (cs' ++ xs), true⟩ := (A7 TB (by omega) (.inl (Ne.symm w2))).trans jTB
    have fTB2 : F2.bk TB = some ⟨v0 :: (cs' ++ xs), true⟩ := (D7 TB (by omega) (.inl (Ne.symm w2))).trans jTB
    have s1 := store_cell (v := .sl B' 0 (f0.list.length + 1) cp) fTB1 (o := 0) (by simp)
    have s2 := store_cell (v := .sl B' 0 (f0.list.length + 1) cp) fTB2 (o := 0) (by simp)
    simp only [List.set_cons_zero] at s1 s2
    have v0l := w1.alen
    have v0f := w1.flat
    have lc0 := w1.2.1
    have hBT : B' ≠ TB := by omega
    have s3 := store_bk (H := F1.put TB (some ⟨.sl B' 0 (f0.list.length + 1) cp :: (cs' ++ xs), true⟩)) (o := f0.list.length * 8) (vs := [.I 9, .I 0, .I 0, .I 0, .I 0, .nils, .nils, .nils]) ((by rw [put_bk, if_neg hBT]; exact A2)) (by simp; omega)
    have e3 : splice (c0 ++ [AV.I 0, .I 0, .I 0, .I 0, .I 0, .nils, .nils, .nils] ++ ex) (f0.list.length * 8) [.I 9, .I 0, .I 0, .I 0, .I 0, .nils, .nils, .nils] = c0 ++ [.I 9, .I 0, .I 0, .I 0, .I 0, .nils, .nils, .nils] ++ ex := by
      unfold splice; rw [← lc0]; simp
    rw [e3] at s3
    have hne : ¬ H1.n = J.n := by omega
    have hne2 : ¬ TB = J.n := by omega
    simp [x4, load_bk q3]
    refine W_alt (e' := [(2, .ptr H.n 0), (3, .ptr H1.n 0)]) (H' := (F2.put TB (some ⟨.sl B' 0 (f0.list.length + 1) cp :: (cs' ++ xs), true⟩)).put J.n none) rfl rfl ?_ ?_ ?_
    · rw [← hJ]
      have hlt : (f0.list.length : Int) < f0.list.length + 1 := by omega
      simp [AM.elems, load_bk jH1, load_bk jTB, hl1, v0l, loadN_push, A1, s1, s3, hlt]
      rw [W_kill (b := J.n) (o := 0) (n := 1) (c := .ex 1) rfl]
      simp
      refine AH.same (by simp; omega) fun b => ?_
      simp only [put_bk]
      by_cases c1 : b = J.n
      · rw [if_pos c1, if_pos c1]
      rw [if_neg c1, if_neg c1]
      by_cases c2 : b = B'
      · rw [if_pos c2, if_neg (by omega), c2, D2]; simp
      rw [if_neg c2]
      by_cases c3 : b = TB
      · rw [if_pos c3, if_pos c3]
      rw [if_neg c3, if_neg c3, A6 b c2 c1, D6 b c2 c1]
    · rw [← hJ]
      have fH1 : F2.bk H1.n = some ⟨[vr, .sl TB 0 p.tasks.length cap], true⟩ := (D7 _ (by omega) (by omega)).trans jH1
      simp [AM.elems, load_bk jH1, load_bk jTB, hl1, v0l, loadN_push, D1, s2, hne, fH1, jH1]
      rw [W_kill (b := J.n) (o := 0) (n := 1) (c := .ex 1) rfl]
      simp
    obtain ⟨G, hG⟩ : ∃ G, G = (F2.put TB (some ⟨.sl B' 0 (f0.list.length + 1) cp :: (cs' ++ xs), true⟩)).put J.n none := ⟨_, rfl⟩
    rw [← hG]
    have nG : G.n = F2.n := by rw [hG]; rfl
    have hGk : ∀ b, b ≠ TB → b ≠ J.n → G.bk b = F2.bk b := fun b c1 c2 => by rw [hG, put_bk, if_neg c2, put_bk, if_neg c1]
    have hG1 : ∀ b, b < H1.n → b ≠ TB → b ≠ B0 ∨ b < lo → b ≠ r → G.bk b = H1.bk b := fun b c1 c2 c3 c4 => by rw [hGk b c2 (by omega), D7 b (by omega) c3, hJ1 b c1 c4]
    have hG3 : ∀ b, b < H3.n → b ≠ TB → b ≠ B0 ∨ b < lo → G.bk b = H3.bk b := fun b c1 c2 c3 => by rw [hGk b c2 (by omega), D7 b (by omega) c3, hsk b c1]
    have gTB : G.bk TB = some ⟨.sl B' 0 (f0.list.length + 1) cp :: (cs' ++ xs), true⟩ := by rw [hG, put_bk, if_neg hne2]; exact put_same
    have gH1 : G.bk H1.n = some ⟨[vr, .sl TB 0 p.tasks.length cap], true⟩ := (hG3 _ (by omega) (by omega) (by omega)).trans q3
    have a7 := D8.keep1 (G := G) (by omega) (fun _ _ => hGk B' (by omega) (by omega))
    have s9 : S1 (fun b => H.n < b) G [.I 9, .I 0, .I 0, .I 0, .I 0, .nils, .nils, .nils] ⟨9, 0, 0, ⟨0, 0, .nil⟩, .nil, .nil⟩ := ⟨.nils, .nils, .nils, rfl, ⟨[], ⟨by simp, rfl, .inl ⟨rfl, .inl rfl⟩⟩, rfl⟩, SV.nil (.inl rfl), SV.nil (.inl rfl)⟩
    have sfn : SF (fun b => H.n < b) G (Sts.of (f0.list ++ [⟨9, 0, 0, ⟨0, 0, .nil⟩, .nil, .nil⟩])) (c0 ++ [.I 9, .I 0, .I 0, .I 0, .I 0, .nils, .nils, .nils]) := by
      have := SF.app (w4.mono (ok' := fun b => H.n < b) (H' := G) (by omega) (fun b hb hb2 => hG1 b hb2 hb.2.1 (.inl hb.2.2) (by omega)) (fun b hb _ => by omega)) s9.one
      rwa [Sts.list_of] at this
    have lenf : (Sts.of (f0.list ++ [⟨9, 0, 0, ⟨0, 0, .nil⟩, .nil, .nil⟩])).list.length = f0.list.length + 1 := by rw [Sts.list_of]; simp
    have svn : SV (fun b => H.n < b) G (.sl B' 0 (f0.list.length + 1) cp) (Sts.of (f0.list ++ [⟨9, 0, 0, ⟨0, 0, .nil⟩, .nil, .nil⟩])) := ⟨_, by rw [lenf]; exact a7.ivB (fun _ _ => by omega), sfn⟩
    have lcs : (v0 :: cs').length = p.tasks.length := by have := g2.2.1; simpa using this
    obtain ⟨z1, z2, ⟨z3, _⟩ | ⟨bb, oo, cc, z4, z5, z6, z7⟩⟩ := g2.slc
    · omega
    simp only [AV.sl.injEq, true_and] at z4
    obtain ⟨rfl, rfl, rfl⟩ := z4
    have ll : p.tasks.length = l'.length + 1 := by rw [e1]; rfl
    have lc : cs'.length + 1 = p.tasks.length := by simpa using lcs
    have k1 : G.bk H.n = some ⟨[.nils, .nils], true⟩ := (hG3 _ (by omega) (by omega) (by omega)).trans qR
    have k2 : St r H G := ⟨by have := S03.1; omega, fun b hb hbr => (hG3 b (by omega) (by omega) (by omega)).trans (S03.2 b hb hbr)⟩
    obtain ⟨G1, u1, u2, u3, u4⟩ := fin G vr _ ⟨p.rooms, Sts.of (f0.list ++ [⟨9, 0, 0, ⟨0, 0, .nil⟩, .nil, .nil⟩]) :: l'⟩ gH1
      (iv3.mono (by omega) (fun b hb hb2 => hG3 b hb2 (by omega) (by omega)) (fun b hb _ => by omega))
      ⟨.sl B' 0 (f0.list.length + 1) cp :: cs', ⟨by simp only [List.length_cons]; omega, by simp only [List.length_cons]; omega, .inr ⟨TB, 0, cap, by rw [e1]; rfl, ⟨by omega, by simp only [List.length_cons]; have := z5.2; rw [e1] at this; exact this⟩, by omega, by
        rw [loadN_bk gTB]
        exact seg_app (cs := .sl B' 0 (f0.list.length + 1) cp :: cs') (ex := xs) (by rw [e1] at lcs; simpa using lcs)⟩⟩,
        [_], cs', rfl, rfl, ⟨_, rfl, svn⟩, w5.imp fun c a h => h.mono (by omega) (fun b hb hb2 => hG1 b hb2 hb.2.1 (.inl hb.2.2) (by omega)) (fun b hb _ => by omega)⟩
      (fun f hf => by
        rcases List.mem_cons.1 hf with z | z
        · rw [z, ctS_of, List.map_append, List.sum_append, ← ctS_sum]; simp [ctT, ctS]; omega
        · exact hct' f (by rw [e1]; exact List.mem_cons_of_mem _ z)) (by simp only [List.length_cons]; omega) (by simp only; omega) ((hR3.same (by omega) (fun b hb => hG3 b (by omega) (by omega) (by omega))).up (by omega)) k1 k2
    simp [u1, u2, u3]
    exact u4
  obtain ⟨G1, u1, u2, u3, u4⟩ := fin H3 vr vt p q3 (iv3.mono (Nat.le_refl _) (fun _ _ _ => rfl) (fun b hb _ => by omega)) (lv3.mono (Nat.le_refl _) (fun _ _ _ => rfl) (fun b hb _ => by omega)) hct' (by omega) (by omega) (hR3.up (by omega)) qR S03
  simp [x0, x1, x2, x3, x4, u1, u2, u3]
  exact u4
end
end Go.Proofs.YtmecbehegmgbhaaGreat.AM
namespace Go.Proofs.YtmecbehegmgbhaaGreat.AM
set_option linter.unusedSimpArgs false
set_option linter.unusedVariables false
set_option maxRecDepth 100000
set_option maxHeartbeats 2000000
open Go
attribute [-simp] AM.elems
theorem vaF_eq {many : Int} (hm : many ≤ 3) {f : Sts} : vaS many f = vaF many f := by
  unfold vaF vaS
  cases h3 : okS 3 3 f with
  | false =>
    cases hm' : okS many 3 f with
    | false => rfl
    | true => have := okS_boxes hm hm'; rw [h3] at this; cases this
  | true =>
    have := ok_bx hm h3
    cases h4 : okS many 3 f with
    | false =>
      rw [h4] at this
      cases h5 : bxS many f with
      | false => simp
      | true => rw [h5] at this; simp at this
    | true => rw [this.1 h4]; simp
section
variable {H : AH} {K : AV → AH → Prop} {w : Fk K}
end
end Go.Proofs.YtmecbehegmgbhaaGreat.AM
namespace Go.Proofs.YtmecbehegmgbhaaGreat.AM
set_option linter.unusedSimpArgs false
set_option linter.unusedVariables false
set_option maxRecDepth 100000
set_option maxHeartbeats 2000000
open Go
attribute [-simp] AM.elems
end Go.Proofs.YtmecbehegmgbhaaGreat.AM
namespace Go.Proofs.YtmecbehegmgbhaaGreat.AM
set_option linter.unusedSimpArgs false
set_option linter.unusedVariables false
set_option maxRecDepth 100000
set_option maxHeartbeats 2000000
open Go
attribute [-simp] AM.elems
theorem newW_bo {p : Pg} (hv : vaPg p = true) : vaWd (newW p) = true ∧ boW (newW p) 850000 ∧ (newW p).boxes.length ≤ 3 := by
  obtain ⟨h1, h2⟩ := newW_ok hv
  have hv' := hv
  unfold vaPg vaRm at hv'
  simp only [Bool.and_eq_true, decide_eq_true_eq, List.all_eq_true] at hv'
  refine ⟨h1, ⟨fun t ht => ⟨?_, by have := h2 t ht; omega⟩, by simp [newW]⟩, by simp [newW]; omega⟩
  simp only [newW, List.mem_map] at ht
  obtain ⟨f, hf, rfl⟩ := ht
  have := hv'.2 f hf
  unfold vaF vaS at this
  simp only [Bool.and_eq_true, decide_eq_true_eq] at this
  simp only; omega
section
variable {H : AH} {K : AV → AH → Prop} {w : Fk K}
end
end Go.Proofs.YtmecbehegmgbhaaGreat.AM
namespace Go.Proofs.YtmecbehegmgbhaaGreat.AM
set_option linter.unusedSimpArgs false
set_option linter.unusedVariables false
set_option maxRecDepth 100000
set_option maxHeartbeats 2000000
open Go
attribute [-simp] AM.elems
/-- A slice of events. -/
def EvV (ok : Nat → Prop) (H : AH) (v : AV) (l : List Evt) : Prop := SlC ok H v l.length 4 (evCs l)
theorem EvV.mono {ok ok' : Nat → Prop} {H H' v l} (h : EvV ok H v l) (hn : H.n ≤ H'.n) (hk : ∀ b, ok b → b < H.n → H'.bk b = H.bk b) (ho : ∀ b, ok b → b < H.n → ok' b) : EvV ok' H' v l := SlC.mono h hn hk ho
theorem EvV.ext {ok H H' v l} (h : EvV ok H v l) (k : Ext H H') : EvV ok H' v l := h.mono k.1 (fun b _ hb => k.2 b hb) (fun _ h _ => h)
theorem EvV.alen {ok H v l} (h : EvV ok H v l) : alen v = some l.length := SlC.alen h
theorem EvV.flat {ok H v l} (h : EvV ok H v l) : v.flat = true := SlC.flat h
theorem EvV.big {ok H v l} (h : EvV ok H v l) : l.length ≤ 8589934592 := h.1
theorem EvV.nil {ok H} : EvV ok H .nils [] := ⟨by simp, rfl, .inl ⟨rfl, .inl rfl⟩⟩
theorem EvV.emp {ok : Nat → Prop} {H : AH} {b : Nat} (h : H.bk b = some ⟨[], true⟩) (hb : b < H.n) (ho : ok b) : EvV ok H (.sl b 0 0 (.ex 0)) [] :=
  ⟨by simp, rfl, .inr ⟨b, 0, _, rfl, ⟨ho, by simp [capOk]⟩, hb, by rw [loadN_bk h]; rfl⟩⟩
theorem seg_evCs : ∀ {l : List Evt} {i : Nat} {e : Evt}, l[i]? = some e → seg (evCs l) (i * 4) 4 = some (evC e)
  | [], i, e, h => by simp at h
  | x :: l, 0, e, h => by
    simp at h; subst h
    unfold seg
    rw [if_pos (by rw [evCs_len]; simp; omega)]
    simp [evCs, evC]
  | x :: l, i + 1, e, h => by
    have := seg_evCs (l := l) (i := i) (e := e) (by simpa using h)
    rw [← this]
    have e1 : evCs (x :: l) = evC x ++ evCs l := by simp [evCs]
    have e2 : (i + 1) * 4 = (evC x).length + i * 4 := by simp [evC]; omega
    unfold seg
    rw [e1, e2, ← List.drop_drop, List.drop_left]
    simp only [List.length_append]
    by_cases hq : i * 4 + 4 ≤ (evCs l).length
    · rw [if_pos (by omega), if_pos hq]
    · rw [if_neg (by omega), if_neg hq]
theorem EvV.at {ok H v l} (h : EvV ok H v l) {i : Nat} {e : Evt} (hi : l[i]? = some e) : ∃ b o cap, v = .sl b o l.length cap ∧ b < H.n ∧ H.loadN b (o + i * 4) 4 = some (evC e) := by
  have hl := (List.getElem?_eq_some_iff.1 hi).1
  obtain ⟨b, o, cap, e1, ob, hb, hs⟩ := SlC.at h hl
  exact ⟨b, o, cap, e1, hb, by rw [hs _ _ (by omega)]; exact seg_evCs hi⟩
def trF (n : Int) (w : Wd) : List Evt × Bool := if vaWd w = true ∧ 0 ≤ n ∧ n ≤ 100000 then (trW n.toNat w, true) else ([], false)
theorem trW_len : ∀ (n : Nat) (w : Wd), (trW n w).length ≤ n
  | 0, w => by simp [trW]
  | n + 1, w => by
    unfold trW
    split
    · have := trW_len n (stepW w)
      have e : (evW w).length ≤ 1 := by
        unfold evW evL
        split
        · simp
        · split <;> simp
      rw [List.length_append]; omega
    · simp
section
variable {ok : Nat → Prop} {H : AH} {K : AV → AH → Prop} {wf : Fk K} {c : List AV} {w : Wd} {n : Int}
theorem K_iWorldTrace (h : WC ok H c w) (hct : ∀ t ∈ w.tasks, ctS t.rest ≤ 100000) (hbl : w.boxes.length ≤ 100) (hbo : n ≤ 100000 → boW w n.toNat) (hol : w.out.length ≤ 700000)
    (k : ∀ v' H', EvV (fun b => H.n ≤ b) H' v' (trF n w).1 → Ext H H' → K (.tup [v', .b (trF n w).2]) H') : CallF Cd f_iWorldTrace [.agg c, .I n] H K wf := by
  have h' := h
  obtain ⟨vt, vb, vo, rfl, h1, h2, h3⟩ := h'
  rw [CallF_eq e_iWorldTrace rfl]
  have x0 := Ext.push H [vt, vb, .I w.turn, .I w.idle, vo]
  have q0 : (H.push [vt, vb, .I w.turn, .I w.idle, vo]).bk H.n = some ⟨[vt, vb, .I w.turn, .I w.idle, vo], true⟩ := push_new
  simp [loadN_bk q0]
  refine K_iWorldValid (h.ext x0) hct hbl fun H1 x1 => ?_
  have n1 := x1.1
  simp only [push_n] at n1
  have y1 := x0.trans x1
  have q1 := (x1.2 H.n (by simp <;> omega)).trans q0
  have bad : ¬ (vaWd w = true ∧ 0 ≤ n ∧ n ≤ 100000) → K (.tup [.nils, .b false]) H1 := fun hb => by
    have e : trF n w = ([], false) := by unfold trF; rw [if_neg hb]
    rw [e] at k
    exact k .nils _ EvV.nil y1
  cases hv : vaWd w with
  | false =>
    simp
    exact bad (by rw [hv]; simp)
  | true =>
  by_cases hn0 : n < 0
  · simp [hn0]
    exact bad (fun hh => by omega)
  by_cases hn1 : 100000 < n
  · simp [hn0, hn1]
    exact bad (fun hh => by omega)
  have hF : trF n w = (trW n.toNat w, true) := by unfold trF; rw [if_pos ⟨hv, by omega, by omega⟩]
  rw [hF] at k
  have hbo := hbo (by omega)
  have en : n = (n.toNat : Int) := by omega
  have x2 := Ext.push H1 [.nils]
  have q2 := (x2.2 H.n (by omega)).trans q1
  have hw2 : WC (fun b => b < H1.n) (H1.push [.nils]) [vt, vb, .I w.turn, .I w.idle, vo] w := (h.ext y1).mono x2.1 (fun b _ hb => x2.2 b hb) (fun b _ hb => hb)
  simp [hn0, hn1, loadN_bk q2]
  have := K_irunWorld (K := ?_) (wf := ?_) (n := n.toNat) (some H1.n) hw2 (fun b hb => by simp [trBk]; omega) hv hbo (by omega) (by omega) ⟨by simp, push_new⟩ ?_
  · rw [← en] at this
    exact this
  · intro c' H2 wc o2 t2
    obtain ⟨ve, OE, t3, t4⟩ := t2
    have n2 := o2.1
    simp only [push_n] at n2 t4
    simp [load_bk t3]
    refine k ve _ (t4.ivB (fun hb _ => by omega)) ⟨by omega, fun b hb => ?_⟩
    rw [o2.2 b (by simp; omega) (by simp [trBk]; omega), x2.2 b (by omega)]
    exact y1.2 b hb
end
end Go.Proofs.YtmecbehegmgbhaaGreat.AM
namespace Go.Proofs.YtmecbehegmgbhaaGreat.AM
set_option linter.unusedSimpArgs false
set_option linter.unusedVariables false
set_option maxRecDepth 100000
set_option maxHeartbeats 2000000
open Go
attribute [-simp] AM.elems
theorem evC_one {base : Nat} {G : AH} {a b c d : Int} (hb : base ≤ G.n) : EvV (fun x => base ≤ x) (G.push [.I a, .I b, .I c, .I d]) (.sl G.n 0 1 (.ex 1)) [(a, b, c, d)] := by
  refine ⟨by simp, rfl, .inr ⟨G.n, 0, _, rfl, ⟨hb, by simp [capOk]⟩, by simp, ?_⟩⟩
  rw [loadN_bk push_new]; rfl
section
variable {ok : Nat → Prop} {H : AH} {K : AV → AH → Prop} {wf : Fk K} {c : List AV} {w : Wd}
theorem K_sl17Event (h : WC ok H c w) (hw : smW w) (k : ∀ v' H', EvV (fun b => H.n ≤ b) H' v' (evW w) → Ext H H' → v'.flat = true → K v' H') : CallF Cd f_sl17Event [.agg c] H K wf := by
  have h' := h
  obtain ⟨vt, vb, vo, rfl, h1, h2, h3⟩ := h'
  rw [CallF_eq e_sl17Event rfl]
  obtain ⟨g1, g2, g3, g4⟩ := vaWd_iff.1 hw.1
  have x0 := Ext.push H [vt, vb, .I w.turn, .I w.idle, vo]
  have q0 : (H.push [vt, vb, .I w.turn, .I w.idle, vo]).bk H.n = some ⟨[vt, vb, .I w.turn, .I w.idle, vo], true⟩ := push_new
  obtain ⟨t, ht⟩ : ∃ t, w.tasks[w.turn.toNat]? = some t := ⟨_, List.getElem?_eq_getElem (by omega)⟩
  obtain ⟨b, o, cap, vv, vr, e1, ob, hbn, l1, i1, s1⟩ := (h1.ext x0).at ht
  have ht0 : 0 ≤ w.turn := by omega
  have hlt : w.turn < w.tasks.length := by omega
  have hm := List.mem_of_getElem? ht
  obtain ⟨m1, m2, m3, m4, m5⟩ := hw.task hm
  have hst : stepF t w.boxes = stepP t w.boxes := by
    unfold stepF stOk
    rw [m1, g3, rd_of_va (g4 t hm)]; rfl
  have hev : evW w = evL w.turn (evS t w.boxes) := by
    unfold evW; rw [ht]
  have k0 := k
  subst e1
  simp (disch := omega) [load_bk q0, ht0, hlt, l1, store_push2e, loadN_push]
  have x1 := x0.trans (Ext.push _ [vv, vr])
  have q1 : ((H.push [.sl b o w.tasks.length cap, vb, .I w.turn, .I w.idle, vo]).push [vv, vr]).bk H.n = some ⟨[.sl b o w.tasks.length cap, vb, .I w.turn, .I w.idle, vo], true⟩ := push_old (by simp) q0
  have st := store_push2e (H := H.push [.sl b o w.tasks.length cap, vb, .I w.turn, .I w.idle, vo]) (a := .nils) (b := .nils) (x := vv) (y := vr)
  have p1 : ((H.push [.sl b o w.tasks.length cap, vb, .I w.turn, .I w.idle, vo]).push [vv, vr]).bk (H.n + 1) = some ⟨[vv, vr], true⟩ := push_new (H := H.push [.sl b o w.tasks.length cap, vb, .I w.turn, .I w.idle, vo])
  simp only [push_n] at st
  simp [st, load_bk q1, loadN_bk p1]
  refine K_sTaskStep (ok := fun _ => True) ⟨vv, vr, rfl, (i1.ext (Ext.push _ _)).mono (Nat.le_refl _) (fun _ _ _ => rfl) (fun _ _ _ => trivial), (s1.ext (Ext.push _ _)).mono (Nat.le_refl _) (fun _ _ _ => rfl) (fun _ _ _ => trivial)⟩ ((h2.ext x1).mono (Nat.le_refl _) (fun _ _ _ => rfl) (fun _ _ _ => trivial)) (by omega) fun c' v' p' H2 tc bv iv x2 fv fp => ?_
  rw [hst] at tc bv iv ⊢
  obtain ⟨d1, d2, rfl, _, _⟩ := tc
  have n2 := x2.1
  simp only [push_n] at n2
  have x3 := Ext.push H2 [d1, d2]
  have y3 := (x1.trans x2).trans x3
  have q3 : (H2.push [d1, d2]).bk H.n = some ⟨[.sl b o w.tasks.length cap, vb, .I w.turn, .I w.idle, vo], true⟩ := (x3.2 _ (by omega)).trans ((x2.2 _ (by simp <;> omega)).trans q1)
  have p3 : (H2.push [d1, d2]).bk (H.n + 1) = some ⟨[vv, vr], true⟩ := (x3.2 _ (by omega)).trans ((x2.2 _ (by simp)).trans p1)
  have none : ∀ G, Ext H G → evS t w.boxes = none → K (.sl G.n 0 0 (.ex 0)) (G.push []) := fun G xg he => by
    refine k _ _ ?_ (xg.trans (Ext.push _ _)) rfl
    rw [hev, he]
    exact EvV.emp push_new (by simp) (by have := xg.1; omega)
  simp [store_push2e]
  by_cases hc : (stepP t w.boxes).2.2.2 = 1
  case neg =>
    simp [hc]
    refine none _ y3 ?_
    unfold stepP at hc
    unfold evS
    cases hr : t.rest.list with
    | nil => rfl
    | cons s r =>
      rw [hr] at hc
      simp only at hc ⊢
      by_cases k4 : s.k = 4
      · rw [if_pos (.inl k4)] at hc
        rw [if_pos k4]
        simp only [talkP] at hc
        cases hb : w.boxes[s.b.toNat]? with
        | none => rfl
        | some bx =>
          rw [hb] at hc
          simp only [k4, if_true] at hc ⊢
          split
          · rename_i hq; rw [if_pos hq] at hc; simp at hc
          · rfl
      by_cases k5 : s.k = 5
      · rw [if_pos (.inr k5)] at hc
        rw [if_neg k4, if_pos k5]
        simp only [talkP] at hc
        cases hb : w.boxes[s.b.toNat]? with
        | none => rfl
        | some bx =>
          rw [hb] at hc
          simp only [k4, if_false] at hc ⊢
          cases hi : bx.items with
          | nil => rfl
          | cons y q => rw [hi] at hc; simp at hc
      rw [if_neg (by omega)] at hc
      rw [if_neg k4, if_neg k5]
      by_cases k7 : s.k = 7
      · simp [k7] at hc
      · rw [if_neg k7]
  simp [hc]
  obtain ⟨s, r, hr⟩ : ∃ s r, t.rest.list = s :: r := by
    cases hr : t.rest.list with
    | nil => unfold stepP at hc; rw [hr] at hc; simp at hc
    | cons s r => exact ⟨s, r, rfl⟩
  obtain ⟨b2, o2, cap2, cs2, e2, _, b2n, l2, va, vy, vz, rfl, ea, ey, ez⟩ := s1.at (i := 0) (s := s) (by rw [hr]; rfl)
  rw [hr, List.length_cons] at e2
  subst e2
  have l3 : (H2.push [d1, d2]).loadN b2 o2 8 = some [.I s.k, .I s.v, .I s.b, .I s.e.op, .I s.e.n, va, vy, vz] := by
    have := loadN_extE l2 ((((Ext.push _ [vv, .sl b2 o2 (r.length + 1) cap2]).trans x2).trans x3)) b2n
    simpa using this
  have x4 := Ext.push (H2.push [d1, d2]) [.I s.k, .I s.v, .I s.b, .I s.e.op, .I s.e.n, va, vy, vz]
  have y4 := y3.trans x4
  have q4 := (x4.2 H.n (by simp; omega)).trans q3
  have p4 := (x4.2 (H.n + 1) (by simp; omega)).trans p3
  have q5 : ((H2.push [d1, d2]).push [.I s.k, .I s.v, .I s.b, .I s.e.op, .I s.e.n, va, vy, vz]).bk (H2.n + 1) = some ⟨[.I s.k, .I s.v, .I s.b, .I s.e.op, .I s.e.n, va, vy, vz], true⟩ := push_new (H := H2.push [d1, d2])
  have w5 : ((H2.push [d1, d2]).push [.I s.k, .I s.v, .I s.b, .I s.e.op, .I s.e.n, va, vy, vz]).loadN (H2.n + 1) 3 3 = some [.I s.e.op, .I s.e.n, va] := by rw [loadN_bk q5]; rfl
  have st8 := store_push8' (H := H2.push [d1, d2]) (l := [.I s.k, .I s.v, .I s.b, .I s.e.op, .I s.e.n, va, vy, vz]) rfl
  simp only [push_n] at st8
  have hL : (0 : Int) < (r.length : Int) + 1 := by omega
  obtain ⟨f1, f2, f3, f4⟩ := vaT_facts m1
  have hva := (vaT_iff.1 m1).2.2 s (by rw [hr]; exact List.mem_cons_self)
  obtain ⟨hok, _⟩ := vaS_one hva
  obtain ⟨hk17, hoe, _, hbb, _⟩ := okT_facts hok
  obtain ⟨G, hG⟩ : ∃ G, G = (H2.push [d1, d2]).push [.I s.k, .I s.v, .I s.b, .I s.e.op, .I s.e.n, va, vy, vz] := ⟨_, rfl⟩
  have nG : G.n = H2.n + 2 := by rw [hG]; rfl
  simp (disch := omega) [load_bk p3, hL, l3, st8]
  rw [← hG] at y4 q4 p4 q5 w5 x4 ⊢
  have i4 := ((((i1.ext (Ext.push _ [vv, .sl b2 o2 (r.length + 1) cap2])).ext x2).ext x3).ext x4)
  have ea4 := ((((ea.ext (Ext.push _ [vv, .sl b2 o2 (r.length + 1) cap2])).ext x2).ext x3).ext x4)
  have evv : ∀ (G' : AH) (a b c d : Int), Ext G G' → evS t w.boxes = some (b, c, d) → a = w.turn → K (.sl G'.n 0 1 (.ex 1)) (G'.push [.I a, .I b, .I c, .I d]) := fun G' a b c d xg he ha => by
    have y := y4.trans xg
    refine k _ _ ?_ (y.trans (Ext.push _ _)) rfl
    rw [hev, he, ha]
    exact evC_one y.1
  simp [load_bk q5]
  by_cases k4 : s.k = 4
  · obtain ⟨bx, hbx, hroom⟩ : ∃ bx, w.boxes[s.b.toNat]? = some bx ∧ bx.items.length < bx.room := by
      unfold stepP at hc
      rw [hr] at hc
      simp only at hc
      rw [if_pos (.inl k4)] at hc
      simp only [talkP] at hc
      cases hb : w.boxes[s.b.toNat]? with
      | none => rw [hb] at hc; simp at hc
      | some bx =>
        rw [hb] at hc
        simp only [k4, if_true] at hc
        split at hc
        · rename_i hq; exact ⟨bx, rfl, hq⟩
        · simp at hc
    have he : evS t w.boxes = some (1, s.b, evE t.vars s.e) := by
      unfold evS; rw [hr]; simp only; rw [if_pos k4, hbx]; simp only; rw [if_pos hroom]
    simp [k4, load_bk q4, load_bk q5, w5, load_bk p4]
    refine K_sl4Eval s.e.args (d := 5) ea4 i4.sees f1 f2 (hoe (by omega) (by omega)) fun H7 x8 => ?_
    simp [x8]
    exact evv H7 _ _ _ _ x8 he rfl
  by_cases k5 : s.k = 5
  · obtain ⟨bx, y, q, hbx, hit⟩ : ∃ bx y q, w.boxes[s.b.toNat]? = some bx ∧ bx.items = y :: q := by
      unfold stepP at hc
      rw [hr] at hc
      simp only at hc
      rw [if_pos (.inr k5)] at hc
      simp only [talkP] at hc
      cases hb : w.boxes[s.b.toNat]? with
      | none => rw [hb] at hc; simp at hc
      | some bx =>
        rw [hb] at hc
        simp only [k4, if_false] at hc
        cases hi : bx.items with
        | nil => rw [hi] at hc; simp at hc
        | cons y q => exact ⟨bx, y, q, rfl, hi⟩
    have he : evS t w.boxes = some (2, s.b, y) := by
      unfold evS; rw [hr]; simp only; rw [if_neg k4, if_pos k5, hbx]; simp only; rw [hit]
    have hbl := (List.getElem?_eq_some_iff.1 hbx).1
    obtain ⟨b6, o6, cap6, vi, e6, _, b6n, l6, iv6⟩ := (h2.ext y4).at hbx
    subst e6
    obtain ⟨b7, o7, s7, b7n, l7⟩ := iv6.sees.at (i := 0) (by rw [hit]; simp)
    have l7' : G.load b7 o7 = some (.I y) := by simpa [hit] using l7
    have l6' := loadN_get l6 (i := 1) (by omega)
    have hb0 : 0 ≤ s.b := (hbb (.inr k5)).1
    have hb1 : s.b < (w.boxes.length : Int) := by omega
    have hil : (0 : Int) < (q.length : Int) + 1 := by omega
    rw [hit] at s7
    simp [k4, k5, load_bk q4, load_bk q5, hb0, hb1, l6', s7, hil, l7']
    exact evv G _ _ _ _ (Ext.refl _) he rfl
  by_cases k7 : s.k = 7
  · have hp : (stepP t w.boxes).2.2.1 = [evE t.vars s.e] := by
      unfold stepP; rw [hr]; simp only; rw [if_neg (by omega), if_neg (by omega), if_neg (by omega), if_neg (by omega)]
    have he : evS t w.boxes = some (3, 0, evE t.vars s.e) := by
      unfold evS; rw [hr]; simp only; rw [if_neg k4, if_neg k5, if_pos k7]
    have ivG := (iv.ext x3).ext x4
    rw [hp] at ivG
    obtain ⟨b7, o7, s7, b7n, l7⟩ := ivG.sees.at (i := 0) (by simp)
    have l7' : G.load b7 o7 = some (.I (evE t.vars s.e)) := by simpa using l7
    simp [k4, k5, k7, load_bk q4, s7, l7']
    exact evv G _ _ _ _ (Ext.refl _) he rfl
  · simp [k4, k5, k7]
    refine none _ y4 ?_
    unfold evS; rw [hr]; simp only; rw [if_neg k4, if_neg k5, if_neg k7]
end
theorem T_wsameEvents_l {o1 o2 : Nat → Prop} {H : AH} {va vb : AV} {l : List Evt} {Q : Out → Env → AH → Prop} (h1 : EvV o1 H va l) (h2 : EvV o2 H vb l) (hQ : ∀ e, Q (.brk 0) e H) (m i : Nat) (hm : i + m = l.length) :
    W Cd (.loop c_wsameEvents_l0) [(0, va), (1, vb), (5, .I i)] H Q := by
  have hbig := h1.big
  induction m generalizing i with
  | zero =>
    rw [W_loop_as c_wsameEvents_l0.eq_1]
    have : i = l.length := by omega
    subst this
    simp [h1.alen]
    exact hQ _
  | succ m ih =>
    rw [W_loop_as c_wsameEvents_l0.eq_1]
    have hlt : i < l.length := by omega
    have hlt' : (i : Int) < l.length := by omega
    obtain ⟨e, he⟩ : ∃ e, l[i]? = some e := ⟨_, List.getElem?_eq_getElem hlt⟩
    obtain ⟨b, o, cap, e1, hb, l1⟩ := h1.at he
    obtain ⟨b2, o2, cap2, e2, hb2, l2⟩ := h2.at he
    have := ih (i + 1) (by omega)
    subst e1 e2
    simp (disch := omega) [hlt', l1, l2, evC]
    simpa using this
theorem T_wsameEvents {o1 o2 : Nat → Prop} {H : AH} {K : AV → AH → Prop} {w : Fk K} {va vb : AV} {l : List Evt} (h1 : EvV o1 H va l) (h2 : EvV o2 H vb l) (k : K (.b true) H) : CallF Cd f_wsameEvents [va, vb] H K w := by
  rw [CallF_eq e_wsameEvents rfl]
  simp [h1.alen, h2.alen]
  have := T_wsameEvents_l h1 h2 (Q := ?_) ?_ l.length 0 (by omega)
  · simpa using this
  · intro e; simpa using k
end Go.Proofs.YtmecbehegmgbhaaGreat.AM
namespace Go.Proofs.YtmecbehegmgbhaaGreat.AM
set_option linter.unusedSimpArgs false
set_option linter.unusedVariables false
set_option maxRecDepth 100000
set_option maxHeartbeats 2000000
open Go
attribute [-simp] AM.elems
theorem EvV.elems {ok H v l} (h : EvV ok H v l) : AM.elems H 4 v = some (evCs l) := SlC.elems h
/-- Events behind those of a slice that grows. -/
theorem app_evs {base B : Nat} {G G1 : AH} {g v : AV} {evs l : List Evt} {o : Nat → Prop} (hg : GrS base G g evs.length 4 (evCs evs) B) (x1 : Ext G G1) (hv : EvV o G1 v l) (hb : base ≤ G.n) (hl : evs.length + l.length ≤ 1000000) :
    ∃ g' G' B', aapp G1 4 g l.length (evCs l) = some (g', G') ∧ GrS base G' g' (evs ++ l).length 4 (evCs (evs ++ l)) B' ∧ Only (grB g B) G1 G' ∧ ((B' = B ∧ B ∈ grB g B) ∨ B' = G1.n) ∧ g'.flat = true := by
  obtain ⟨g', G', B', a1, a2, a3, a4⟩ := (hg.ext x1).app (k := l.length) (new := evCs l) (by have := x1.1; omega) evCs_len hl
  exact ⟨g', G', B', a1, by rw [List.length_append, evCs_app]; exact a2, a4, a3, a2.flat⟩
theorem K_sWorldTrace_l {P7 b0 base : Nat} (hb7 : base ≤ P7) (h0b : 0 < base) (h0 : 0 < b0) {n : Int} (hn : n ≤ 100000) {Q : Out → Env → AH → Prop} (m : Nat) : ∀ {i : Nat} (hi : (i + m : Int) = n) {G : AH} {c : List AV} {w : Wd} {evs : List Evt} {g : AV} {B : Nat} (hw : vaWd w = true) (hbo : boW w m) (h7 : P7 < G.n) (g7 : G.bk P7 = some ⟨c, true⟩) (h : WX (fun b => b0 ≤ b ∧ b ≠ P7 ∧ b ≠ B) G c w) (hb0 : b0 ≤ P7)
    (hg : GrS base G g evs.length 4 (evCs evs) B) (hB : B ≠ P7) (hl : evs.length + m ≤ 200000)
    (hQ : ∀ e G' g' B', GrS base G' g' (evs ++ trW m w).length 4 (evCs (evs ++ trW m w)) B' → (∀ b, b < base → G'.bk b = G.bk b) → G.n ≤ G'.n → get e 6 = some g' → Q (.brk 0) e G'),
    W Cd (.loop c_sWorldTrace_l0) [(1, .I n), (6, g), (7, .ptr P7 0), (8, .I i)] G Q := by
  induction m with
  | zero =>
    intro i hi G c w evs g B hw hbo h7 g7 h hb0 hg hB hl hQ
    rw [W_loop_as c_sWorldTrace_l0.eq_1]
    have hlt : ¬ (i : Int) < n := by omega
    simp [hlt]
    exact hQ _ G g B (by simpa [trW] using hg) (fun _ _ => rfl) (Nat.le_refl _) rfl
  | succ m ih =>
    intro i hi G c w evs g B hw hbo h7 g7 h hb0 hg hB hl hQ
    rw [W_loop_as c_sWorldTrace_l0.eq_1]
    have hlt : (i : Int) < n := by omega
    have h' := h
    have h' := h'.wc
    obtain ⟨vt, vb, vo, rfl, h1, h2, h3⟩ := h'
    have hbig := h1.big
    by_cases hidle : w.idle < (w.tasks.length : Int)
    case neg =>
      simp [hlt, load_bk g7, h1.alen, hidle]
      have e : trW (m + 1) w = [] := by unfold trW; rw [if_neg hidle]
      rw [e] at hQ
      exact hQ _ G _ B (by simpa using hg) (fun _ _ => rfl) (Nat.le_refl _) rfl
    have e : trW (m + 1) w = evW w ++ trW m (stepW w) := by
      conv => lhs; unfold trW
      rw [if_pos hidle]
    rw [e, ← List.append_assoc] at hQ
    simp [hlt, load_bk g7, h1.alen, hidle, loadN_bk g7]
    refine K_sl17Event h.wc (hbo.sm hw) fun v' H1 ev x1 fv => ?_
    have n1 := x1.1
    have hle : (evW w).length ≤ 1 := by
      unfold evW evL
      split
      · simp
      · split <;> simp
    obtain ⟨g', G', B', a1, a2, a3, a4, a5⟩ := app_evs hg x1 ev (by omega) (by omega)
    have hgm : ∀ b, b ∈ grB g B → b = B ∧ base ≤ B ∧ B < G.n := fun b hb => hg.mem hb
    have n2 := a3.1
    have kk : ∀ b, b < G.n → b ≠ B ∨ b < base → G'.bk b = G.bk b := fun b hb hb2 => (a3.2 b (by omega) (fun hq => by have := hgm b hq; omega)).trans (x1.2 b hb)
    have g7' : G'.bk P7 = some ⟨[vt, vb, .I w.turn, .I w.idle, vo], true⟩ := (kk P7 h7 (.inl (Ne.symm hB))).trans g7
    obtain ⟨B2, gn, hB2'⟩ := a2.name (Nat.le_refl _) h0b (by omega)
    have hB2 : B2 ≠ P7 ∧ ((B2 = B) ∨ G.n ≤ B2 ∨ B2 = 0) ∧ B2 < G'.n := by
      rcases hB2' with z | z
      · rcases a4 with q | q
        · exact ⟨by rw [z.1, q.1]; exact hB, .inl (by rw [z.1, q.1]), z.2.2⟩
        · exact ⟨by omega, .inr (by omega), z.2.2⟩
      · exact ⟨by omega, .inr (.inr z.1), by omega⟩
    have wx2 : WX (fun b => b0 ≤ b ∧ b ≠ P7 ∧ b ≠ B2) G' [vt, vb, .I w.turn, .I w.idle, vo] w := h.mono (by omega) (fun b hb hbn => kk b hbn (.inl hb.2.2)) (fun b hb hbn => ⟨hb.1, hb.2.1, by omega⟩)
    simp [ev.elems, ev.alen, x1, a1, loadN_bk g7']
    refine K_sl16Step wx2.wc (hbo.sm hw) hidle fun c' H3 wc x3 => ?_
    have hwc := wc.wc
    obtain ⟨vt', vb', vo', rfl, k1, k2, k3⟩ := hwc
    have n3 := x3.1
    have q7 := (x3.2 _ (by omega)).trans g7'
    have st := store_five q7 (l := [vt', vb', .I (stepW w).turn, .I (stepW w).idle, vo']) rfl rfl
    simp (disch := omega) [st]
    have hk : ∀ b, b ≠ P7 → (H3.put P7 (some ⟨[vt', vb', .I (stepW w).turn, .I (stepW w).idle, vo'], true⟩)).bk b = H3.bk b := fun b hb => by rw [put_bk, if_neg hb]
    have o3 : Only [P7] H3 (H3.put P7 (some ⟨[vt', vb', .I (stepW w).turn, .I (stepW w).idle, vo'], true⟩)) := Only.refl.put (by simp)
    have := ih (i := i + 1) (by push_cast; omega) (G := H3.put P7 (some ⟨[vt', vb', .I (stepW w).turn, .I (stepW w).idle, vo'], true⟩)) (evs := evs ++ evW w) (g := g') (B := B2) (stepW_keeps hw hidle).1 (hbo.step hw hidle) (by simp; omega) put_same
      (wc.mono (by simp) (fun b hb _ => hk b (by omega)) (fun b hb _ => by omega)) hb0
      ((gn.ext x3).only o3 (fun b hb => .inr (by simp at hb; omega))) hB2.1 (by rw [List.length_append]; omega)
      (fun e G2 g2 c2 z1 z2 z3 z4 => hQ e G2 g2 c2 z1 (fun b hb => by rw [z2 b hb, hk b (by omega), x3.2 b (by omega), kk b (by omega) (.inr hb)]) (by simp at z3; omega) z4)
    simpa using this
section
variable {ok : Nat → Prop} {H : AH} {K : AV → AH → Prop} {wf : Fk K} {c : List AV} {w : Wd} {n : Int}
theorem K_sWorldTrace (h : WC ok H c w) (hct : ∀ t ∈ w.tasks, ctS t.rest ≤ 100000) (hbo : n ≤ 100000 → boW w n.toNat)
    (k : ∀ v' H', EvV (fun b => H.n ≤ b) H' v' (trF n w).1 → Ext H H' → K (.tup [v', .b (trF n w).2]) H') : CallF Cd f_sWorldTrace [.agg c, .I n] H K wf := by
  have h' := h
  obtain ⟨vt, vb, vo, rfl, h1, h2, h3⟩ := h'
  rw [CallF_eq e_sWorldTrace rfl]
  have x0 := (Ext.push H [vt, vb, .I w.turn, .I w.idle, vo]).trans (Ext.push _ [])
  have q0 : ((H.push [vt, vb, .I w.turn, .I w.idle, vo]).push []).bk H.n = some ⟨[vt, vb, .I w.turn, .I w.idle, vo], true⟩ := push_old (by simp) push_new
  have z0 : ((H.push [vt, vb, .I w.turn, .I w.idle, vo]).push []).bk (H.n + 1) = some ⟨[], true⟩ := push_new (H := H.push [vt, vb, .I w.turn, .I w.idle, vo])
  simp [loadN_bk q0]
  refine K_sWorldValid (h.ext x0) hct fun H1 x1 => ?_
  have n1 := x1.1
  simp only [push_n] at n1
  have y1 := x0.trans x1
  have q1 := (x1.2 H.n (by simp <;> omega)).trans q0
  have z1 := (x1.2 (H.n + 1) (by simp)).trans z0
  have bad : ¬ (vaWd w = true ∧ 0 ≤ n ∧ n ≤ 100000) → K (.tup [.sl (H.n + 1) 0 0 (.ex 0), .b false]) H1 := fun hb => by
    have e : trF n w = ([], false) := by unfold trF; rw [if_neg hb]
    rw [e] at k
    exact k _ _ (EvV.emp z1 (by omega) (by omega)) y1
  cases hv : vaWd w with
  | false =>
    simp
    exact bad (by rw [hv]; simp)
  | true =>
  by_cases hn : 0 ≤ n ∧ n ≤ 100000
  case neg =>
    simp [K_in_f hn]
    exact bad (fun hh => hn hh.2)
  have hF : trF n w = (trW n.toNat w, true) := by unfold trF; rw [if_pos ⟨hv, hn⟩]
  rw [hF] at k
  have hbo := hbo hn.2
  simp [K_in_t hn, loadN_bk q1]
  refine K_sl16Copy (h.ext y1) (hbo.sm hv) fun vt2 vb2 vo2 TB OB cs H2 a1 a2 a3 a4 a5 hOB x2 => ?_
  have x3 := Ext.push H2 [vt2, vb2, .I w.turn, .I w.idle, vo2]
  have n2 := x2.1
  have wc2 : WX (fun b => H1.n ≤ b) H2 [vt2, vb2, .I w.turn, .I w.idle, vo2] w := ⟨_, _, _, OB, rfl, ⟨cs, a1.ivB (fun h _ => ⟨h, a5⟩), a2.imp fun c a h => h.mono (Nat.le_refl _) (fun _ _ _ => rfl) (fun _ h _ => ⟨h.1, h.2.2⟩)⟩, a3, a4.up (Nat.zero_le _), by
      rcases a4.2.2 with z | z
      · exact .inl z.1
      · exact .inr z.1⟩
  have zz : (H2.push [vt2, vb2, .I w.turn, .I w.idle, vo2]).bk (H.n + 1) = some ⟨[], true⟩ := (x3.2 _ (by omega)).trans ((x2.2 _ (by omega)).trans z1)
  simp [store_push5e]
  have := K_sWorldTrace_l (P7 := H2.n) (b0 := H1.n) (base := H.n + 1) (by omega) (by omega) (by omega) hn.2 (Q := ?_) n.toNat (i := 0) (by omega) (G := H2.push [vt2, vb2, .I w.turn, .I w.idle, vo2]) (evs := []) (g := .sl (H.n + 1) 0 0 (.ex 0)) (B := H.n + 1) hv hbo (by simp) push_new (wc2.mono (by simp) (fun b _ hb => x3.2 b hb) (fun b hb hn => ⟨hb, by omega, by omega⟩)) n2
    ⟨by simp, rfl, .inr ⟨Nat.le_refl _, by simp; omega, .inl ⟨rfl, zz⟩⟩⟩ (by omega) (by simp; omega) ?_
  · simpa using this
  · intro e G' g' B' u1 u2 u3 u4
    simp only [push_n] at u3
    simp [u4]
    rw [List.nil_append] at u1
    refine k g' G' (u1.ivB (fun hb _ => by omega)) ⟨by omega, fun b hb => ?_⟩
    rw [u2 b (by omega), x3.2 b (by omega), x2.2 b (by omega)]
    exact y1.2 b hb
end
end Go.Proofs.YtmecbehegmgbhaaGreat.AM
namespace Go.Proofs.YtmecbehegmgbhaaGreat.AM
set_option linter.unusedSimpArgs false
set_option linter.unusedVariables false
set_option maxRecDepth 100000
set_option maxHeartbeats 2000000
open Go
attribute [-simp] AM.elems
section
variable {H : AH} {K : AV → AH → Prop} {w : Fk K}
theorem K_sDrawWorldTrace {v : AV} {zs : List Int} (h : SlI H .u8 v zs) (hz : ∀ n ∈ zs, 0 ≤ n ∧ n < 256) (hl : zs.length ≤ 1048576)
    (k : ∀ c w n H', WC (fun _ => True) H' c w → (w = zeroW ∨ ∃ p, vaPg p = true ∧ w = newW p) → n = -1 ∨ (0 ≤ n ∧ n < 80) → Ext H H' → K (.tup [.agg c, .I n]) H') : CallF Cd f_sDrawWorldTrace [v] H K w := by
  rw [CallF_eq e_sDrawWorldTrace rfl]
  simp
  refine K_l6Open (SlI.ext h (Ext.push _ _)) hz hl fun H0 hR0 hS0 => ?_
  have hR0 : Rdx H0 (H.n + 1) 0 := ⟨0, by omega, by omega, by simpa using hR0⟩
  have n0 := hS0.1
  simp only [push_n] at n0
  have qR : H0.bk H.n = some ⟨[.nils, .nils, .I 0, .I 0, .nils], true⟩ := hS0.at (by simp) (by simp) push_new
  have hr0 := hR0.lt
  have x0 : Ext H H0 := ⟨by omega, fun b hb => by rw [hS0.2 b (by simp; omega) (by simp; omega)]; exact push_old hb rfl⟩
  simp
  refine K_sl92Wrong hR0 (by omega) fun c p H1 pc hct ht hr hR1 hS1 => ?_
  have n1 := hS1.1
  obtain ⟨vr, vt, rfl, _, _⟩ := id pc
  simp
  refine K_sWorldNew pc (fun f hf => by have := hct f hf; omega) fun c2 H2 wc2 x2 => ?_
  obtain ⟨W, hW⟩ : ∃ W, W = (if vaPg p = true then newW p else zeroW) := ⟨_, rfl⟩
  rw [← hW] at wc2
  have hW' : W = zeroW ∨ ∃ p, vaPg p = true ∧ W = newW p := by
    cases hv : vaPg p with
    | false => rw [hv] at hW; exact .inl hW
    | true => rw [hv] at hW; exact .inr ⟨p, hv, hW⟩
  obtain ⟨vt2, vb2, vo2, rfl, _, _, _⟩ := id wc2
  have n2 := x2.1
  simp [store_push5e]
  refine P_pick (hR1.ext x2).push (by omega) (by omega) fun y H3 hy hR3 hS3 => ?_
  have n3 := hS3.1
  simp only [push_n] at n3
  have wc3 := (wc2.ext (Ext.push H2 [vt2, vb2, .I W.turn, .I W.idle, vo2])).mono (ok' := fun _ => True) hS3.1 (fun b hb hbn => hS3.2 b hbn (by omega)) (fun _ _ _ => trivial)
  have q3 : H3.bk H2.n = some ⟨[vt2, vb2, .I W.turn, .I W.idle, vo2], true⟩ := hS3.at (by simp) (by omega) push_new
  have qR3 : H3.bk H.n = some ⟨[.nils, .nils, .I 0, .I 0, .nils], true⟩ := hS3.at (by simp; omega) (by omega) (push_old (by omega) ((x2.2 _ (by omega)).trans (hS1.at (by omega) (by omega) qR)))
  have e3 : Ext H H3 := ⟨by omega, fun b hb => by rw [hS3.2 b (by simp; omega) (by omega), push_old (by omega) rfl, x2.2 b (by omega), hS1.2 b (by omega) (by omega), x0.2 b hb]⟩
  have fin : ∀ (G : AH) n, WC (fun _ => True) G [vt2, vb2, .I W.turn, .I W.idle, vo2] W → (∀ b, H.n ≤ b → WC (fun x => x ≠ H.n) G [vt2, vb2, .I W.turn, .I W.idle, vo2] W) → Ext H G → n = -1 ∨ (0 ≤ n ∧ n < 80) → K (.tup [.agg [vt2, vb2, .I W.turn, .I W.idle, vo2], .I n]) (G.put H.n (some ⟨[vt2, vb2, .I W.turn, .I W.idle, vo2], true⟩)) := fun G n z1 z2 z3 z4 =>
    k _ W n _ ((z2 H.n (Nat.le_refl _)).mono (by simp) (fun b hb _ => by rw [put_bk, if_neg hb]) (fun _ _ _ => trivial)) hW' z4 (z3.put (Nat.le_refl _))
  have wcn : WC (fun x => H1.n ≤ x) H3 [vt2, vb2, .I W.turn, .I W.idle, vo2] W := (wc2.ext (Ext.push H2 [vt2, vb2, .I W.turn, .I W.idle, vo2])).mono hS3.1 (fun b hb hbn => hS3.2 b hbn (by omega)) (fun _ h _ => h)
  simp
  by_cases y0 : y = 0
  · have st := store_five qR3 (l := [vt2, vb2, .I W.turn, .I W.idle, vo2]) rfl rfl
    simp [y0, loadN_bk q3, st, loadN_bk put_same]
    exact fin H3 _ wc3 (fun _ _ => wcn.mono (Nat.le_refl _) (fun _ _ _ => rfl) (fun b hb _ => by omega)) e3 (.inl rfl)
  · simp [y0, loadN_bk q3]
    refine P_pick hR3 (by omega) (by omega) fun z H4 hz hR4 hS4 => ?_
    have n4 := hS4.1
    have q4 : H4.bk H2.n = _ := hS4.at (by omega) (by omega) q3
    have qR4 := hS4.at (by omega) (by omega) qR3
    have st := store_five qR4 (l := [vt2, vb2, .I W.turn, .I W.idle, vo2]) rfl rfl
    simp [st, loadN_bk put_same, q4, q3]
    have wcn4 : WC (fun x => H1.n ≤ x) H4 [vt2, vb2, .I W.turn, .I W.idle, vo2] W := wcn.mono hS4.1 (fun b hb hbn => hS4.2 b hbn (by omega)) (fun _ h _ => h)
    exact fin H4 z (wcn4.mono (Nat.le_refl _) (fun _ _ _ => rfl) (fun _ _ _ => trivial)) (fun _ _ => wcn4.mono (Nat.le_refl _) (fun _ _ _ => rfl) (fun b hb _ => by omega)) ⟨by omega, fun b hb => by rw [hS4.2 b (by omega) (by omega), e3.2 b hb]⟩ (.inr hz)
end
/-- The values of the events that are wanted. -/
def valsL (pr : Evt → Bool) (l : List Evt) : List Int := (l.filter pr).map fun e => e.2.2.2
theorem valsL_app {pr : Evt → Bool} {a b : List Evt} : valsL pr (a ++ b) = valsL pr a ++ valsL pr b := by simp [valsL]
theorem valsL_len {pr : Evt → Bool} {a : List Evt} : (valsL pr a).length ≤ a.length := by simp [valsL]; exact List.length_filter_le _ _
/-- What a function answers that is asked of events. -/
def AskOk (ff : FuncId) (cap : List AV) (P : AH → Prop) (pr : Evt → Bool) : Prop :=
  ∀ {H : AH} {K : AV → AH → Prop} {e : Evt} {w1 : Fk K}, P H → (∀ H', Ext H H' → K (.b (pr e)) H') → CallF Cd ff (.agg (evC e) :: cap) H K w1
theorem K_ivaluesOf_l {ff : FuncId} {cap : List AV} {P : AH → Prop} {pr : Evt → Bool} (hA : AskOk ff cap P pr) {l : List Evt} (hll : l.length ≤ 900000) {v : AV} {base : Nat} {Q : Out → Env → AH → Prop} (m i : Nat) (hm : i + m = l.length) {G : AH} {g : AV} {cs : List Int} {B : Nat} (hv : EvV (fun b => b < base) G v l) (hPG : ∀ H', base ≤ H'.n → (∀ b, b < base → H'.bk b = G.bk b) → P H') (hb : base ≤ G.n)
    (hcs : cs = valsL pr (l.take i)) (hg : GrS base G g cs.length 1 (Ints cs) B)
    (hQ : ∀ e G' g' B', GrS base G' g' (valsL pr l).length 1 (Ints (valsL pr l)) B' → (∀ b, b < base → G'.bk b = G.bk b) → G.n ≤ G'.n → get e 5 = some g' → Q (.brk 0) e G') :
    W Cd (.loop c_ivaluesOf_l0) [(1, .fn ff [] cap), (5, g), (8, v), (9, .I l.length), (10, .I i)] G Q := by
  induction m generalizing i G g cs B with
  | zero =>
    rw [W_loop_as c_ivaluesOf_l0.eq_1]
    have : i = l.length := by omega
    subst this
    simp
    rw [List.take_length] at hcs
    subst hcs
    exact hQ _ G g B hg (fun _ _ => rfl) (Nat.le_refl _) rfl
  | succ m ih =>
    rw [W_loop_as c_ivaluesOf_l0.eq_1]
    have hlt : i < l.length := by omega
    have hlt' : (i : Int) < l.length := by omega
    obtain ⟨e, he⟩ : ∃ e, l[i]? = some e := ⟨_, List.getElem?_eq_getElem hlt⟩
    obtain ⟨b, o, cap1, e1, hbn, l1⟩ := hv.at he
    have htake : l.take (i + 1) = l.take i ++ [e] := by rw [List.take_add_one, he]; rfl
    have hv0 := hv
    subst e1
    obtain ⟨ea, eb, ec, ed⟩ := e
    have st : (G.push [.I 0, .I 0, .I 0, .I 0]).store G.n 0 [.I ea, .I eb, .I ec, .I ed] = some (G.push [.I ea, .I eb, .I ec, .I ed]) := by
      rw [store_bk push_new (by simp), push_put]; rfl
    have q1 : (G.push [.I ea, .I eb, .I ec, .I ed]).bk G.n = some ⟨[.I ea, .I eb, .I ec, .I ed], true⟩ := push_new
    have x1 := Ext.push G [.I ea, .I eb, .I ec, .I ed]
    simp (disch := omega) [hlt', l1, evC, st, loadN_bk q1]
    refine hA (e := (ea, eb, ec, ed)) (hPG _ (by simp; omega) (fun b hb2 => x1.2 b (by omega))) fun H2 x2 => ?_
    have y2 := x1.trans x2
    have q2 := (x2.2 G.n (by simp)).trans q1
    have n2 := y2.1
    cases hp : pr (ea, eb, ec, ed) with
    | false =>
      simp (disch := omega)
      have := ih (i + 1) (by omega) (G := H2) (g := g) (cs := cs) (B := B) (hv0.mono n2 (fun b hb2 hb3 => y2.2 b hb3) (fun _ h _ => h)) (fun H' h1 h2 => hPG H' h1 (fun b hb2 => (h2 b hb2).trans (y2.2 b (by omega)))) (by omega)
        (by rw [htake, valsL_app, ← hcs]; simp [valsL, hp]) (hg.ext y2)
        (fun e G2 g2 B2 z1 z2 z3 z4 => hQ e G2 g2 B2 z1 (fun b hb2 => (z2 b hb2).trans (y2.2 b (by omega))) (by omega) z4)
      simpa using this
    | true =>
      obtain ⟨g', G', B', a1, a2, a3, a4⟩ := ((hg.ext y2).ext (Ext.push H2 [.I ed])).app (k := 1) (new := [.I ed]) (by simp; omega) rfl (by
        have := valsL_len (pr := pr) (a := l.take i)
        rw [hcs]; rw [List.length_take] at this; omega)
      have hgm : ∀ b, b ∈ grB g B → b = B ∧ base ≤ B ∧ B < G.n := fun b hb2 => hg.mem hb2
      have n4 := a4.1
      simp only [push_n] at n4
      have kk : ∀ b, b < base → G'.bk b = G.bk b := fun b hb2 => by
        rw [a4.2 b (by simp; omega) (fun hq => by have := hgm b hq; omega), push_old (by omega) rfl, y2.2 b (by omega)]
      have e8 : Ints cs ++ [AV.I ed] = Ints (cs ++ [ed]) := by simp [Ints]
      rw [e8] at a2
      simp (disch := omega) [load_bk q2, loadN_push, AM.elems, a1]
      have := ih (i + 1) (by omega) (G := G') (g := g') (cs := cs ++ [ed]) (B := B') (hv0.mono (by omega) (fun b hb2 hb3 => kk b hb2) (fun _ h _ => h)) (fun H' h1 h2 => hPG H' h1 (fun b hb2 => (h2 b hb2).trans (kk b hb2))) (by omega)
        (by rw [htake, valsL_app, ← hcs]; simp [valsL, hp]) (by rw [List.length_append]; exact a2)
        (fun e G2 g2 B2 z1 z2 z3 z4 => hQ e G2 g2 B2 z1 (fun b hb2 => (z2 b hb2).trans (kk b hb2)) (by omega) z4)
      simpa using this
theorem K_ivaluesOf {ff : FuncId} {cap : List AV} {P : AH → Prop} {pr : Evt → Bool} (hA : AskOk ff cap P pr) {ok : Nat → Prop} {H : AH} {K : AV → AH → Prop} {w : Fk K} {l : List Evt} (hll : l.length ≤ 900000) {v : AV} (hv : EvV ok H v l) (hP : ∀ H', Ext H H' → P H')
    (k : ∀ v' H', IV (fun b => H.n ≤ b) H' v' (valsL pr l) → Ext H H' → K v' H') : CallF Cd f_ivaluesOf [v, .fn ff [] cap] H K w := by
  rw [CallF_eq e_ivaluesOf rfl]
  simp [hv.alen]
  have := K_ivaluesOf_l (P := P) hA (l := l) hll (v := v) (base := H.n) (Q := ?_) l.length 0 (by omega) (G := H) (g := .nils) (cs := []) (B := H.n) (hv.mono (Nat.le_refl _) (fun _ _ _ => rfl) (fun b _ hb => hb)) (fun H' h1 h2 => hP H' ⟨h1, h2⟩) (Nat.le_refl _) rfl GrS.nils ?_
  · simpa using this
  · intro e G' g' B' z1 z2 z3 z4
    simp [z4]
    exact k g' G' z1.iv ⟨z3, z2⟩
end Go.Proofs.YtmecbehegmgbhaaGreat.AM
namespace Go.Proofs.YtmecbehegmgbhaaGreat.AM
set_option linter.unusedSimpArgs false
set_option linter.unusedVariables false
set_option maxRecDepth 100000
set_option maxHeartbeats 2000000
open Go
attribute [-simp] AM.elems
def sentP (box : Int) (e : Evt) : Bool := decide (e.2.1 = 1) && decide (e.2.2.1 = box)
def gotP (box : Int) (e : Evt) : Bool := decide (e.2.1 = 2) && decide (e.2.2.1 = box)
def outP (e : Evt) : Bool := decide (e.2.1 = 3)
theorem ask_sent {P : Nat} {box : Int} : AskOk f_iTraceSent_1 [.ptr P 0] (fun H => P < H.n ∧ H.bk P = some ⟨[.I box], true⟩) (sentP box) := by
  rintro H K ⟨a, b, c, d⟩ w1 ⟨hP, hb⟩ k
  rw [CallF_eq e_iTraceSent_1 rfl]
  have x1 := Ext.push H [.I a, .I b, .I c, .I d]
  have q1 : (H.push [.I a, .I b, .I c, .I d]).bk H.n = some ⟨[.I a, .I b, .I c, .I d], true⟩ := push_new
  have q2 := (x1.2 P hP).trans hb
  have kk := k _ x1
  unfold sentP at kk
  by_cases hb1 : b = 1
  · subst hb1
    simp [evC, load_bk q1, load_bk q2]
    simpa using kk
  · simp [evC, load_bk q1, load_bk q2, hb1]
    simpa [hb1] using kk
theorem ask_got {P : Nat} {box : Int} : AskOk f_iTraceGot_1 [.ptr P 0] (fun H => P < H.n ∧ H.bk P = some ⟨[.I box], true⟩) (gotP box) := by
  rintro H K ⟨a, b, c, d⟩ w1 ⟨hP, hb⟩ k
  rw [CallF_eq e_iTraceGot_1 rfl]
  have x1 := Ext.push H [.I a, .I b, .I c, .I d]
  have q1 : (H.push [.I a, .I b, .I c, .I d]).bk H.n = some ⟨[.I a, .I b, .I c, .I d], true⟩ := push_new
  have q2 := (x1.2 P hP).trans hb
  have kk := k _ x1
  unfold gotP at kk
  by_cases hb1 : b = 2
  · subst hb1
    simp [evC, load_bk q1, load_bk q2]
    simpa using kk
  · simp [evC, load_bk q1, load_bk q2, hb1]
    simpa [hb1] using kk
theorem ask_out : AskOk f_iTraceOut_1 [] (fun _ => True) outP := by
  rintro H K ⟨a, b, c, d⟩ w1 _ k
  rw [CallF_eq e_iTraceOut_1 rfl]
  have x1 := Ext.push H [.I a, .I b, .I c, .I d]
  have q1 : (H.push [.I a, .I b, .I c, .I d]).bk H.n = some ⟨[.I a, .I b, .I c, .I d], true⟩ := push_new
  have kk := k _ x1
  unfold outP at kk
  simp [evC, load_bk q1]
  simpa using kk
section
variable {ok : Nat → Prop} {H : AH} {K : AV → AH → Prop} {w : Fk K} {l : List Evt} {v : AV} {box : Int}
theorem K_iTraceSent (hv : EvV ok H v l) (hll : l.length ≤ 900000) (k : ∀ v' H', IV (fun b => H.n ≤ b) H' v' (valsL (sentP box) l) → Ext H H' → K v' H') : CallF Cd f_iTraceSent [v, .I box] H K w := by
  rw [CallF_eq e_iTraceSent rfl]
  have x1 := Ext.push H [.I box]
  simp
  refine K_ivaluesOf (P := fun G => H.n < G.n ∧ G.bk H.n = some ⟨[.I box], true⟩) ask_sent hll (hv.ext x1) (fun H' x => ⟨by have := x.1; simp at this; omega, (x.2 _ (by simp)).trans push_new⟩) fun v' H' i x => ?_
  simp
  exact k _ _ (i.mono (Nat.le_refl _) (fun _ _ _ => rfl) (fun b hb _ => by simp at hb; omega)) (x1.trans x)
theorem K_iTraceGot (hv : EvV ok H v l) (hll : l.length ≤ 900000) (k : ∀ v' H', IV (fun b => H.n ≤ b) H' v' (valsL (gotP box) l) → Ext H H' → K v' H') : CallF Cd f_iTraceGot [v, .I box] H K w := by
  rw [CallF_eq e_iTraceGot rfl]
  have x1 := Ext.push H [.I box]
  simp
  refine K_ivaluesOf (P := fun G => H.n < G.n ∧ G.bk H.n = some ⟨[.I box], true⟩) ask_got hll (hv.ext x1) (fun H' x => ⟨by have := x.1; simp at this; omega, (x.2 _ (by simp)).trans push_new⟩) fun v' H' i x => ?_
  simp
  exact k _ _ (i.mono (Nat.le_refl _) (fun _ _ _ => rfl) (fun b hb _ => by simp at hb; omega)) (x1.trans x)
theorem K_iTraceOut (hv : EvV ok H v l) (hll : l.length ≤ 900000) (k : ∀ v' H', IV (fun b => H.n ≤ b) H' v' (valsL outP l) → Ext H H' → K v' H') : CallF Cd f_iTraceOut [v] H K w := by
  rw [CallF_eq e_iTraceOut rfl]
  simp
  refine K_ivaluesOf (P := fun _ => True) ask_out hll hv (fun H' x => trivial) fun v' H' i x => ?_
  simp
  exact k _ _ i x
end
theorem K_iTraceOf_l {ts : Int} {l : List Evt} (hll : l.length ≤ 900000) {v : AV} {base : Nat} {Q : Out → Env → AH → Prop} (m i : Nat) (hm : i + m = l.length) {G : AH} {g : AV} {cs : List Evt} {B : Nat} (hv : EvV (fun b => b < base) G v l) (hb : base ≤ G.n)
    (hcs : cs = (l.take i).filter fun e => e.1 = ts) (hg : GrS base G g cs.length 4 (evCs cs) B)
    (hQ : ∀ e G' g' B', GrS base G' g' (l.filter fun e => e.1 = ts).length 4 (evCs (l.filter fun e => e.1 = ts)) B' → (∀ b, b < base → G'.bk b = G.bk b) → G.n ≤ G'.n → get e 5 = some g' → Q (.brk 0) e G') :
    W Cd (.loop c_iTraceOf_l0) [(1, .I ts), (5, g), (8, v), (9, .I l.length), (10, .I i)] G Q := by
  induction m generalizing i G g cs B with
  | zero =>
    rw [W_loop_as c_iTraceOf_l0.eq_1]
    have : i = l.length := by omega
    subst this
    simp
    rw [List.take_length] at hcs
    subst hcs
    exact hQ _ G g B hg (fun _ _ => rfl) (Nat.le_refl _) rfl
  | succ m ih =>
    rw [W_loop_as c_iTraceOf_l0.eq_1]
    have hlt : i < l.length := by omega
    have hlt' : (i : Int) < l.length := by omega
    obtain ⟨e, he⟩ : ∃ e, l[i]? = some e := ⟨_, List.getElem?_eq_getElem hlt⟩
    obtain ⟨b, o, cap1, e1, hbn, l1⟩ := hv.at he
    have htake : l.take (i + 1) = l.take i ++ [e] := by rw [List.take_add_one, he]; rfl
    have hv0 := hv
    subst e1
    obtain ⟨ea, eb, ec, ed⟩ := e
    have st : (G.push [.I 0, .I 0, .I 0, .I 0]).store G.n 0 [.I ea, .I eb, .I ec, .I ed] = some (G.push [.I ea, .I eb, .I ec, .I ed]) := by
      rw [store_bk push_new (by simp), push_put]; rfl
    have q1 : (G.push [.I ea, .I eb, .I ec, .I ed]).bk G.n = some ⟨[.I ea, .I eb, .I ec, .I ed], true⟩ := push_new
    have x1 := Ext.push G [.I ea, .I eb, .I ec, .I ed]
    have n2 := x1.1
    by_cases hp : ea = ts
    case neg =>
      simp (disch := omega) [hlt', l1, evC, st, load_bk q1, hp]
      have := ih (i + 1) (by omega) (G := G.push [.I ea, .I eb, .I ec, .I ed]) (g := g) (cs := cs) (B := B) (hv0.mono n2 (fun b hb2 hb3 => x1.2 b hb3) (fun _ h _ => h)) (by omega)
        (by rw [htake, List.filter_append, ← hcs]; simp [hp]) (hg.ext x1)
        (fun e G2 g2 B2 z1 z2 z3 z4 => hQ e G2 g2 B2 z1 (fun b hb2 => (z2 b hb2).trans (x1.2 b (by omega))) (by omega) z4)
      simpa using this
    case pos =>
      subst hp
      obtain ⟨g', G', B', a1, a2, a3, a4⟩ := ((hg.ext x1).ext (Ext.push _ [.I ea, .I eb, .I ec, .I ed])).app (k := 1) (new := [.I ea, .I eb, .I ec, .I ed]) (by simp; omega) rfl (by
        have h1 := List.length_filter_le (fun e : Evt => decide (e.1 = ea)) (l.take i)
        rw [hcs]; rw [List.length_take] at h1; omega)
      have hgm : ∀ b, b ∈ grB g B → b = B ∧ base ≤ B ∧ B < G.n := fun b hb2 => hg.mem hb2
      have n4 := a4.1
      simp only [push_n] at n4
      have kk : ∀ b, b < base → G'.bk b = G.bk b := fun b hb2 => by
        rw [a4.2 b (by simp; omega) (fun hq => by have := hgm b hq; omega), push_old (by simp; omega) rfl, x1.2 b (by omega)]
      have e8 : evCs cs ++ [.I ea, .I eb, .I ec, .I ed] = evCs (cs ++ [(ea, eb, ec, ed)]) := by simp [evCs, evC]
      rw [e8] at a2
      simp (disch := omega) [hlt', l1, evC, st, load_bk q1, loadN_bk q1, loadN_push, AM.elems, a1]
      have := ih (i + 1) (by omega) (G := G') (g := g') (cs := cs ++ [(ea, eb, ec, ed)]) (B := B') (hv0.mono (by omega) (fun b hb2 hb3 => kk b hb2) (fun _ h _ => h)) (by omega)
        (by rw [htake, List.filter_append, ← hcs]; simp) (by rw [List.length_append]; exact a2)
        (fun e G2 g2 B2 z1 z2 z3 z4 => hQ e G2 g2 B2 z1 (fun b hb2 => (z2 b hb2).trans (kk b hb2)) (by omega) z4)
      simpa using this
theorem K_iTraceOf {ts : Int} {ok : Nat → Prop} {H : AH} {K : AV → AH → Prop} {w : Fk K} {l : List Evt} (hll : l.length ≤ 900000) {v : AV} (hv : EvV ok H v l)
    (k : ∀ v' H', EvV (fun b => H.n ≤ b) H' v' (l.filter fun e => e.1 = ts) → Ext H H' → K v' H') : CallF Cd f_iTraceOf [v, .I ts] H K w := by
  rw [CallF_eq e_iTraceOf rfl]
  simp [hv.alen]
  have := K_iTraceOf_l (ts := ts) (l := l) hll (v := v) (base := H.n) (Q := ?_) l.length 0 (by omega) (G := H) (g := .nils) (cs := []) (B := H.n) (hv.mono (Nat.le_refl _) (fun _ _ _ => rfl) (fun b _ hb => hb)) (Nat.le_refl _) rfl GrS.nils ?_
  · simpa using this
  · intro e G' g' B' z1 z2 z3 z4
    simp [z4]
    exact k g' G' (z1.slc) ⟨z3, z2⟩
end Go.Proofs.YtmecbehegmgbhaaGreat.AM
namespace Go.Proofs.YtmecbehegmgbhaaGreat.AM
set_option linter.unusedSimpArgs false
set_option linter.unusedVariables false
set_option maxRecDepth 100000
set_option maxHeartbeats 2000000
open Go
attribute [-simp] AM.elems
theorem orW_bo {w : Wd} (h : w = zeroW ∨ ∃ p, vaPg p = true ∧ w = newW p) : boW w 850000 ∧ w.boxes.length ≤ 3 := by
  rcases h with rfl | ⟨p, hv, rfl⟩
  · exact ⟨⟨fun t ht => by simp [zeroW] at ht, by simp [zeroW]⟩, by simp [zeroW]⟩
  · exact (newW_bo hv).2
theorem trW_rest {w : Wd} (h : ¬ w.idle < w.tasks.length) : ∀ n, trW n w = []
  | 0 => rfl
  | n + 1 => by unfold trW; rw [if_neg h]
theorem trW_succ {w : Wd} (h : w.idle < w.tasks.length) (n : Nat) : trW (n + 1) w = evW w ++ trW n (stepW w) := by
  conv => lhs; unfold trW
  rw [if_pos h]
theorem runW_succ {w : Wd} (h : w.idle < w.tasks.length) (n : Nat) : runW (n + 1) w = runW n (stepW w) := by
  conv => lhs; unfold runW
  rw [if_pos h]
theorem trW_add (a : Nat) : ∀ (b : Nat) (w : Wd), trW (a + b) w = trW a w ++ trW b (runW a w) := by
  induction a with
  | zero => intro b w; rw [Nat.zero_add]; rfl
  | succ a ih =>
    intro b w
    rw [Nat.succ_add]
    by_cases h : w.idle < w.tasks.length
    · rw [trW_succ h, trW_succ h, runW_succ h, ih, List.append_assoc]
    · rw [trW_rest h, trW_rest h, runW_rest h, trW_rest h]; rfl
theorem evW_len {w : Wd} : (evW w).length ≤ 1 := by
  unfold evW evL
  split
  · simp
  · split <;> simp
theorem trW_one {w : Wd} : (trW 1 w).length ≤ 1 := trW_len 1 w
/-- A beginning of what happens is what happens in fewer steps. -/
theorem trW_take (n : Nat) : ∀ (w : Wd) (i : Nat), i ≤ (trW n w).length → ∃ m, m ≤ n ∧ (trW n w).take i = trW m w := by
  induction n with
  | zero => intro w i hi; exact ⟨0, Nat.le_refl _, by simp [trW]⟩
  | succ n ih =>
    intro w i hi
    by_cases h : w.idle < w.tasks.length
    · rw [trW_succ h] at hi ⊢
      by_cases h0 : i = 0
      · exact ⟨0, by omega, by subst h0; rfl⟩
      by_cases hl : (evW w).length ≤ i
      · obtain ⟨m, h1, h2⟩ := ih (stepW w) (i - (evW w).length) (by rw [List.length_append] at hi; omega)
        refine ⟨m + 1, by omega, ?_⟩
        rw [trW_succ h, ← h2, List.take_append, List.take_of_length_le hl]
      · have := evW_len (w := w); omega
    · exact ⟨0, by omega, by rw [trW_rest h]; simp [trW]⟩
/-- The words of an event that is wanted. -/
def itemsAt (bs : List Bx) (k : Nat) : List Int := ((bs[k]?).map (·.items)).getD []
theorem evW_items {w : Wd} (hv : vaWd w = true) (hi : w.idle < w.tasks.length) (k : Nat) :
    itemsAt w.boxes k ++ valsL (sentP k) (evW w) = valsL (gotP k) (evW w) ++ itemsAt (stepW w).boxes k := by
  obtain ⟨h1, h2, h3, h4⟩ := vaWd_iff.1 hv
  obtain ⟨t, ht⟩ : ∃ t, w.tasks[w.turn.toNat]? = some t := ⟨_, List.getElem?_eq_getElem (by omega)⟩
  have e1 : evW w = evL w.turn (evS t w.boxes) := by unfold evW; rw [ht]
  have e2 : (stepW w).boxes = (stepP t w.boxes).2.1 := by unfold stepW; rw [ht]
  rw [e1, e2]
  have hva := h4 t (List.mem_of_getElem? ht)
  unfold evS stepP
  cases hr : t.rest.list with
  | nil => simp [evL, valsL]
  | cons s r =>
    have hok := (vaS_one ((vaT_iff.1 hva).2.2 s (by rw [hr]; exact List.mem_cons_self))).1
    have hb := (okT_facts hok).2.2.2.1
    simp only
    by_cases k4 : s.k = 4
    · rw [if_pos k4, if_pos (.inl k4)]
      simp only [talkP]
      cases hbx : w.boxes[s.b.toNat]? with
      | none => simp [evL, valsL]
      | some bx =>
        simp only [k4, if_true]
        have hbl := (List.getElem?_eq_some_iff.1 hbx).1
        have hb0 := (hb (.inl k4)).1
        by_cases hq : (bx.items.length : Int) < bx.room
        · rw [if_pos hq, if_pos hq]
          by_cases hk : k = s.b.toNat
          · subst hk
            have hs : (s.b.toNat : Int) = s.b := by omega
            have hbe : w.boxes[s.b.toNat] = bx := by have := List.getElem?_eq_getElem hbl; rw [hbx] at this; exact (Option.some.inj this).symm
            simp [evL, valsL, sentP, gotP, itemsAt, hbx, hbl, hs, hbe]
          · have hs : ¬ s.b = (k : Int) := by omega
            simp [evL, valsL, sentP, gotP, itemsAt, hs, List.getElem?_set, Ne.symm hk]
        · rw [if_neg hq, if_neg hq]
          simp [evL, valsL]
    by_cases k5 : s.k = 5
    · rw [if_neg k4, if_pos k5, if_pos (.inr k5)]
      simp only [talkP]
      cases hbx : w.boxes[s.b.toNat]? with
      | none => simp [evL, valsL]
      | some bx =>
        simp only [k4, if_false]
        have hbl := (List.getElem?_eq_some_iff.1 hbx).1
        have hb0 := (hb (.inr k5)).1
        cases hit : bx.items with
        | nil => simp [evL, valsL]
        | cons y q =>
          simp only
          by_cases hk : k = s.b.toNat
          · subst hk
            have hs : (s.b.toNat : Int) = s.b := by omega
            have hbe : w.boxes[s.b.toNat] = bx := by have := List.getElem?_eq_getElem hbl; rw [hbx] at this; exact (Option.some.inj this).symm
            simp [evL, valsL, sentP, gotP, itemsAt, hbx, hbl, hs, hit, hbe]
          · have hs : ¬ s.b = (k : Int) := by omega
            simp [evL, valsL, sentP, gotP, itemsAt, hs, List.getElem?_set, Ne.symm hk]
    · rw [if_neg k4, if_neg k5, if_neg (show ¬ (s.k = 4 ∨ s.k = 5) by omega)]
      have e3 : (if s.k = 2 ∨ s.k = 3 then ((⟨t.vars, blkR s r (evE t.vars s.e)⟩ : Tk), w.boxes, ([] : List Int), (1 : Int)) else if s.k = 1 then (⟨t.vars.set s.v.toNat (evE t.vars s.e), Sts.of r⟩, w.boxes, [], 1) else if s.k = 6 then (⟨t.vars, Sts.of r⟩, w.boxes, [], 2) else (⟨t.vars, Sts.of r⟩, w.boxes, [evE t.vars s.e], 1)).2.1 = w.boxes := by
        split
        · rfl
        · split
          · rfl
          · split <;> rfl
      rw [e3]
      by_cases k7 : s.k = 7
      · simp [k7, evL, valsL, sentP, gotP]
      · simp [k7, evL, valsL]
theorem trW_items (n : Nat) : ∀ {w : Wd} (hv : vaWd w = true) (k : Nat), itemsAt w.boxes k ++ valsL (sentP k) (trW n w) = valsL (gotP k) (trW n w) ++ itemsAt (runW n w).boxes k := by
  induction n with
  | zero => intro w hv k; simp [trW, runW, valsL]
  | succ n ih =>
    intro w hv k
    by_cases h : w.idle < w.tasks.length
    · rw [trW_succ h, runW_succ h, valsL_app, valsL_app, ← List.append_assoc, evW_items hv h, List.append_assoc, List.append_assoc, ih (stepW_keeps hv h).1]
    · rw [trW_rest h, runW_rest h]; simp [valsL]
theorem evW_out {w : Wd} (hv : vaWd w = true) : (stepW w).out = w.out ++ valsL outP (evW w) := by
  obtain ⟨h1, h2, h3, h4⟩ := vaWd_iff.1 hv
  obtain ⟨t, ht⟩ : ∃ t, w.tasks[w.turn.toNat]? = some t := ⟨_, List.getElem?_eq_getElem (by omega)⟩
  have e1 : evW w = evL w.turn (evS t w.boxes) := by unfold evW; rw [ht]
  have e2 : (stepW w).out = w.out ++ (stepP t w.boxes).2.2.1 := by unfold stepW; rw [ht]
  rw [e1, e2]
  congr 1
  have hva := h4 t (List.mem_of_getElem? ht)
  unfold evS stepP
  cases hr : t.rest.list with
  | nil => simp [evL, valsL]
  | cons s r =>
    have hok := (vaS_one ((vaT_iff.1 hva).2.2 s (by rw [hr]; exact List.mem_cons_self))).1
    have hk17 := (okT_facts hok).1
    simp only
    by_cases k4 : s.k = 4
    · rw [if_pos k4, if_pos (.inl k4)]
      cases hbx : w.boxes[s.b.toNat]? with
      | none => simp [evL, valsL]
      | some bx =>
        simp only
        split <;> simp [evL, valsL, outP]
    by_cases k5 : s.k = 5
    · rw [if_neg k4, if_pos k5, if_pos (.inr k5)]
      cases hbx : w.boxes[s.b.toNat]? with
      | none => simp [evL, valsL]
      | some bx =>
        simp only
        split <;> simp [evL, valsL, outP]
    · rw [if_neg k4, if_neg k5, if_neg (show ¬ (s.k = 4 ∨ s.k = 5) by omega)]
      by_cases k7 : s.k = 7
      · simp [k7, evL, valsL, outP]
      · rw [if_neg k7]
        by_cases k23 : s.k = 2 ∨ s.k = 3
        · rw [if_pos k23]; simp [evL, valsL]
        · rw [if_neg k23]
          by_cases k1 : s.k = 1
          · rw [if_pos k1]; simp [evL, valsL]
          · rw [if_neg k1, if_pos (by omega)]; simp [evL, valsL]
theorem trW_out (n : Nat) : ∀ {w : Wd} (hv : vaWd w = true), (runW n w).out = w.out ++ valsL outP (trW n w) := by
  induction n with
  | zero => intro w hv; simp [trW, runW, valsL]
  | succ n ih =>
    intro w hv
    by_cases h : w.idle < w.tasks.length
    · rw [trW_succ h, runW_succ h, valsL_app, ih (stepW_keeps hv h).1, evW_out hv, List.append_assoc]
    · rw [trW_rest h, runW_rest h]; simp [valsL]
/-- What an event is that happens in a world. -/
def evOk (tasks boxes : Nat) (e : Evt) : Prop := 0 ≤ e.1 ∧ e.1 < tasks ∧ isW e.2.2.2 = true ∧ ((e.2.1 = 1 ∨ e.2.1 = 2) ∧ 0 ≤ e.2.2.1 ∧ e.2.2.1 < boxes ∨ e.2.1 = 3 ∧ e.2.2.1 = 0)
theorem evW_ok {w : Wd} (hv : vaWd w = true) : ∀ e ∈ evW w, evOk w.tasks.length w.boxes.length e := by
  obtain ⟨h1, h2, h3, h4⟩ := vaWd_iff.1 hv
  obtain ⟨t, ht⟩ : ∃ t, w.tasks[w.turn.toNat]? = some t := ⟨_, List.getElem?_eq_getElem (by omega)⟩
  have e1 : evW w = evL w.turn (evS t w.boxes) := by unfold evW; rw [ht]
  rw [e1]
  have hva := h4 t (List.mem_of_getElem? ht)
  obtain ⟨f1, f2, f3, f4⟩ := vaT_facts hva
  unfold evS
  cases hr : t.rest.list with
  | nil => simp [evL]
  | cons s r =>
    have hok := (vaS_one ((vaT_iff.1 hva).2.2 s (by rw [hr]; exact List.mem_cons_self))).1
    obtain ⟨hk17, hoe, _, hb, _⟩ := okT_facts hok
    have hw : s.k ≠ 5 → s.k ≠ 6 → isW (evE t.vars s.e) = true := fun a b => evE_word f2 s.e.args (d := 5) (op := s.e.op) (n := s.e.n) (hoe a b)
    simp only
    by_cases k4 : s.k = 4
    · rw [if_pos k4]
      cases hbx : w.boxes[s.b.toNat]? with
      | none => simp [evL]
      | some bx =>
        have hbl := (List.getElem?_eq_some_iff.1 hbx).1
        simp only
        split
        · simp only [evL, List.mem_singleton]
          rintro e rfl
          exact ⟨by simp only; omega, by simp only; omega, hw (by omega) (by omega), .inl ⟨.inl rfl, by have := (hb (.inl k4)); simp only; omega, by have := (hb (.inl k4)); simp only; omega⟩⟩
        · simp [evL]
    by_cases k5 : s.k = 5
    · rw [if_neg k4, if_pos k5]
      cases hbx : w.boxes[s.b.toNat]? with
      | none => simp [evL]
      | some bx =>
        have hbl := (List.getElem?_eq_some_iff.1 hbx).1
        simp only
        cases hit : bx.items with
        | nil => simp [evL]
        | cons y q =>
          simp only [evL, List.mem_singleton]
          rintro e rfl
          have hvb := (vaBs_facts h3).2 bx (List.mem_of_getElem? hbx)
          refine ⟨by simp only; omega, by simp only; omega, ?_, .inl ⟨.inr rfl, by have := (hb (.inr k5)); simp only; omega, by have := (hb (.inr k5)); simp only; omega⟩⟩
          have h5 := h3
          unfold vaBs at h5
          simp only [Bool.and_eq_true] at h5
          have h6 := List.all_eq_true.1 h5.1 bx (List.mem_of_getElem? hbx)
          unfold vaB at h6
          simp only [Bool.and_eq_true] at h6
          exact List.all_eq_true.1 h6.2 y (by rw [hit]; exact List.mem_cons_self)
    · rw [if_neg k4, if_neg k5]
      by_cases k7 : s.k = 7
      · rw [if_pos k7]
        simp only [evL, List.mem_singleton]
        rintro e rfl
        exact ⟨by simp only; omega, by simp only; omega, hw (by omega) (by omega), .inr ⟨rfl, rfl⟩⟩
      · rw [if_neg k7]; simp [evL]
theorem trW_ok (n : Nat) : ∀ {w : Wd} (hv : vaWd w = true), ∀ e ∈ trW n w, evOk w.tasks.length w.boxes.length e := by
  induction n with
  | zero => intro w hv e he; simp [trW] at he
  | succ n ih =>
    intro w hv e he
    by_cases h : w.idle < w.tasks.length
    · rw [trW_succ h] at he
      rcases List.mem_append.1 he with q | q
      · exact evW_ok hv e q
      · have hk := stepW_keeps hv h
        have := ih hk.1 e q
        rwa [hk.2.1, hk.2.2.1] at this
    · rw [trW_rest h] at he; simp at he
end Go.Proofs.YtmecbehegmgbhaaGreat.AM
namespace Go.Proofs.YtmecbehegmgbhaaGreat.AM
set_option linter.unusedSimpArgs false
set_option linter.unusedVariables false
set_option maxRecDepth 100000
set_option maxHeartbeats 2000000
open Go
attribute [-simp] AM.elems
theorem law_FnTraceOut {H : AH} {v : AV} {zs : List Int} (h : SlI H .u8 v zs) (hz : ∀ n ∈ zs, 0 ≤ n ∧ n < 256) : CallK Cd f_wFnTraceOut [v] H fun v _ => v = .b true := by
  rw [CallK_F, CallF_eq e_wFnTraceOut rfl]
  have hlen : alen v = some zs.length := by
    rcases h with ⟨rfl, rfl⟩ | ⟨rfl, rfl⟩ | ⟨b, rest, hb, rfl, hb2⟩ <;> rfl
  simp [hlen]
  refine cnd_mk (fun _ => by simp) (fun hl => ?_)
  simp
  refine K_sDrawWorldTrace h hz (by omega) fun c w n H1 wc hor hn x01 => ?_
  obtain ⟨bo, bx⟩ := orW_bo hor
  have bo2 := bo.2
  obtain ⟨vt, vb, vo, rfl, tvw, bvw, _⟩ := id wc
  have x1 := Ext.push H1 [vt, vb, .I w.turn, .I w.idle, vo]
  simp [store_push5e, loadN_push]
  refine K_iWorldTrace (wc.ext x1) bo.ct (by omega) (fun hn => ⟨bo.1, by omega⟩) (by omega) fun v2 H2 ev2 x2 => ?_
  have q3 : H2.bk H1.n = some ⟨[vt, vb, .I w.turn, .I w.idle, vo], true⟩ := (x2.2 _ (by simp)).trans push_new
  have y2 := x1.trans x2
  have n2 : H1.n < H2.n := by have := x2.1; simp at this; omega
  simp [loadN_bk q3]
  refine K_sWorldTrace (wc.ext y2) bo.ct (fun hn => ⟨bo.1, by omega⟩) fun v4 H4 ev4 x4 => ?_
  have z1 := y2.trans x4
  have z0 := x01.trans z1
  have p3 := (x4.2 _ n2).trans q3
  have n4 : H1.n < H4.n := by have := x4.1; omega
  have wc4 := wc.ext z1
  have e2 := ev2.ext x4
  simp
  refine T_wsameEvents e2 ev4 ?_
  have hF : (vaWd w = true ∧ 0 ≤ n ∧ n ≤ 100000) ∧ trF n w = (trW n.toNat w, true) ∨ trF n w = ([], false) := by
    unfold trF
    split
    · rename_i hh; exact .inl ⟨hh, rfl⟩
    · exact .inr rfl
  rcases hF with ⟨⟨hva, hn0, hn1⟩, hF⟩ | hF
  case inr =>
    rw [hF] at e2 ev4 ⊢
    simp
    exact T_wsameEvents e2 ev4 (by simp)
  rw [hF] at e2 ev4 ⊢
  clear hF ev2 ev4 q3 z1 y2 x2 x4 x1 x01 wc
  obtain ⟨N, rfl⟩ : ∃ N : Nat, n = N := ⟨n.toNat, by omega⟩
  simp only [Int.toNat_natCast] at e2
  have hN : N < 80 := by omega
  obtain ⟨p, hvp, rfl⟩ : ∃ p, vaPg p = true ∧ w = newW p := by
    rcases hor with rfl | q
    · simp [zeroW, vaWd] at hva
    · exact q
  have hk := runW_keeps N hva
  have hlen := trW_len N (newW p)
  have boN := boW.run (n := N) (m := 700000) (bo.le (by omega)) hva
  simp
  have eN : runF (N : Int) (newW p) = (runW N (newW p), true) := by
    unfold runF; rw [if_pos ⟨hva, by omega, by omega⟩, Int.toNat_natCast]
  simp [loadN_bk p3]
  refine K_iWorldRun wc4 bo.ct (by omega) (fun _ => ⟨bo.1, by omega⟩) (by omega) fun c5 H8 wc8 x8 => ?_
  rw [eN] at wc8 ⊢
  simp only at wc8
  obtain ⟨vt5, vb5, vo5, rfl, tv5, bv5, iv5⟩ := id wc8
  have x9 := Ext.push H8 [vt5, vb5, .I (runW N (newW p)).turn, .I (runW N (newW p)).idle, vo5]
  have q9 : (H8.push [vt5, vb5, .I (runW N (newW p)).turn, .I (runW N (newW p)).idle, vo5]).bk H8.n = some ⟨[vt5, vb5, .I (runW N (newW p)).turn, .I (runW N (newW p)).idle, vo5], true⟩ := push_new
  simp [store_push5e]
  refine K_iTraceOut (e2.ext (x8.trans x9)) (by omega) fun v' Ha i xa => ?_
  have qa := (xa.2 H8.n (by simp)).trans q9
  have ho : (runW N (newW p)).out = valsL outP (trW N (newW p)) := by rw [trW_out N hva]; simp [newW]
  have i5 := ((iv5.ext x9).ext xa)
  rw [ho] at i5
  simp [load_bk qa, xa]
  exact T_wsameInts i.sees i5.sees (by simp)
end Go.Proofs.YtmecbehegmgbhaaGreat.AM
namespace Go.Proofs.YtmecbehegmgbhaaGreat.AM
set_option linter.unusedSimpArgs false
set_option linter.unusedVariables false
set_option maxRecDepth 100000
set_option maxHeartbeats 2000000
open Go
attribute [-simp] AM.elems
theorem evCs_take {l : List Evt} {i : Nat} (h : i ≤ l.length) : (evCs l).take (i * 4) = evCs (l.take i) := by
  conv => lhs; rw [← List.take_append_drop i l, evCs_app]
  exact List.take_left' (by rw [evCs_len, List.length_take]; congr 1; omega)
theorem EvV.take {ok H v l} (h : EvV ok H v l) {i : Nat} (hi : i ≤ l.length) : ∃ v', aslice 4 v none (some (.I i)) none = some v' ∧ EvV ok H v' (l.take i) := by
  obtain ⟨v', e1, e2, e3⟩ := SlC.part h (i := 0) (j := i) (Nat.zero_le _) hi (by omega) (lo := none) (hi := some (.I i)) rfl (by simp [bnd, aint])
  refine ⟨v', e1, ?_⟩
  have e4 : (List.take ((i - 0) * 4) (List.drop (0 * 4) (evCs l))) = evCs (l.take i) := by simpa using evCs_take hi
  rw [e4] at e2
  have e5 : (l.take i).length = i - 0 := by rw [List.length_take]; omega
  unfold EvV
  rw [e5]; exact e2
theorem law_FnTraceMore {H : AH} {v : AV} {zs : List Int} (h : SlI H .u8 v zs) (hz : ∀ n ∈ zs, 0 ≤ n ∧ n < 256) : CallK Cd f_wFnTraceMore [v] H fun v _ => v = .b true := by
  rw [CallK_F, CallF_eq e_wFnTraceMore rfl]
  have hlen : alen v = some zs.length := by
    rcases h with ⟨rfl, rfl⟩ | ⟨rfl, rfl⟩ | ⟨b, rest, hb, rfl, hb2⟩ <;> rfl
  simp [hlen]
  refine cnd_mk (fun _ => by simp) (fun hl => ?_)
  simp
  refine K_sDrawWorldTrace h hz (by omega) fun c w n H1 wc hor hn x01 => ?_
  obtain ⟨bo, bx⟩ := orW_bo hor
  have bo2 := bo.2
  obtain ⟨vt, vb, vo, rfl, tvw, bvw, _⟩ := id wc
  have x1 := Ext.push H1 [vt, vb, .I w.turn, .I w.idle, vo]
  simp [store_push5e, loadN_push]
  refine K_iWorldTrace (wc.ext x1) bo.ct (by omega) (fun hn => ⟨bo.1, by omega⟩) (by omega) fun v2 H2 ev2 x2 => ?_
  have q3 : H2.bk H1.n = some ⟨[vt, vb, .I w.turn, .I w.idle, vo], true⟩ := (x2.2 _ (by simp)).trans push_new
  have y2 := x1.trans x2
  have n2 : H1.n < H2.n := by have := x2.1; simp at this; omega
  simp [loadN_bk q3]
  refine K_sWorldTrace (wc.ext y2) bo.ct (fun hn => ⟨bo.1, by omega⟩) fun v4 H4 ev4 x4 => ?_
  have z1 := y2.trans x4
  have z0 := x01.trans z1
  have p3 := (x4.2 _ n2).trans q3
  have n4 : H1.n < H4.n := by have := x4.1; omega
  have wc4 := wc.ext z1
  have e2 := ev2.ext x4
  simp
  refine T_wsameEvents e2 ev4 ?_
  have hF : (vaWd w = true ∧ 0 ≤ n ∧ n ≤ 100000) ∧ trF n w = (trW n.toNat w, true) ∨ trF n w = ([], false) := by
    unfold trF
    split
    · rename_i hh; exact .inl ⟨hh, rfl⟩
    · exact .inr rfl
  rcases hF with ⟨⟨hva, hn0, hn1⟩, hF⟩ | hF
  case inr =>
    rw [hF] at e2 ev4 ⊢
    simp
    exact T_wsameEvents e2 ev4 (by simp)
  rw [hF] at e2 ev4 ⊢
  clear hF ev2 ev4 q3 z1 y2 x2 x4 x1 x01 wc
  obtain ⟨N, rfl⟩ : ∃ N : Nat, n = N := ⟨n.toNat, by omega⟩
  simp only [Int.toNat_natCast] at e2
  have hN : N < 80 := by omega
  obtain ⟨p, hvp, rfl⟩ : ∃ p, vaPg p = true ∧ w = newW p := by
    rcases hor with rfl | q
    · simp [zeroW, vaWd] at hva
    · exact q
  have hk := runW_keeps N hva
  have hlen := trW_len N (newW p)
  have boN := boW.run (n := N) (m := 700000) (bo.le (by omega)) hva
  simp
  have eN : trF ((N : Int) + 1) (newW p) = (trW (N + 1) (newW p), true) := by
    unfold trF; rw [if_pos ⟨hva, by omega, by omega⟩, show ((N : Int) + 1).toNat = N + 1 by omega]
  simp (disch := omega) [loadN_bk p3]
  refine K_iWorldTrace wc4 bo.ct (by omega) (fun hn => ⟨bo.1, by omega⟩) (by omega) fun v5 H8 ev8 x8 => ?_
  rw [eN] at ev8 ⊢
  simp only at ev8
  have e8 := e2.ext x8
  have hadd : trW (N + 1) (newW p) = trW N (newW p) ++ trW 1 (runW N (newW p)) := trW_add N 1 _
  have h1 := trW_one (w := runW N (newW p))
  have hl : (trW (N + 1) (newW p)).length = (trW N (newW p)).length + (trW 1 (runW N (newW p))).length := by rw [hadd, List.length_append]
  have c1 : ((trW N (newW p)).length : Int) ≤ (trW (N + 1) (newW p)).length := by omega
  have c2 : ((trW (N + 1) (newW p)).length : Int) ≤ (trW N (newW p)).length + 1 := by omega
  obtain ⟨v', a1, a2⟩ := ev8.take (i := (trW N (newW p)).length) (by omega)
  rw [show (trW (N + 1) (newW p)).take (trW N (newW p)).length = trW N (newW p) by rw [hadd, List.take_left]] at a2
  simp (disch := omega) [ev8.alen, e8.alen, c1, c2, a1]
  exact T_wsameEvents a2 e8 (by simp)
end Go.Proofs.YtmecbehegmgbhaaGreat.AM
namespace Go.Proofs.YtmecbehegmgbhaaGreat.AM
set_option linter.unusedSimpArgs false
set_option linter.unusedVariables false
set_option maxRecDepth 100000
set_option maxHeartbeats 2000000
open Go
attribute [-simp] AM.elems
theorem law_FnTraceAlone {H : AH} {v v2 : AV} {zs zs2 : List Int} (h : SlI H .u8 v zs) (hz : ∀ n ∈ zs, 0 ≤ n ∧ n < 256) (h2 : SlI H .u8 v2 zs2) (hz2 : ∀ n ∈ zs2, 0 ≤ n ∧ n < 256) : CallK Cd f_wFnTraceAlone [v, v2] H fun v _ => v = .b true := by
  rw [CallK_F, CallF_eq e_wFnTraceAlone rfl]
  have hlen : alen v = some zs.length := by
    rcases h with ⟨rfl, rfl⟩ | ⟨rfl, rfl⟩ | ⟨b, rest, hb, rfl, hb2⟩ <;> rfl
  have hlen2 : alen v2 = some zs2.length := by
    rcases h2 with ⟨rfl, rfl⟩ | ⟨rfl, rfl⟩ | ⟨b, rest, hb, rfl, hb2⟩ <;> rfl
  simp [hlen, hlen2]
  by_cases hl1 : (1048576 : Int) < zs.length
  · simp [hl1]
  simp [hl1, hlen2]
  by_cases hl2 : (1048576 : Int) < zs2.length
  · simp [hl2]
  have hl : ¬ 1048576 < zs.length := by omega
  simp [hl2]
  refine K_sDrawWorldTrace h hz (by omega) fun c w n H1 wc hor hn x01 => ?_
  obtain ⟨bo, bx⟩ := orW_bo hor
  have bo2 := bo.2
  obtain ⟨vt, vb, vo, rfl, tvw, bvw, _⟩ := id wc
  have x1 := Ext.push H1 [vt, vb, .I w.turn, .I w.idle, vo]
  simp [store_push5e, loadN_push]
  refine K_iWorldTrace (wc.ext x1) bo.ct (by omega) (fun hn => ⟨bo.1, by omega⟩) (by omega) fun v2 H2 ev2 x2 => ?_
  have q3 : H2.bk H1.n = some ⟨[vt, vb, .I w.turn, .I w.idle, vo], true⟩ := (x2.2 _ (by simp)).trans push_new
  have y2 := x1.trans x2
  have n2 : H1.n < H2.n := by have := x2.1; simp at this; omega
  simp [loadN_bk q3]
  refine K_sWorldTrace (wc.ext y2) bo.ct (fun hn => ⟨bo.1, by omega⟩) fun v4 H4 ev4 x4 => ?_
  have z1 := y2.trans x4
  have z0 := x01.trans z1
  have p3 := (x4.2 _ n2).trans q3
  have n4 : H1.n < H4.n := by have := x4.1; omega
  have wc4 := wc.ext z1
  have e2 := ev2.ext x4
  simp
  refine T_wsameEvents e2 ev4 ?_
  have hF : (vaWd w = true ∧ 0 ≤ n ∧ n ≤ 100000) ∧ trF n w = (trW n.toNat w, true) ∨ trF n w = ([], false) := by
    unfold trF
    split
    · rename_i hh; exact .inl ⟨hh, rfl⟩
    · exact .inr rfl
  rcases hF with ⟨⟨hva, hn0, hn1⟩, hF⟩ | hF
  case inr =>
    rw [hF] at e2 ev4 ⊢
    simp
    exact T_wsameEvents e2 ev4 (by simp)
  rw [hF] at e2 ev4 ⊢
  clear hF ev2 ev4 q3 z1 y2 x2 x4 x1 x01 wc
  obtain ⟨N, rfl⟩ : ∃ N : Nat, n = N := ⟨n.toNat, by omega⟩
  simp only [Int.toNat_natCast] at e2
  have hN : N < 80 := by omega
  obtain ⟨p, hvp, rfl⟩ : ∃ p, vaPg p = true ∧ w = newW p := by
    rcases hor with rfl | q
    · simp [zeroW, vaWd] at hva
    · exact q
  have hk := runW_keeps N hva
  have hlen := trW_len N (newW p)
  have boN := boW.run (n := N) (m := 700000) (bo.le (by omega)) hva
  simp
  have hN1 : (0 : Int) < (N : Int) + 1 := by omega
  obtain ⟨R, hR⟩ : ∃ R : Nat, R = zs2.length % (N + 1) := ⟨_, rfl⟩
  have er : Int.tmod (zs2.length : Int) ((N : Int) + 1) = (R : Int) := by
    rw [show ((N : Int) + 1) = ((N + 1 : Nat) : Int) by omega, ← Int.ofNat_tmod, hR]
  have hr : R ≤ N := by have := Nat.mod_lt zs2.length (show 0 < N + 1 by omega); omega
  have hnz : ¬ ((N : Int) + 1 = 0) := by omega
  simp (disch := omega) [hlen2, er, hnz, loadN_bk p3]
  have eR : trF (R : Int) (newW p) = (trW R (newW p), true) := by
    unfold trF; rw [if_pos ⟨hva, by omega, by omega⟩, Int.toNat_natCast]
  refine K_iWorldTrace wc4 bo.ct (by omega) (fun hn => ⟨bo.1, by omega⟩) (by omega) fun v5 H8 ev8 x8 => ?_
  rw [eR] at ev8 ⊢
  simp only at ev8
  have p8 := (x8.2 _ n4).trans p3
  simp [loadN_bk p8]
  have eS : runF (R : Int) (newW p) = (runW R (newW p), true) := by
    unfold runF; rw [if_pos ⟨hva, by omega, by omega⟩, Int.toNat_natCast]
  refine K_iWorldRun (wc4.ext x8) bo.ct (by omega) (fun _ => ⟨bo.1, by omega⟩) (by omega) fun c6 Ha wca xa => ?_
  rw [eS] at wca ⊢
  simp only at wca
  obtain ⟨vt5, vb5, vo5, rfl, _, _, _⟩ := id wca
  have hkR := runW_keeps R hva
  have boR := boW.run (n := R) (m := 700000) (bo.le (by omega)) hva
  have hbR := boR.2
  have xb := Ext.push Ha [vt5, vb5, .I (runW R (newW p)).turn, .I (runW R (newW p)).idle, vo5]
  simp (disch := omega) [store_push5e, loadN_push]
  have eT : trF ((N : Int) - R) (runW R (newW p)) = (trW (N - R) (runW R (newW p)), true) := by
    unfold trF; rw [if_pos ⟨hkR.1, by omega, by omega⟩, show ((N : Int) - R).toNat = N - R by omega]
  refine K_iWorldTrace (wca.ext xb) boR.ct (by omega) (fun hn => ⟨boR.1, by omega⟩) (by omega) fun v7 Hc evc xc => ?_
  rw [eT] at evc ⊢
  simp only at evc
  have hl1 := trW_len R (newW p)
  have hl2 := trW_len (N - R) (runW R (newW p))
  have yc := (xa.trans xb).trans xc
  have xd := Ext.push Hc []
  have g0 : GrS Hc.n (Hc.push []) (.sl Hc.n 0 0 (.ex 0)) ([] : List Evt).length 4 (evCs []) Hc.n := ⟨by simp, rfl, .inr ⟨Nat.le_refl _, by simp, .inl ⟨rfl, push_new⟩⟩⟩
  obtain ⟨g1, G1, B1, a1, a2, a3, a4, a5⟩ := app_evs g0 (Ext.refl _) ((ev8.ext yc).ext xd) (by simp) (by simp; omega)
  rw [List.nil_append] at a2
  have kk : ∀ b, b < Hc.n → G1.bk b = Hc.bk b := fun b hb => (a3.2 b (by simp; omega) (by simp [grB]; omega)).trans (xd.2 b hb)
  have n1 := a3.1
  simp only [push_n] at n1
  have evd : EvV (fun b => b < Hc.n) G1 v7 (trW (N - R) (runW R (newW p))) := evc.mono (by omega) (fun b _ hb => kk b hb) (fun b _ hb => hb)
  obtain ⟨g2, G2, B2, b1, b2, b3, b4, b5⟩ := app_evs a2 (Ext.refl _) evd (by omega) (by omega)
  have hgm : ∀ b, b ∈ grB g1 B1 → b = B1 ∧ Hc.n ≤ B1 ∧ B1 < G1.n := fun b hb => a2.mem hb
  have n2 := b3.1
  rw [show trW R (newW p) ++ trW (N - R) (runW R (newW p)) = trW N (newW p) by rw [← trW_add, show R + (N - R) = N by omega]] at b2
  have e9 : EvV (fun _ => True) G2 v2 (trW N (newW p)) := (e2.ext (x8.trans yc)).mono (by omega) (fun b _ hb => by rw [b3.2 b (by omega) (fun hq => by have := hgm b hq; omega), kk b hb]) (fun _ _ _ => trivial)
  simp [((ev8.ext yc).ext xd).alen, ((ev8.ext yc).ext xd).elems, a1, evd.alen, evd.elems, b1]
  exact T_wsameEvents e9 b2.slc (by simp)
end Go.Proofs.YtmecbehegmgbhaaGreat.AM
namespace Go.Proofs.YtmecbehegmgbhaaGreat.AM
set_option linter.unusedSimpArgs false
set_option linter.unusedVariables false
set_option maxRecDepth 100000
set_option maxHeartbeats 2000000
open Go
attribute [-simp] AM.elems
theorem TraceKinds_l {w : Wd} {l : List Evt} {N : Nat} (hok : ∀ e ∈ l, evOk w.tasks.length w.boxes.length e) {o1 : Nat → Prop} {P : Nat} {vt vb x2 x3 x4 v : AV} {Q : Out → Env → AH → Prop} {H : AH} (hv : EvV o1 H v l) (gP : H.bk P = some ⟨[vt, vb, x2, x3, x4], true⟩) (ht : alen vt = some w.tasks.length) (hb : alen vb = some w.boxes.length)
    (m i : Nat) (hm : i + m = l.length) (hP : P < H.n) (hQ : ∀ e G, get e 4 = some (.I N) → get e 5 = some v → Q (.brk 0) e G) :
    W Cd (.loop c_wFnTraceKinds_l0) [(3, .ptr P 0), (4, .I N), (5, v), (9, .I i)] H Q := by
  have hbig := hv.big
  induction m generalizing i H with
  | zero =>
    rw [W_loop_as c_wFnTraceKinds_l0.eq_1]
    have : i = l.length := by omega
    subst this
    simp [hv.alen]
    exact hQ _ _ rfl rfl
  | succ m ih =>
    rw [W_loop_as c_wFnTraceKinds_l0.eq_1]
    have hlt : i < l.length := by omega
    have hlt' : (i : Int) < l.length := by omega
    obtain ⟨e, he⟩ : ∃ e, l[i]? = some e := ⟨_, List.getElem?_eq_getElem hlt⟩
    obtain ⟨k1, k2, k3, k4⟩ := hok e (List.mem_of_getElem? he)
    obtain ⟨b, o, cap1, e1, hbn, l1⟩ := hv.at he
    have hv0 := hv
    subst e1
    obtain ⟨ea, eb, ec, ed⟩ := e
    simp only at k1 k2 k3 k4
    have st : (H.push [.I 0, .I 0, .I 0, .I 0]).store H.n 0 [.I ea, .I eb, .I ec, .I ed] = some (H.push [.I ea, .I eb, .I ec, .I ed]) := by
      rw [store_bk push_new (by simp), push_put]; rfl
    have x1 := Ext.push H [.I ea, .I eb, .I ec, .I ed]
    have q1 : (H.push [.I ea, .I eb, .I ec, .I ed]).bk H.n = some ⟨[.I ea, .I eb, .I ec, .I ed], true⟩ := push_new
    have gP1 := (x1.2 P hP).trans gP
    have rcc := ih (H := H.push [.I ea, .I eb, .I ec, .I ed]) (hv0.ext x1) gP1 (i + 1) (by omega) (by simp; omega)
    have c1 : ¬ ea < 0 := by omega
    have c2 : ¬ (w.tasks.length : Int) ≤ ea := by omega
    have step : ∀ (talk : Bool), talk = (decide (eb = 1) || decide (eb = 2)) → True := fun _ _ => trivial
    rcases k4 with ⟨k4 | k4, k5, k6⟩ | ⟨k4, k5⟩
    · subst k4
      have c3 : ¬ ec < 0 := by omega
      have c4 : ¬ (w.boxes.length : Int) ≤ ec := by omega
      simp (disch := omega) [hv.alen, hlt', l1, evC, st, load_bk q1, load_bk gP1, ht, hb, c1, c2, c3, c4, K_iWordValid, k3]
      simpa using rcc
    · subst k4
      have c3 : ¬ ec < 0 := by omega
      have c4 : ¬ (w.boxes.length : Int) ≤ ec := by omega
      simp (disch := omega) [hv.alen, hlt', l1, evC, st, load_bk q1, load_bk gP1, ht, hb, c1, c2, c3, c4, K_iWordValid, k3]
      simpa using rcc
    · subst k4 k5
      simp (disch := omega) [hv.alen, hlt', l1, evC, st, load_bk q1, load_bk gP1, ht, hb, c1, c2, K_iWordValid, k3]
      simpa using rcc
theorem law_FnTraceKinds {H : AH} {v : AV} {zs : List Int} (h : SlI H .u8 v zs) (hz : ∀ n ∈ zs, 0 ≤ n ∧ n < 256) : CallK Cd f_wFnTraceKinds [v] H fun v _ => v = .b true := by
  rw [CallK_F, CallF_eq e_wFnTraceKinds rfl]
  have hlen : alen v = some zs.length := by
    rcases h with ⟨rfl, rfl⟩ | ⟨rfl, rfl⟩ | ⟨b, rest, hb, rfl, hb2⟩ <;> rfl
  simp [hlen]
  refine cnd_mk (fun _ => by simp) (fun hl => ?_)
  simp
  refine K_sDrawWorldTrace h hz (by omega) fun c w n H1 wc hor hn x01 => ?_
  obtain ⟨bo, bx⟩ := orW_bo hor
  have bo2 := bo.2
  obtain ⟨vt, vb, vo, rfl, tvw, bvw, _⟩ := id wc
  have x1 := Ext.push H1 [vt, vb, .I w.turn, .I w.idle, vo]
  simp [store_push5e, loadN_push]
  refine K_iWorldTrace (wc.ext x1) bo.ct (by omega) (fun hn => ⟨bo.1, by omega⟩) (by omega) fun v2 H2 ev2 x2 => ?_
  have q3 : H2.bk H1.n = some ⟨[vt, vb, .I w.turn, .I w.idle, vo], true⟩ := (x2.2 _ (by simp)).trans push_new
  have y2 := x1.trans x2
  have n2 : H1.n < H2.n := by have := x2.1; simp at this; omega
  simp [loadN_bk q3]
  refine K_sWorldTrace (wc.ext y2) bo.ct (fun hn => ⟨bo.1, by omega⟩) fun v4 H4 ev4 x4 => ?_
  have z1 := y2.trans x4
  have z0 := x01.trans z1
  have p3 := (x4.2 _ n2).trans q3
  have n4 : H1.n < H4.n := by have := x4.1; omega
  have wc4 := wc.ext z1
  have e2 := ev2.ext x4
  simp
  refine T_wsameEvents e2 ev4 ?_
  have hF : (vaWd w = true ∧ 0 ≤ n ∧ n ≤ 100000) ∧ trF n w = (trW n.toNat w, true) ∨ trF n w = ([], false) := by
    unfold trF
    split
    · rename_i hh; exact .inl ⟨hh, rfl⟩
    · exact .inr rfl
  rcases hF with ⟨⟨hva, hn0, hn1⟩, hF⟩ | hF
  case inr =>
    rw [hF] at e2 ev4 ⊢
    simp
    exact T_wsameEvents e2 ev4 (by simp)
  rw [hF] at e2 ev4 ⊢
  clear hF ev2 ev4 q3 z1 y2 x2 x4 x1 x01 wc
  obtain ⟨N, rfl⟩ : ∃ N : Nat, n = N := ⟨n.toNat, by omega⟩
  simp only [Int.toNat_natCast] at e2
  have hN : N < 80 := by omega
  obtain ⟨p, hvp, rfl⟩ : ∃ p, vaPg p = true ∧ w = newW p := by
    rcases hor with rfl | q
    · simp [zeroW, vaWd] at hva
    · exact q
  have hk := runW_keeps N hva
  have hlen := trW_len N (newW p)
  have boN := boW.run (n := N) (m := 700000) (bo.le (by omega)) hva
  simp
  have hok := trW_ok N hva
  have := TraceKinds_l (N := N) hok (Q := ?_) (P := H1.n) e2 p3 tvw.alen bvw.alen (trW N (newW p)).length 0 (by omega) n4 ?_
  · simpa using this
  · intro e G h4 h5
    have : ((trW N (newW p)).length : Int) ≤ N := by omega
    simp [h4, h5, e2.alen, this]
end Go.Proofs.YtmecbehegmgbhaaGreat.AM
namespace Go.Proofs.YtmecbehegmgbhaaGreat.AM
set_option linter.unusedSimpArgs false
set_option linter.unusedVariables false
set_option maxRecDepth 100000
set_option maxHeartbeats 2000000
open Go
attribute [-simp] AM.elems
def cntB (l : List Evt) (i : Nat) : Nat := (l.filter fun e : Evt => decide (e.1 < (i : Int))).length
theorem TraceOf_l {w : Wd} {l : List Evt} (hl : l.length ≤ 900000) {o1 : Nat → Prop} {P : Nat} {vt vb x2 x3 x4 v : AV} {Q : Out → Env → AH → Prop} {H0 : AH} (hv : EvV o1 H0 v l) (gP : H0.bk P = some ⟨[vt, vb, x2, x3, x4], true⟩) (ht : alen vt = some w.tasks.length) (htl : w.tasks.length ≤ 3)
    (m i : Nat) (hm : i + m = w.tasks.length) (hP : P < H0.n) (hQ : ∀ e G, Ext H0 G → get e 5 = some v → get e 9 = some (.I (cntB l w.tasks.length)) → Q (.brk 0) e G) :
    W Cd (.loop c_wFnTraceOf_l0) [(3, .ptr P 0), (5, v), (9, .I (cntB l i)), (10, .I i)] H0 Q := by
  suffices hh : ∀ H, Ext H0 H → W Cd (.loop c_wFnTraceOf_l0) [(3, .ptr P 0), (5, v), (9, .I (cntB l i)), (10, .I i)] H Q from hh H0 (Ext.refl _)
  induction m generalizing i with
  | zero =>
    intro H x
    rw [W_loop_as c_wFnTraceOf_l0.eq_1]
    have : i = w.tasks.length := by omega
    subst this
    have gP' := (x.2 _ hP).trans gP
    simp [load_bk gP', ht]
    exact hQ _ _ x rfl rfl
  | succ m ih =>
    intro H x
    rw [W_loop_as c_wFnTraceOf_l0.eq_1]
    have hlt' : (i : Int) < w.tasks.length := by omega
    have gP' := (x.2 _ hP).trans gP
    have hcount : cntB l (i + 1) = cntB l i + (l.filter fun e => e.1 = (i : Int)).length := by
      unfold cntB
      clear hv hQ ih hl
      induction l with
      | nil => rfl
      | cons e l ih =>
        by_cases c1 : e.1 < (i : Int)
        · have c2 : e.1 < ((i + 1 : Nat) : Int) := by omega
          have c3 : ¬ e.1 = (i : Int) := by omega
          simp only [List.filter_cons, c1, c2, c3, decide_true, decide_false, if_true, List.length_cons, ih]
          simp; omega
        · by_cases c3 : e.1 = (i : Int)
          · have c2 : e.1 < ((i + 1 : Nat) : Int) := by omega
            simp only [List.filter_cons, c1, c2, decide_true, decide_false, if_true, List.length_cons, ih]
            simp [c3]; omega
          · have c2 : ¬ e.1 < ((i + 1 : Nat) : Int) := by omega
            simp only [List.filter_cons, c1, c2, c3, decide_true, decide_false]
            simpa using ih
    have b1 : cntB l i ≤ l.length := List.length_filter_le _ l
    have b2 := List.length_filter_le (fun e : Evt => decide (e.1 = (i : Int))) l
    simp (disch := omega) [load_bk gP', ht, hlt']
    refine K_iTraceOf hl (hv.ext x) fun v' H' iv x' => ?_
    have := ih (i + 1) (by omega) H' (x.trans x')
    rw [hcount] at this
    simp (disch := omega) [iv.alen]
    simpa using this
theorem law_FnTraceOf {H : AH} {v : AV} {zs : List Int} (h : SlI H .u8 v zs) (hz : ∀ n ∈ zs, 0 ≤ n ∧ n < 256) : CallK Cd f_wFnTraceOf [v] H fun v _ => v = .b true := by
  rw [CallK_F, CallF_eq e_wFnTraceOf rfl]
  have hlen : alen v = some zs.length := by
    rcases h with ⟨rfl, rfl⟩ | ⟨rfl, rfl⟩ | ⟨b, rest, hb, rfl, hb2⟩ <;> rfl
  simp [hlen]
  refine cnd_mk (fun _ => by simp) (fun hl => ?_)
  simp
  refine K_sDrawWorldTrace h hz (by omega) fun c w n H1 wc hor hn x01 => ?_
  obtain ⟨bo, bx⟩ := orW_bo hor
  have bo2 := bo.2
  obtain ⟨vt, vb, vo, rfl, tvw, bvw, _⟩ := id wc
  have x1 := Ext.push H1 [vt, vb, .I w.turn, .I w.idle, vo]
  simp [store_push5e, loadN_push]
  refine K_iWorldTrace (wc.ext x1) bo.ct (by omega) (fun hn => ⟨bo.1, by omega⟩) (by omega) fun v2 H2 ev2 x2 => ?_
  have q3 : H2.bk H1.n = some ⟨[vt, vb, .I w.turn, .I w.idle, vo], true⟩ := (x2.2 _ (by simp)).trans push_new
  have y2 := x1.trans x2
  have n2 : H1.n < H2.n := by have := x2.1; simp at this; omega
  simp [loadN_bk q3]
  refine K_sWorldTrace (wc.ext y2) bo.ct (fun hn => ⟨bo.1, by omega⟩) fun v4 H4 ev4 x4 => ?_
  have z1 := y2.trans x4
  have z0 := x01.trans z1
  have p3 := (x4.2 _ n2).trans q3
  have n4 : H1.n < H4.n := by have := x4.1; omega
  have wc4 := wc.ext z1
  have e2 := ev2.ext x4
  simp
  refine T_wsameEvents e2 ev4 ?_
  have hF : (vaWd w = true ∧ 0 ≤ n ∧ n ≤ 100000) ∧ trF n w = (trW n.toNat w, true) ∨ trF n w = ([], false) := by
    unfold trF
    split
    · rename_i hh; exact .inl ⟨hh, rfl⟩
    · exact .inr rfl
  rcases hF with ⟨⟨hva, hn0, hn1⟩, hF⟩ | hF
  case inr =>
    rw [hF] at e2 ev4 ⊢
    simp
    exact T_wsameEvents e2 ev4 (by simp)
  rw [hF] at e2 ev4 ⊢
  clear hF ev2 ev4 q3 z1 y2 x2 x4 x1 x01 wc
  obtain ⟨N, rfl⟩ : ∃ N : Nat, n = N := ⟨n.toNat, by omega⟩
  simp only [Int.toNat_natCast] at e2
  have hN : N < 80 := by omega
  obtain ⟨p, hvp, rfl⟩ : ∃ p, vaPg p = true ∧ w = newW p := by
    rcases hor with rfl | q
    · simp [zeroW, vaWd] at hva
    · exact q
  have hk := runW_keeps N hva
  have hlen := trW_len N (newW p)
  have boN := boW.run (n := N) (m := 700000) (bo.le (by omega)) hva
  simp
  have hok := trW_ok N hva
  generalize trW N (newW p) = l at *
  have f0 : cntB l 0 = 0 := by
    unfold cntB
    rw [List.length_eq_zero_iff, List.filter_eq_nil_iff]
    intro e he
    have := (hok e he).1
    simp; omega
  have fn : cntB l (newW p).tasks.length = l.length := by
    unfold cntB
    rw [List.filter_eq_self.2 (fun e he => by have := (hok e he).2.1; simpa using this)]
  have := TraceOf_l (w := newW p) (l := l) (by omega) (Q := ?_) (P := H1.n) e2 p3 tvw.alen (by have := (vaWd_iff.1 hva).1; omega) (newW p).tasks.length 0 (by omega) n4 ?_
  · simpa [f0] using this
  · intro e G x h5 h9
    have fm : l.filter (fun e => e.1 = (-1 : Int)) = [] := by
      rw [List.filter_eq_nil_iff]
      intro e he
      have := (hok e he).1
      simp; omega
    rw [fn] at h9
    simp [h5, h9, (e2.ext x).alen]
    refine K_iTraceOf (by omega) (e2.ext x) fun v' H' i x' => ?_
    rw [fm] at i
    simp [i.alen]
end Go.Proofs.YtmecbehegmgbhaaGreat.AM
namespace Go.Proofs.YtmecbehegmgbhaaGreat.AM
set_option linter.unusedSimpArgs false
set_option linter.unusedVariables false
set_option maxRecDepth 100000
set_option maxHeartbeats 2000000
open Go
attribute [-simp] AM.elems
theorem new_items {p : Pg} {k : Nat} (hk : k < (newW p).boxes.length) : itemsAt (newW p).boxes k = [] := by
  have hl : k < p.rooms.length := by simpa [newW] using hk
  unfold itemsAt
  simp [newW, List.getElem?_eq_getElem hl]
theorem sent_got {w : Wd} {N k : Nat} (hva : vaWd w = true) (hk : k < w.boxes.length) (h0 : itemsAt w.boxes k = []) : valsL (sentP k) (trW N w) = valsL (gotP k) (trW N w) ++ itemsAt (runW N w).boxes k := by
  have := trW_items N hva k
  rwa [h0, List.nil_append] at this
theorem TraceFifo_l {w : Wd} {l : List Evt} (hl : l.length ≤ 900000) (hit : ∀ k < w.boxes.length, ∃ q : List Int, valsL (sentP k) l = valsL (gotP k) l ++ q) {o1 : Nat → Prop} {P : Nat} {vt vb x2 x3 x4 v : AV} {Q : Out → Env → AH → Prop} {H : AH} (hv : EvV o1 H v l) (gP : H.bk P = some ⟨[vt, vb, x2, x3, x4], true⟩) (ht : alen vb = some w.boxes.length) (htl : w.boxes.length ≤ 3)
    (m i : Nat) (hm : i + m = w.boxes.length) (hP : P < H.n) (hQ : ∀ e G, Q (.brk 0) e G) :
    W Cd (.loop c_wFnTraceFifo_l0) [(3, .ptr P 0), (5, v), (9, .I i)] H Q := by
  induction m generalizing i H with
  | zero =>
    rw [W_loop_as c_wFnTraceFifo_l0.eq_1]
    have : i = w.boxes.length := by omega
    subst this
    simp [load_bk gP, ht]
    exact hQ _ _
  | succ m ih =>
    rw [W_loop_as c_wFnTraceFifo_l0.eq_1]
    have hlt' : (i : Int) < w.boxes.length := by omega
    obtain ⟨q, hq⟩ := hit i (by omega)
    simp (disch := omega) [load_bk gP, ht, hlt']
    refine K_iTraceSent hv hl fun v1 H1 i1 y1 => ?_
    simp
    refine K_iTraceGot (hv.ext y1) hl fun v2 H2 i2 y2 => ?_
    simp
    have i1' := i1.ext y2
    rw [hq] at i1'
    have y := y1.trans y2
    have := ih (H := H2) (hv.ext y) ((y.2 _ hP).trans gP) (i + 1) (by omega) (by have := y.1; omega)
    refine T_wfirstInts i1' i2 ?_
    simp (disch := omega)
    simpa using this
theorem law_FnTraceFifo {H : AH} {v : AV} {zs : List Int} (h : SlI H .u8 v zs) (hz : ∀ n ∈ zs, 0 ≤ n ∧ n < 256) : CallK Cd f_wFnTraceFifo [v] H fun v _ => v = .b true := by
  rw [CallK_F, CallF_eq e_wFnTraceFifo rfl]
  have hlen : alen v = some zs.length := by
    rcases h with ⟨rfl, rfl⟩ | ⟨rfl, rfl⟩ | ⟨b, rest, hb, rfl, hb2⟩ <;> rfl
  simp [hlen]
  refine cnd_mk (fun _ => by simp) (fun hl => ?_)
  simp
  refine K_sDrawWorldTrace h hz (by omega) fun c w n H1 wc hor hn x01 => ?_
  obtain ⟨bo, bx⟩ := orW_bo hor
  have bo2 := bo.2
  obtain ⟨vt, vb, vo, rfl, tvw, bvw, _⟩ := id wc
  have x1 := Ext.push H1 [vt, vb, .I w.turn, .I w.idle, vo]
  simp [store_push5e, loadN_push]
  refine K_iWorldTrace (wc.ext x1) bo.ct (by omega) (fun hn => ⟨bo.1, by omega⟩) (by omega) fun v2 H2 ev2 x2 => ?_
  have q3 : H2.bk H1.n = some ⟨[vt, vb, .I w.turn, .I w.idle, vo], true⟩ := (x2.2 _ (by simp)).trans push_new
  have y2 := x1.trans x2
  have n2 : H1.n < H2.n := by have := x2.1; simp at this; omega
  simp [loadN_bk q3]
  refine K_sWorldTrace (wc.ext y2) bo.ct (fun hn => ⟨bo.1, by omega⟩) fun v4 H4 ev4 x4 => ?_
  have z1 := y2.trans x4
  have z0 := x01.trans z1
  have p3 := (x4.2 _ n2).trans q3
  have n4 : H1.n < H4.n := by have := x4.1; omega
  have wc4 := wc.ext z1
  have e2 := ev2.ext x4
  simp
  refine T_wsameEvents e2 ev4 ?_
  have hF : (vaWd w = true ∧ 0 ≤ n ∧ n ≤ 100000) ∧ trF n w = (trW n.toNat w, true) ∨ trF n w = ([], false) := by
    unfold trF
    split
    · rename_i hh; exact .inl ⟨hh, rfl⟩
    · exact .inr rfl
  rcases hF with ⟨⟨hva, hn0, hn1⟩, hF⟩ | hF
  case inr =>
    rw [hF] at e2 ev4 ⊢
    simp
    exact T_wsameEvents e2 ev4 (by simp)
  rw [hF] at e2 ev4 ⊢
  clear hF ev2 ev4 q3 z1 y2 x2 x4 x1 x01 wc
  obtain ⟨N, rfl⟩ : ∃ N : Nat, n = N := ⟨n.toNat, by omega⟩
  simp only [Int.toNat_natCast] at e2
  have hN : N < 80 := by omega
  obtain ⟨p, hvp, rfl⟩ : ∃ p, vaPg p = true ∧ w = newW p := by
    rcases hor with rfl | q
    · simp [zeroW, vaWd] at hva
    · exact q
  have hk := runW_keeps N hva
  have hlen := trW_len N (newW p)
  have boN := boW.run (n := N) (m := 700000) (bo.le (by omega)) hva
  simp
  have hit := fun k (hk : k < (newW p).boxes.length) => sent_got (N := N) hva hk (new_items hk)
  have := TraceFifo_l (w := newW p) (l := trW N (newW p)) (by omega) (fun k hk => ⟨_, hit k hk⟩) (Q := ?_) (P := H1.n) e2 p3 bvw.alen (by omega) (newW p).boxes.length 0 (by omega) n4 ?_
  · simpa using this
  · intro e G; simp
end Go.Proofs.YtmecbehegmgbhaaGreat.AM
namespace Go.Proofs.YtmecbehegmgbhaaGreat.AM
set_option linter.unusedSimpArgs false
set_option linter.unusedVariables false
set_option maxRecDepth 100000
set_option maxHeartbeats 2000000
open Go
attribute [-simp] AM.elems
theorem TraceItems_l {w x : Wd} {l : List Evt} (hl : l.length ≤ 900000) (hbx : x.boxes.length = w.boxes.length) (hit : ∀ k < w.boxes.length, valsL (sentP k) l = valsL (gotP k) l ++ itemsAt x.boxes k) {o1 o2 : Nat → Prop} {P R : Nat} {vt vb x2 x3 x4 v : AV} {wt wb y2 y3 y4 : AV} {Q : Out → Env → AH → Prop} {H : AH} (hv : EvV o1 H v l) (gP : H.bk P = some ⟨[vt, vb, x2, x3, x4], true⟩) (gR : H.bk R = some ⟨[wt, wb, y2, y3, y4], true⟩) (ht : alen vb = some w.boxes.length) (hb : BV o2 H wb x.boxes) (htl : w.boxes.length ≤ 3)
    (m i : Nat) (hm : i + m = w.boxes.length) (hP : P < H.n) (hR : R < H.n) (hQ : ∀ e G, get e 10 = some (.b true) → Q (.brk 0) e G) :
    W Cd (.loop c_wFnTraceItems_l0) [(3, .ptr P 0), (5, v), (9, .ptr R 0), (10, .b true), (11, .I i)] H Q := by
  induction m generalizing i H with
  | zero =>
    rw [W_loop_as c_wFnTraceItems_l0.eq_1]
    have : i = w.boxes.length := by omega
    subst this
    simp [load_bk gP, ht]
    exact hQ _ _ rfl
  | succ m ih =>
    rw [W_loop_as c_wFnTraceItems_l0.eq_1]
    have hlt' : (i : Int) < w.boxes.length := by omega
    have hq := hit i (by omega)
    obtain ⟨bx, hbi⟩ : ∃ bx, x.boxes[i]? = some bx := ⟨_, List.getElem?_eq_getElem (by omega)⟩
    have hia : itemsAt x.boxes i = bx.items := by unfold itemsAt; rw [hbi]; rfl
    rw [hia] at hq
    simp (disch := omega) [load_bk gP, ht, hlt']
    refine K_iTraceSent hv hl fun v1 H1 i1 y1 => ?_
    simp
    refine K_iTraceGot (hv.ext y1) hl fun v2 H2 i2 y2' => ?_
    have y := y1.trans y2'
    have i1' := i1.ext y2'
    have gR2 := (y.2 _ hR).trans gR
    have hlen : (valsL (sentP i) l).length = (valsL (gotP i) l).length + bx.items.length := by rw [hq, List.length_append]
    have b1 := valsL_len (pr := sentP i) (a := l)
    obtain ⟨v', s1, s2, s3⟩ := SlC.part (show SlC _ H2 v1 (valsL (sentP i) l).length 1 (Ints (valsL (sentP i) l)) from i1') (i := (valsL (gotP i) l).length) (j := (valsL (sentP i) l).length) (by omega) (Nat.le_refl _) (by omega) (lo := some (.I (valsL (gotP i) l).length)) (hi := none) (by simp [bnd, aint]) rfl
    have e4 : List.take (((valsL (sentP i) l).length - (valsL (gotP i) l).length) * 1) (List.drop ((valsL (gotP i) l).length * 1) (Ints (valsL (sentP i) l))) = Ints bx.items := by
      rw [hlen, hq]
      simp [Ints]
      exact List.take_of_length_le (by simp)
    rw [e4, show (valsL (sentP i) l).length - (valsL (gotP i) l).length = bx.items.length by omega] at s2
    have s2' : IV _ H2 v' bx.items := s2
    obtain ⟨b, o, cap, vi, e6, ob, hbn, l6, iv6⟩ := (hb.ext y).at hbi
    have e6' := e6
    subst e6'
    have l6' := loadN_get l6 (i := 1) (by omega)
    have hngt : ¬ ((valsL (sentP i) l).length : Int) < (valsL (gotP i) l).length := by omega
    have hxl : (i : Int) < x.boxes.length := by omega
    have rcc := ih (H := H2) (hv.ext y) ((y.2 _ hP).trans gP) gR2 (hb.ext y) (i + 1) (by omega) (by have := y.1; omega) (by have := y.1; omega)
    simp (disch := omega) [SlC.alen i1', SlC.alen i2, hngt, load_bk gR2, hxl, l6', s1]
    refine T_wsameInts iv6.sees s2'.sees ?_
    simp (disch := omega)
    simpa using rcc
theorem law_FnTraceItems {H : AH} {v : AV} {zs : List Int} (h : SlI H .u8 v zs) (hz : ∀ n ∈ zs, 0 ≤ n ∧ n < 256) : CallK Cd f_wFnTraceItems [v] H fun v _ => v = .b true := by
  rw [CallK_F, CallF_eq e_wFnTraceItems rfl]
  have hlen : alen v = some zs.length := by
    rcases h with ⟨rfl, rfl⟩ | ⟨rfl, rfl⟩ | ⟨b, rest, hb, rfl, hb2⟩ <;> rfl
  simp [hlen]
  refine cnd_mk (fun _ => by simp) (fun hl => ?_)
  simp
  refine K_sDrawWorldTrace h hz (by omega) fun c w n H1 wc hor hn x01 => ?_
  obtain ⟨bo, bx⟩ := orW_bo hor
  have bo2 := bo.2
  obtain ⟨vt, vb, vo, rfl, tvw, bvw, _⟩ := id wc
  have x1 := Ext.push H1 [vt, vb, .I w.turn, .I w.idle, vo]
  simp [store_push5e, loadN_push]
  refine K_iWorldTrace (wc.ext x1) bo.ct (by omega) (fun hn => ⟨bo.1, by omega⟩) (by omega) fun v2 H2 ev2 x2 => ?_
  have q3 : H2.bk H1.n = some ⟨[vt, vb, .I w.turn, .I w.idle, vo], true⟩ := (x2.2 _ (by simp)).trans push_new
  have y2 := x1.trans x2
  have n2 : H1.n < H2.n := by have := x2.1; simp at this; omega
  simp [loadN_bk q3]
  refine K_sWorldTrace (wc.ext y2) bo.ct (fun hn => ⟨bo.1, by omega⟩) fun v4 H4 ev4 x4 => ?_
  have z1 := y2.trans x4
  have z0 := x01.trans z1
  have p3 := (x4.2 _ n2).trans q3
  have n4 : H1.n < H4.n := by have := x4.1; omega
  have wc4 := wc.ext z1
  have e2 := ev2.ext x4
  simp
  refine T_wsameEvents e2 ev4 ?_
  have hF : (vaWd w = true ∧ 0 ≤ n ∧ n ≤ 100000) ∧ trF n w = (trW n.toNat w, true) ∨ trF n w = ([], false) := by
    unfold trF
    split
    · rename_i hh; exact .inl ⟨hh, rfl⟩
    · exact .inr rfl
  rcases hF with ⟨⟨hva, hn0, hn1⟩, hF⟩ | hF
  case inr =>
    rw [hF] at e2 ev4 ⊢
    simp
    exact T_wsameEvents e2 ev4 (by simp)
  rw [hF] at e2 ev4 ⊢
  clear hF ev2 ev4 q3 z1 y2 x2 x4 x1 x01 wc
  obtain ⟨N, rfl⟩ : ∃ N : Nat, n = N := ⟨n.toNat, by omega⟩
  simp only [Int.toNat_natCast] at e2
  have hN : N < 80 := by omega
  obtain ⟨p, hvp, rfl⟩ : ∃ p, vaPg p = true ∧ w = newW p := by
    rcases hor with rfl | q
    · simp [zeroW, vaWd] at hva
    · exact q
  have hk := runW_keeps N hva
  have hlen := trW_len N (newW p)
  have boN := boW.run (n := N) (m := 700000) (bo.le (by omega)) hva
  simp
  have eN : runF (N : Int) (newW p) = (runW N (newW p), true) := by
    unfold runF; rw [if_pos ⟨hva, by omega, by omega⟩, Int.toNat_natCast]
  simp [loadN_bk p3]
  refine K_iWorldRun wc4 bo.ct (by omega) (fun _ => ⟨bo.1, by omega⟩) (by omega) fun c5 H8 wc8 x8 => ?_
  rw [eN] at wc8 ⊢
  simp only at wc8
  obtain ⟨vt5, vb5, vo5, rfl, tv5, bv5, iv5⟩ := id wc8
  have x9 := Ext.push H8 [vt5, vb5, .I (runW N (newW p)).turn, .I (runW N (newW p)).idle, vo5]
  have q9 : (H8.push [vt5, vb5, .I (runW N (newW p)).turn, .I (runW N (newW p)).idle, vo5]).bk H8.n = some ⟨[vt5, vb5, .I (runW N (newW p)).turn, .I (runW N (newW p)).idle, vo5], true⟩ := push_new
  have hit := fun k (hk : k < (newW p).boxes.length) => sent_got (N := N) hva hk (new_items hk)
  simp [store_push5e]
  have hbl : (runW N (newW p)).boxes.length = (newW p).boxes.length := hk.2.2.1
  have := TraceItems_l (w := newW p) (x := runW N (newW p)) (l := trW N (newW p)) (by omega) hbl hit (Q := ?_) (P := H1.n) (R := H8.n) (e2.ext (x8.trans x9)) (((x8.trans x9).2 _ n4).trans p3) q9 bvw.alen (bv5.ext x9) (by omega) (newW p).boxes.length 0 (by omega) (by simp; have := x8.1; omega) (by simp) ?_
  · simpa using this
  · intro e G h10; simp [h10]
end Go.Proofs.YtmecbehegmgbhaaGreat.AM
namespace Go.Proofs.YtmecbehegmgbhaaGreat.AM
set_option linter.unusedSimpArgs false
set_option linter.unusedVariables false
set_option maxRecDepth 100000
set_option maxHeartbeats 2000000
open Go
attribute [-simp] AM.elems
theorem TraceRoom_l1 {w : Wd} {l : List Evt} (hl : l.length ≤ 900000) {i : Nat} (hi : i ≤ l.length) (hrm : ∀ k < w.boxes.length, ∃ q : List Int, ∃ bx, w.boxes[k]? = some bx ∧ valsL (sentP k) (l.take i) = valsL (gotP k) (l.take i) ++ q ∧ (q.length : Int) ≤ bx.room) {o1 o2 : Nat → Prop} {P : Nat} {vt vb x2 x3 x4 v : AV} {Q : Out → Env → AH → Prop} {H0 : AH} (hv : EvV o1 H0 v l) (gP : H0.bk P = some ⟨[vt, vb, x2, x3, x4], true⟩) (hb : BV o2 H0 vb w.boxes) (htl : w.boxes.length ≤ 3)
    (hP : P < H0.n) (m k : Nat) (hm : k + m = w.boxes.length) (hQ : ∀ e G, Ext H0 G → get e 3 = some (.ptr P 0) → get e 5 = some v → get e 9 = some (.I i) → Q (.brk 2) e G) :
    ∀ H, Ext H0 H → W Cd (.loop c_wFnTraceRoom_l1) [(3, .ptr P 0), (5, v), (9, .I i), (10, .I k)] H Q := by
  induction m generalizing k with
  | zero =>
    intro H x
    rw [W_loop_as c_wFnTraceRoom_l1.eq_1]
    have : k = w.boxes.length := by omega
    subst this
    have gP' := (x.2 _ hP).trans gP
    simp [load_bk gP', hb.alen]
    exact hQ _ _ x rfl rfl rfl
  | succ m ih =>
    intro H x
    rw [W_loop_as c_wFnTraceRoom_l1.eq_1]
    have hlt' : (k : Int) < w.boxes.length := by omega
    obtain ⟨q, bx, hbi, hq, hql⟩ := hrm k (by omega)
    have gP' := (x.2 _ hP).trans gP
    obtain ⟨v', a1, a2⟩ := (hv.ext x).take hi
    have hlt2 : (l.take i).length ≤ 900000 := by rw [List.length_take]; omega
    simp (disch := omega) [load_bk gP', hb.alen, hlt', a1]
    refine K_iTraceSent a2 hlt2 fun v1 H1 i1 y1 => ?_
    simp [y1, SlC.alen i1, a1]
    refine K_iTraceGot (a2.ext y1) hlt2 fun v2 H2 i2 y2' => ?_
    have y := y1.trans y2'
    have gP2 := (y.2 _ (by have := x.1; omega)).trans gP'
    have hlen : (valsL (sentP k) (l.take i)).length = (valsL (gotP k) (l.take i)).length + q.length := by rw [hq, List.length_append]
    have b1 := valsL_len (pr := sentP k) (a := l.take i)
    have b2 := valsL_len (pr := gotP k) (a := l.take i)
    obtain ⟨b, o, cap, vi, e6, ob, hbn, l6, iv6⟩ := ((hb.ext x).ext y).at hbi
    have l6' : H2.load b (o + k * 2) = some (.I bx.room) := by simpa using loadN_get l6 (i := 0) (by omega)
    have rcc := ih (k + 1) (by omega) H2 (x.trans y)
    have halen := hb.alen
    have hsl := e6
    subst hsl
    have c1 : ¬ ((valsL (sentP k) (l.take i)).length : Int) - (valsL (gotP k) (l.take i)).length < 0 := by omega
    have c2 : ¬ bx.room < ((valsL (sentP k) (l.take i)).length : Int) - (valsL (gotP k) (l.take i)).length := by omega
    simp (disch := omega) [y2', SlC.alen i2, c1, c2, load_bk gP2, hlt', l6']
    simpa using rcc
theorem TraceRoom_l {w : Wd} {l : List Evt} (hl : l.length ≤ 900000) (hrm : ∀ i ≤ l.length, ∀ k < w.boxes.length, ∃ q : List Int, ∃ bx, w.boxes[k]? = some bx ∧ valsL (sentP k) (l.take i) = valsL (gotP k) (l.take i) ++ q ∧ (q.length : Int) ≤ bx.room) {o1 o2 : Nat → Prop} {P : Nat} {vt vb x2 x3 x4 v : AV} {Q : Out → Env → AH → Prop} {H : AH} (hv : EvV o1 H v l) (gP : H.bk P = some ⟨[vt, vb, x2, x3, x4], true⟩) (hb : BV o2 H vb w.boxes) (htl : w.boxes.length ≤ 3)
    (m i : Nat) (hm : i + m = l.length) (hP : P < H.n) (hQ : ∀ e G, Q (.brk 0) e G) :
    W Cd (.loop c_wFnTraceRoom_l0) [(3, .ptr P 0), (5, v), (9, .I i)] H Q := by
  induction m generalizing i H with
  | zero =>
    rw [W_loop_as c_wFnTraceRoom_l0.eq_1]
    have : i = l.length := by omega
    subst this
    simp [hv.alen]
    have := TraceRoom_l1 hl (Nat.le_refl _) (hrm _ (Nat.le_refl _)) hv gP hb htl hP (Q := ?_) w.boxes.length 0 (by omega) ?_ H (Ext.refl _)
    · simpa using this
    · intro e G x h3 h5 h9
      simp (disch := omega) [h3, h5, h9]
      rw [W_loop_as c_wFnTraceRoom_l0.eq_1]
      have hnl : ¬ ((l.length : Int) + 1 ≤ l.length) := by omega
      simp [(hv.ext x).alen, hnl]
      exact hQ _ _
  | succ m ih =>
    rw [W_loop_as c_wFnTraceRoom_l0.eq_1]
    have hle' : (i : Int) ≤ l.length := by omega
    simp [hv.alen, hle']
    have := TraceRoom_l1 hl (by omega) (hrm i (by omega)) hv gP hb htl hP (Q := ?_) w.boxes.length 0 (by omega) ?_ H (Ext.refl _)
    · simpa using this
    · intro e G x h3 h5 h9
      have rcc := ih (H := G) (hv.ext x) ((x.2 _ hP).trans gP) (hb.ext x) (i + 1) (by omega) (by have := x.1; omega)
      simp (disch := omega) [h3, h5, h9]
      simpa using rcc
theorem law_FnTraceRoom {H : AH} {v : AV} {zs : List Int} (h : SlI H .u8 v zs) (hz : ∀ n ∈ zs, 0 ≤ n ∧ n < 256) : CallK Cd f_wFnTraceRoom [v] H fun v _ => v = .b true := by
  rw [CallK_F, CallF_eq e_wFnTraceRoom rfl]
  have hlen : alen v = some zs.length := by
    rcases h with ⟨rfl, rfl⟩ | ⟨rfl, rfl⟩ | ⟨b, rest, hb, rfl, hb2⟩ <;> rfl
  simp [hlen]
  refine cnd_mk (fun _ => by simp) (fun hl => ?_)
  simp
  refine K_sDrawWorldTrace h hz (by omega) fun c w n H1 wc hor hn x01 => ?_
  obtain ⟨bo, bx⟩ := orW_bo hor
  have bo2 := bo.2
  obtain ⟨vt, vb, vo, rfl, tvw, bvw, _⟩ := id wc
  have x1 := Ext.push H1 [vt, vb, .I w.turn, .I w.idle, vo]
  simp [store_push5e, loadN_push]
  refine K_iWorldTrace (wc.ext x1) bo.ct (by omega) (fun hn => ⟨bo.1, by omega⟩) (by omega) fun v2 H2 ev2 x2 => ?_
  have q3 : H2.bk H1.n = some ⟨[vt, vb, .I w.turn, .I w.idle, vo], true⟩ := (x2.2 _ (by simp)).trans push_new
  have y2 := x1.trans x2
  have n2 : H1.n < H2.n := by have := x2.1; simp at this; omega
  simp [loadN_bk q3]
  refine K_sWorldTrace (wc.ext y2) bo.ct (fun hn => ⟨bo.1, by omega⟩) fun v4 H4 ev4 x4 => ?_
  have z1 := y2.trans x4
  have z0 := x01.trans z1
  have p3 := (x4.2 _ n2).trans q3
  have n4 : H1.n < H4.n := by have := x4.1; omega
  have wc4 := wc.ext z1
  have e2 := ev2.ext x4
  simp
  refine T_wsameEvents e2 ev4 ?_
  have hF : (vaWd w = true ∧ 0 ≤ n ∧ n ≤ 100000) ∧ trF n w = (trW n.toNat w, true) ∨ trF n w = ([], false) := by
    unfold trF
    split
    · rename_i hh; exact .inl ⟨hh, rfl⟩
    · exact .inr rfl
  rcases hF with ⟨⟨hva, hn0, hn1⟩, hF⟩ | hF
  case inr =>
    rw [hF] at e2 ev4 ⊢
    simp
    exact T_wsameEvents e2 ev4 (by simp)
  rw [hF] at e2 ev4 ⊢
  clear hF ev2 ev4 q3 z1 y2 x2 x4 x1 x01 wc
  obtain ⟨N, rfl⟩ : ∃ N : Nat, n = N := ⟨n.toNat, by omega⟩
  simp only [Int.toNat_natCast] at e2
  have hN : N < 80 := by omega
  obtain ⟨p, hvp, rfl⟩ : ∃ p, vaPg p = true ∧ w = newW p := by
    rcases hor with rfl | q
    · simp [zeroW, vaWd] at hva
    · exact q
  have hk := runW_keeps N hva
  have hlen := trW_len N (newW p)
  have boN := boW.run (n := N) (m := 700000) (bo.le (by omega)) hva
  simp
  have hrm : ∀ i ≤ (trW N (newW p)).length, ∀ k < (newW p).boxes.length, ∃ q : List Int, ∃ bx, (newW p).boxes[k]? = some bx ∧ valsL (sentP k) ((trW N (newW p)).take i) = valsL (gotP k) ((trW N (newW p)).take i) ++ q ∧ (q.length : Int) ≤ bx.room := by
    intro i hi k hk2
    obtain ⟨m, hm, e⟩ := trW_take N (newW p) i hi
    rw [e]
    have hkm := runW_keeps m hva
    obtain ⟨bx, hbx⟩ : ∃ bx, (newW p).boxes[k]? = some bx := ⟨_, List.getElem?_eq_getElem hk2⟩
    refine ⟨_, bx, hbx, sent_got hva hk2 (new_items hk2), ?_⟩
    obtain ⟨by', hby⟩ : ∃ y, (runW m (newW p)).boxes[k]? = some y := ⟨_, List.getElem?_eq_getElem (by have := hkm.2.2.1; omega)⟩
    have hia : itemsAt (runW m (newW p)).boxes k = by'.items := by unfold itemsAt; rw [hby]; rfl
    rw [hia]
    have h3 := (vaWd_iff.1 hkm.1).2.2.1
    unfold vaBs at h3
    simp only [Bool.and_eq_true] at h3
    have h6 := List.all_eq_true.1 h3.1 by' (List.mem_of_getElem? hby)
    unfold vaB at h6
    simp only [Bool.and_eq_true, decide_eq_true_eq] at h6
    have hr : by'.room = bx.room := by
      have := congrArg (fun l => l[k]?) hkm.2.2.2.1
      simp only [List.getElem?_map, hbx, hby, Option.map_some, Option.some.injEq] at this
      exact this
    omega
  have := TraceRoom_l (w := newW p) (l := trW N (newW p)) (by omega) hrm (Q := ?_) (P := H1.n) e2 p3 (show BV _ H4 vb (newW p).boxes from (by
    obtain ⟨_, _, _, e, _, b, _⟩ := wc4
    simp only [List.cons.injEq, and_true, true_and] at e
    obtain ⟨rfl, rfl, rfl⟩ := e
    exact b)) (by omega) (trW N (newW p)).length 0 (by omega) n4 ?_
  · simpa using this
  · intro e G; simp
end Go.Proofs.YtmecbehegmgbhaaGreat.AM
