/-
  Soundness of the abstract machine, third part: the theorem on a region that draws its order. No condition.
-/
import Derived.Test.YtdgmihohmkdpjaaDoorAMi
namespace Go.Proofs.YtdgmihohmkdpjaaDoor.AM
set_option linter.unusedSimpArgs false
set_option linter.unusedVariables false
open Go Go.RowKit

section
variable {P : Program} {NG : Nat} {l : List AO} {E : Nat → Env} {HH : Nat → AH} {vs : Nat → AV}

/-- What an operation that is no call needs of the heap. -/
theorem aop_local {e : Env} {H H' : AH} {op v} (hc : isCall op = false) (h : aop e H op = some (v, H')) :
    (match clsOf ⟨none, none, [], false, op⟩ with
     | .p => H' = H ∧ ∀ G, aop e G op = some (v, G)
     | .l x => H' = H ∧ ∃ b o, ev e x = some (.ptr b o) ∧ (H.bk b).isSome = true ∧ ∀ G : AH, G.bk b = H.bk b → aop e G op = some (v, G)
     | .a => ∃ cs, H' = H.push cs ∧ (∃ o, v = .ptr H.n o ∨ ∃ n c, v = .sl H.n o n c) ∧ ∀ G : AH, G.n = H.n → aop e G op = some (v, G.push cs)
     | _ => True) := by
  cases op <;> simp only [isCall, Bool.true_eq_false] at hc <;> simp only [clsOf] <;> simp only [AM.aop] at h ⊢
  case alloc z =>
    simp only [Option.some.injEq, Prod.mk.injEq] at h; obtain ⟨rfl, rfl⟩ := h
    exact ⟨z, rfl, ⟨0, .inl rfl⟩, fun G hG => by rw [hG]⟩
  case box x =>
    cases hx : ev e x with
    | none => rw [hx] at h; cases h
    | some u =>
      rw [hx] at h
      simp only at h ⊢
      split at h
      · cases h
      · rename_i ht
        simp only [Option.some.injEq, Prod.mk.injEq] at h; obtain ⟨rfl, rfl⟩ := h
        exact ⟨u.cells, rfl, ⟨0, .inl rfl⟩, fun G hG => by rw [if_neg ht, hG]⟩
  case mksl z l c =>
    cases hl : ev e l with
    | none => rw [hl] at h; cases h
    | some u =>
      cases hcc : ev e c with
      | none => rw [hl, hcc] at h; cases u <;> cases h
      | some u' =>
        rw [hl, hcc] at h
        cases u <;> first | (cases h; done) | skip
        cases u' <;> first | (cases h; done) | skip
        simp only at h ⊢
        split at h
        · rename_i hr
          simp only [Option.some.injEq, Prod.mk.injEq] at h; obtain ⟨rfl, rfl⟩ := h
          exact ⟨_, rfl, ⟨0, .inr ⟨_, _, rfl⟩⟩, fun G hG => by rw [if_pos hr, hG]⟩
        · cases h
  case bsl z n ps =>
    cases hp : evParts e ps with
    | none => rw [hp] at h; cases h
    | some us =>
      rw [hp] at h
      simp only at h ⊢
      obtain ⟨cs, hcs, e2⟩ := map_some h
      simp only [Prod.mk.injEq] at e2; obtain ⟨rfl, rfl⟩ := e2
      exact ⟨cs, rfl, ⟨0, .inr ⟨_, _, rfl⟩⟩, fun G hG => by rw [hcs, Option.map_some, hG]⟩
  case app => trivial
  case load x =>
    cases hx : ev e x with
    | none => rw [hx] at h; cases h
    | some u =>
      rw [hx] at h
      cases u <;> first | (cases h; done) | skip
      rename_i b o
      simp only at h ⊢
      obtain ⟨r, hr, e2⟩ := map_some h
      simp only [Prod.mk.injEq] at e2; obtain ⟨rfl, rfl⟩ := e2
      refine ⟨rfl, b, o, rfl, ?_, fun G hG => ?_⟩
      · unfold AH.load at hr
        cases hk : H.bk b with
        | none => rw [hk] at hr; cases hr
        | some k => rfl
      · have : G.load b o = H.load b o := by unfold AH.load; rw [hG]
        rw [this, hr]; rfl
  case loadN n x =>
    cases hx : ev e x with
    | none => rw [hx] at h; cases h
    | some u =>
      rw [hx] at h
      cases u <;> first | (cases h; done) | skip
      rename_i b o
      simp only at h ⊢
      obtain ⟨r, hr, e2⟩ := map_some h
      simp only [Prod.mk.injEq] at e2; obtain ⟨rfl, rfl⟩ := e2
      refine ⟨rfl, b, o, rfl, ?_, fun G hG => ?_⟩
      · unfold AH.loadN at hr
        cases hk : H.bk b with
        | none => rw [hk] at hr; cases hr
        | some k => rfl
      · have : G.loadN b o n = H.loadN b o n := by unfold AH.loadN; rw [hG]
        rw [this, hr]; rfl
  case mv => obtain ⟨u, hu, e2⟩ := map_some h; cases e2; exact ⟨rfl, fun G => by rw [hu]; rfl⟩
  case pick c a b =>
    split at h
    · rename_i hq; obtain ⟨u, hu, e2⟩ := map_some h; cases e2; exact ⟨rfl, fun G => by simp only [hq, hu]; rfl⟩
    · rename_i hq; obtain ⟨u, hu, e2⟩ := map_some h; cases e2; exact ⟨rfl, fun G => by simp only [hq, hu]; rfl⟩
    · cases h
  case nilc => split at h <;> first | (rename_i hq; cases h; exact ⟨rfl, fun G => by simp only [hq]⟩) | cases h
  case bin => split at h <;> first | (rename_i hq hq'; obtain ⟨u, hu, e2⟩ := map_some h; cases e2; exact ⟨rfl, fun G => by simp only [hq, hq', hu]; rfl⟩) | cases h
  case eqB => split at h <;> first | (rename_i hq hq'; cases h; exact ⟨rfl, fun G => by simp only [hq, hq']⟩) | cases h
  case eqN =>
    split at h
    · rename_i hq hq'
      split at h <;> first | (rename_i g g'; cases h; refine ⟨rfl, fun G => ?_⟩; simp only [hq, hq', g, g']; done) | cases h
    · cases h
  case eqA =>
    split at h
    · rename_i hq hq'
      split at h
      · rename_i g; obtain ⟨u, hu, e2⟩ := map_some h; cases e2; exact ⟨rfl, fun G => by simp only [hq, hq', if_pos g, hu]; rfl⟩
      · cases h
    · cases h
  case un => split at h <;> first | (rename_i hq; obtain ⟨u, hu, e2⟩ := map_some h; cases e2; exact ⟨rfl, fun G => by simp only [hq, hu]; rfl⟩) | cases h
  case conv => split at h <;> first | (rename_i hq; cases h; exact ⟨rfl, fun G => by simp only [hq]⟩) | cases h
  case slice => split at h <;> first | (rename_i h1 h2 h3 h4; obtain ⟨u, hu, e2⟩ := map_some h; cases e2; exact ⟨rfl, fun G => by simp only [h1, h2, h3, h4, hu]; rfl⟩) | cases h
  case fldA => split at h <;> first | (rename_i hq; cases h; exact ⟨rfl, fun G => by simp only [hq]⟩) | cases h
  case fld => split at h <;> first | (rename_i hq; obtain ⟨u, hu, e2⟩ := map_some h; cases e2; exact ⟨rfl, fun G => by simp only [hq, hu]; rfl⟩) | cases h
  case fldN => split at h <;> first | (rename_i hq; obtain ⟨u, hu, e2⟩ := map_some h; cases e2; exact ⟨rfl, fun G => by simp only [hq, hu]; rfl⟩) | cases h
  case idxA =>
    split at h
    · rename_i hq hq'
      split at h
      · rename_i g; cases h; exact ⟨rfl, fun G => by simp only [hq, hq', if_pos g]⟩
      · cases h
    · cases h
  case idxAA =>
    split at h
    · rename_i hq hq'
      split at h
      · rename_i g; cases h; exact ⟨rfl, fun G => by simp only [hq, hq', if_pos g]⟩
      · cases h
    · cases h
  case idx =>
    split at h
    · rename_i hq hq'
      split at h
      · rename_i g; cases h; exact ⟨rfl, fun G => by simp only [hq, hq', dif_pos g]⟩
      · cases h
    · cases h
  case ext => split at h <;> first | (rename_i hq; obtain ⟨u, hu, e2⟩ := map_some h; cases e2; exact ⟨rfl, fun G => by simp only [hq, hu]; rfl⟩) | cases h
  case mkfn => split at h <;> first | (rename_i hq hq'; cases h; exact ⟨rfl, fun G => by simp only [hq, hq']⟩) | cases h
  case build => split at h <;> first | (rename_i hq; obtain ⟨u, hu, e2⟩ := map_some h; cases e2; exact ⟨rfl, fun G => by simp only [hq, hu]; rfl⟩) | cases h
  case len => split at h <;> first | (rename_i hq; obtain ⟨u, hu, e2⟩ := map_some h; cases e2; exact ⟨rfl, fun G => by simp only [hq, hu]; rfl⟩) | cases h
  case mx => split at h <;> first | (rename_i hq hq'; cases h; exact ⟨rfl, fun G => by simp only [hq, hq']⟩) | cases h
  case mn => split at h <;> first | (rename_i hq hq'; cases h; exact ⟨rfl, fun G => by simp only [hq, hq']⟩) | cases h

/-- The relation, seen from another heap that agrees where it lives. -/
theorem RelH.view {NG ρ G w} (h : RelH NG ρ G w) {H : AH} (hwf : Wf H) (hag : ∀ b r, ρ b = some r → b < H.n → H.bk b = G.bk b) : RelH NG ρ H w := by
  have key : ∀ b r k, ρ b = some r → H.bk b = some k → G.bk b = some k := by
    intro b r k hb hk
    rcases Nat.lt_or_ge b H.n with q | q
    · rw [← hag b r hb q]; exact hk
    · rw [hwf b q] at hk; cases hk
  exact ⟨hwf, h.glob, h.dom, fun b B o x k hb hk => h.row b B o x k hb (key b _ k hb hk), fun b B o x k hb hk => h.own b B o x k hb (key b _ k hb hk),
    fun b b' B o x o' x' k k' hne hb hb' hk hk' => h.dis b b' B o x o' x' k k' hne hb hb' (key b _ k hb hk) (key b' _ k' hb' hk')⟩

/-- A step of the part's heap is a step of the whole's. -/
theorem RelH.widen {NG ρ G w ρ' H H' w' G'} (hG : RelH NG ρ G w) (hH : RelH NG ρ H w) (hag : ∀ b r, ρ b = some r → b < H.n → H.bk b = G.bk b) (ha : Adv ρ H w ρ' H' w') (hH' : RelH NG ρ' H' w') (hfr : Fresh ρ H.n H'.n)
    (hwf : Wf G') (g1 : ∀ b r, ρ' b = some r → b < H'.n → G'.bk b = H'.bk b) (g2 : ∀ b r, ρ b = some r → H'.n ≤ b → G'.bk b = G.bk b) : RelH NG ρ' G' w' := by
  -- a block of the whole beyond the part
  have old : ∀ b r, ρ' b = some r → H'.n ≤ b → ρ b = some r := by
    intro b r hb hn
    obtain ⟨B, o, x⟩ := r
    rcases ha.new b B o x hb with h1 | ⟨_, h2, _⟩
    · exact h1
    · omega
  have quiet : ∀ b B o x k, ρ b = some (B, o, x) → H'.n ≤ b → G.bk b = some k → Quiet ρ H B := by
    intro b B o x k hb hn hk b3 o3 x3 k3 h3 hk3
    have hlt : b3 < H.n := by
      rcases Nat.lt_or_ge b3 H.n with q | q
      · exact q
      · rw [hH.wf b3 q] at hk3; cases hk3
    have hg3 : G.bk b3 = some k3 := by rw [← hag b3 _ h3 hlt]; exact hk3
    have hne : b3 ≠ b := by have := ha.mon.n; omega
    exact hG.dis b3 b B o3 x3 o x k3 k hne h3 hb hg3 hk
  have heap : ∀ b B o x k, ρ b = some (B, o, x) → H'.n ≤ b → G.bk b = some k → w'.heap[B]? = w.heap[B]? := fun b B o x k hb hn hk =>
    ha.fr.heap B (hG.dom b B o x hb) (quiet b B o x k hb hn hk)
  have mixed : ∀ b1 b2 B o1 x1 o2 x2 k1 k2, ρ' b1 = some (B, o1, x1) → b1 < H'.n → H'.bk b1 = some k1 → ρ b2 = some (B, o2, x2) → H'.n ≤ b2 → G.bk b2 = some k2 → k1.wr = false ∧ k2.wr = false := by
    intro b1 b2 B o1 x1 o2 x2 k1 k2 h1 hn1 hk1 h2 hn2 hk2
    have q := quiet b2 B o2 x2 k2 h2 hn2 hk2
    rcases ha.new b1 B o1 x1 h1 with h | ⟨_, _, h | h⟩
    · have hlt : b1 < H.n := by
        rcases Nat.lt_or_ge b1 H.n with q | q
        · exact q
        · rw [hfr b1 q hn1] at h; cases h
      obtain ⟨k0, hk0, hw⟩ := ha.mon.old b1 hlt k1 hk1
      have hg0 : G.bk b1 = some k0 := by rw [← hag b1 _ h hlt]; exact hk0
      have hne : b1 ≠ b2 := by omega
      have d1 := hG.dis b1 b2 B o1 x1 o2 x2 k0 k2 hne h h2 hg0 hk2
      have d2 := hG.dis b2 b1 B o2 x2 o1 x1 k2 k0 (Ne.symm hne) h2 h hk2 hg0
      refine ⟨?_, d2⟩
      cases hq : k1.wr with
      | false => rfl
      | true => rw [hw hq] at d1; cases d1
    · have := hG.dom b2 B o2 x2 h2; omega
    · exact absurd q h
  refine ⟨hwf, hH'.glob, hH'.dom, ?_, ?_, ?_⟩
  · intro b B o x k hb hk
    rcases Nat.lt_or_ge b H'.n with q | q
    · rw [g1 b _ hb q] at hk; exact hH'.row b B o x k hb hk
    · have hb0 := old b _ hb q
      rw [g2 b _ hb0 q] at hk
      have hr := hG.row b B o x k hb0 hk
      exact ⟨hr.1, hr.2.mono ha.sub (heap b B o x k hb0 q hk)⟩
  · intro b B o x k hb hk hw
    rcases Nat.lt_or_ge b H'.n with q | q
    · rw [g1 b _ hb q] at hk; exact hH'.own b B o x k hb hk hw
    · have hb0 := old b _ hb q
      rw [g2 b _ hb0 q] at hk
      rw [heap b B o x k hb0 q hk]
      exact hG.own b B o x k hb0 hk hw
  · intro b1 b2 B o1 x1 o2 x2 k1 k2 hne h1 h2 hk1 hk2
    rcases Nat.lt_or_ge b1 H'.n with q1 | q1
    · rw [g1 b1 _ h1 q1] at hk1
      rcases Nat.lt_or_ge b2 H'.n with q2 | q2
      · rw [g1 b2 _ h2 q2] at hk2
        exact hH'.dis b1 b2 B o1 x1 o2 x2 k1 k2 hne h1 h2 hk1 hk2
      · have hb2 := old b2 _ h2 q2
        rw [g2 b2 _ hb2 q2] at hk2
        exact (mixed b1 b2 B o1 x1 o2 x2 k1 k2 h1 q1 hk1 hb2 q2 hk2).1
    · have hb1 := old b1 _ h1 q1
      rw [g2 b1 _ hb1 q1] at hk1
      rcases Nat.lt_or_ge b2 H'.n with q2 | q2
      · rw [g1 b2 _ h2 q2] at hk2
        exact (mixed b2 b1 B o2 x2 o1 x1 k2 k1 h2 q2 hk2 hb1 q1 hk1).2
      · have hb2 := old b2 _ h2 q2
        rw [g2 b2 _ hb2 q2] at hk2
        exact hG.dis b1 b2 B o1 x1 o2 x2 k1 k2 hne hb1 hb2 hk1 hk2

end
end Go.Proofs.YtdgmihohmkdpjaaDoor.AM
