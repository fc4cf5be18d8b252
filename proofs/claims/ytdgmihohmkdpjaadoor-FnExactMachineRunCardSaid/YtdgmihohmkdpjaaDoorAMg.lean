/-
  The abstract machine's operations, last part: every operation that calls nothing is simulated; heaps only grow or die. No condition.
-/
import Derived.Test.YtdgmihohmkdpjaaDoorAMf
namespace Go.Proofs.YtdgmihohmkdpjaaDoor.AM
set_option linter.unusedSimpArgs false
set_option linter.unusedVariables false
open Go Go.RowKit

theorem telem_inv {P : Program} {t e : TypeId} (h : telem P t = some e) : P.underlying t = some (.slice e) := by
  unfold telem at h
  split at h
  · rename_i E hE; rw [hE]; cases h; rfl
  · cases h

/-- Every operation that calls nothing does what its twin says. -/
theorem sim_of_fit {P : Program} {NG : Nat} (o : Oper) (op : AOp) (hc : isCall op = false) (h : fitOp P NG o.op op = true) : Sim P NG o op := by
  obtain ⟨dst, mo, ty, pos, after, guard⟩ := o
  simp only at h
  cases mo with
  | move x => cases op <;> first | (simp [fitOp] at h; done) | exact sim_mv (.inl rfl) h
  | assign x => cases op <;> first | (simp [fitOp] at h; done) | exact sim_mv (.inr rfl) h
  | pick c a b =>
    cases op <;> first | (simp [fitOp] at h; done) | skip
    simp only [fitOp, Bool.and_eq_true] at h
    exact sim_pick rfl h.1.1 h.1.2 h.2
  | alloc t => cases op <;> first | (simp [fitOp] at h; done) | exact sim_alloc rfl h
  | box t x => cases op <;> first | (simp [fitOp] at h; done) | exact sim_box rfl h
  | load t x =>
    cases op <;> first | (simp [fitOp] at h; done) | skip
    · simp only [fitOp, Bool.and_eq_true, beq_iff_eq] at h
      exact sim_load rfl h.1 h.2
    · simp only [fitOp, Bool.and_eq_true, beq_iff_eq] at h
      exact sim_loadN rfl h.1.1 h.1.2 h.2
  | store t a v =>
    cases op <;> first | (simp [fitOp] at h; done) | skip
    simp only [fitOp, Bool.and_eq_true, beq_iff_eq] at h
    exact sim_store rfl h.1.1 h.1.2 h.2
  | nilCheck x => cases op <;> first | (simp [fitOp] at h; done) | exact sim_nilc rfl h
  | binOp bo t x y yt =>
    cases op <;> first | (simp [fitOp] at h; done) | skip
    · simp only [fitOp, Bool.and_eq_true, decide_eq_true_eq] at h
      obtain ⟨⟨rfl, h1⟩, h2⟩ := h
      exact sim_bin rfl h1 h2
    · simp only [fitOp, Bool.and_eq_true, decide_eq_true_eq] at h
      obtain ⟨⟨⟨h0, h1⟩, h2⟩, h3⟩ := h
      refine sim_eqB rfl h0 h1 h2 ?_
      split at h3
      · assumption
      · cases h3
    · simp only [fitOp, Bool.and_eq_true, decide_eq_true_eq] at h
      obtain ⟨⟨⟨h0, h1⟩, h2⟩, h3⟩ := h
      exact sim_eqN rfl h0 h1 h2 h3
    · simp only [fitOp, Bool.and_eq_true, decide_eq_true_eq] at h
      obtain ⟨⟨⟨h0, h1⟩, h2⟩, h3⟩ := h
      exact sim_eqA rfl h0 h1 h2 h3
  | unOp uo t x =>
    cases op <;> first | (simp [fitOp] at h; done) | skip
    simp only [fitOp, Bool.and_eq_true, decide_eq_true_eq] at h
    obtain ⟨rfl, h1⟩ := h
    exact sim_un rfl h1
  | convert s t x =>
    cases op <;> first | (simp [fitOp] at h; done) | skip
    simp only [fitOp, Bool.and_eq_true] at h
    obtain ⟨⟨h1, h2⟩, h3⟩ := h
    split at h3
    · rename_i k' hk
      simp only [decide_eq_true_eq] at h3; subst h3
      exact sim_conv rfl h1 h2 hk
    · cases h3
  | makeSlice t l c =>
    cases op <;> first | (simp [fitOp] at h; done) | skip
    simp only [fitOp, Bool.and_eq_true] at h
    obtain ⟨⟨h1, h2⟩, h3⟩ := h
    split at h3
    · rename_i el hel
      simp only [Bool.and_eq_true, beq_iff_eq, decide_eq_true_eq] at h3
      exact sim_mksl rfl h1 h2 hel h3.1.1.1 h3.1.1.2 h3.1.2 h3.2
    · cases h3
  | slice t x lo hi mx =>
    cases op <;> first | (simp [fitOp] at h; done) | skip
    simp only [fitOp, Bool.and_eq_true] at h
    obtain ⟨⟨⟨⟨h1, h2⟩, h3⟩, h4⟩, h5⟩ := h
    split at h5
    · rename_i el hel
      simp only [beq_iff_eq] at h5
      exact sim_slice rfl h1 h2 h3 h4 (telem_inv hel) h5
    · cases h5
  | fieldAddr t x f =>
    cases op <;> first | (simp [fitOp] at h; done) | skip
    simp only [fitOp, Bool.and_eq_true] at h
    obtain ⟨h1, h2⟩ := h
    split at h2
    · rename_i d hd
      simp only [Bool.and_eq_true, beq_iff_eq] at h2
      refine sim_fldA rfl h1 hd h2.1 ?_
      have := h2.2
      split at this
      · cases this
      · rename_i n hne hn
        cases n with
        | zero => exact absurd rfl hne
        | succ n => exact ⟨n, hn⟩
      · cases this
    · cases h2
  | field t x f =>
    cases op <;> first | (simp [fitOp] at h; done) | skip
    · simp only [fitOp, Bool.and_eq_true] at h
      obtain ⟨h1, h2⟩ := h
      split at h2
      · rename_i d hd
        simp only [Bool.and_eq_true, beq_iff_eq] at h2
        exact sim_fld rfl h1 hd h2.1 h2.2
      · cases h2
    · simp only [fitOp, Bool.and_eq_true] at h
      obtain ⟨h1, h2⟩ := h
      split at h2
      · rename_i d hd
        simp only [Bool.and_eq_true, beq_iff_eq] at h2
        exact sim_fldN rfl h1 hd h2.1.1 h2.1.2 h2.2
      · cases h2
  | indexAddr t x i =>
    cases op <;> first | (simp [fitOp] at h; done) | skip
    · simp only [fitOp, Bool.and_eq_true] at h
      obtain ⟨⟨h1, h2⟩, h3⟩ := h
      split at h3
      · rename_i el hel
        simp only [beq_iff_eq] at h3
        exact sim_idxA rfl h1 h2 (telem_inv hel) h3
      · cases h3
    · simp only [fitOp, Bool.and_eq_true] at h
      obtain ⟨⟨h1, h2⟩, h3⟩ := h
      split at h3
      · rename_i n el hel
        simp only [Bool.and_eq_true, beq_iff_eq] at h3
        obtain ⟨rfl, h4⟩ := h3
        exact sim_idxAA rfl h1 h2 hel h4
      · cases h3
  | index t x i =>
    cases op <;> first | (simp [fitOp] at h; done) | skip
    simp only [fitOp, Bool.and_eq_true] at h
    obtain ⟨⟨h1, h2⟩, h3⟩ := h
    refine sim_idx rfl h1 h2 ?_
    split at h3
    · assumption
    · cases h3
  | extract x i =>
    cases op <;> first | (simp [fitOp] at h; done) | skip
    simp only [fitOp, Bool.and_eq_true, beq_iff_eq] at h
    obtain ⟨h1, rfl⟩ := h
    exact sim_ext rfl h1
  | makeFunc fn first cap =>
    cases op <;> first | (simp [fitOp] at h; done) | skip
    simp only [fitOp, Bool.and_eq_true] at h
    obtain ⟨⟨h1, h2⟩, h3⟩ := h
    split at h1
    · simp only [beq_iff_eq] at h1; subst h1
      exact sim_mkfn rfl h2 h3
    · cases h1
  | build t ps =>
    cases op <;> first | (simp [fitOp] at h; done) | skip
    simp only [fitOp, Bool.and_eq_true] at h
    obtain ⟨h1, h2⟩ := h
    split at h2
    · rename_i fs hfs
      simp only [Bool.and_eq_true] at h2
      exact sim_build rfl h1 hfs h2.1 h2.2
    · cases h2
  | buildSlice t len ps =>
    cases op <;> first | (simp [fitOp] at h; done) | skip
    simp only [fitOp, Bool.and_eq_true, beq_iff_eq] at h
    obtain ⟨rfl, h2⟩ := h
    split at h2
    · rename_i el hel
      split at h2
      · rename_i i hi
        split at h2
        · rename_i v hv
          simp only [Bool.and_eq_true, decide_eq_true_eq] at h2
          exact sim_bsl rfl (telem_inv hel) hi hv h2.1.1 h2.1.2 h2.2
        · cases h2
      · cases h2
    · cases h2
  | call c =>
    cases op <;> first | (simp [fitOp] at h; done) | (simp [isCall] at hc; done) | skip
    · simp only [fitOp] at h
      split at h
      · rename_i x t ts h1 h2 h3
        simp only [Bool.and_eq_true] at h
        obtain ⟨el, hel⟩ := Option.isSome_iff_exists.mp h.2
        exact sim_len rfl h1 h2 h3 h.1 (telem_inv hel)
      · cases h
    · simp only [fitOp] at h
      split at h
      · rename_i a b t u h1 h2 h3
        simp only [Bool.and_eq_true] at h
        obtain ⟨⟨h4, h5⟩, h6⟩ := h
        split at h6
        · rename_i e e' he he'
          simp only [Bool.and_eq_true, beq_iff_eq] at h6
          obtain ⟨⟨h7, h8⟩, h9⟩ := h6
          split at h9
          · rename_i i hi
            split at h9
            · rename_i z hz
              simp only [beq_iff_eq] at h9
              have hb : i.bytes ≤ 8192 := by simpa [tbytes, hi] using h8
              exact sim_app rfl h1 h2 h3 h4 h5 (telem_inv he) (telem_inv he') hi (by simpa [tsize, hi] using h7) hb hz h9
            · cases h9
          · cases h9
        · cases h6
      · cases h
    · simp only [fitOp] at h
      split at h
      · rename_i a b h1 h2
        simp only [Bool.and_eq_true] at h
        exact sim_mx rfl h1 h2 h.1 h.2
      · cases h
    · simp only [fitOp] at h
      split at h
      · rename_i a b h1 h2
        simp only [Bool.and_eq_true] at h
        exact sim_mn rfl h1 h2 h.1 h.2
      · cases h
  | _ => cases op <;> (simp [fitOp] at h; done)

/-! ### A heap only grows; a block only changes or dies -/
def Wf (H : AH) : Prop := ∀ b, H.n ≤ b → H.bk b = none
structure Mon (H H' : AH) : Prop where
  n : H.n ≤ H'.n
  old : ∀ b, b < H.n → ∀ k', H'.bk b = some k' → ∃ k, H.bk b = some k ∧ (k'.wr = true → k.wr = true)
  wf : Wf H → Wf H'

theorem Mon.refl (H : AH) : Mon H H := ⟨Nat.le_refl _, fun _ _ k' h => ⟨k', h, id⟩, id⟩
theorem Mon.trans {a b c : AH} (h : Mon a b) (k : Mon b c) : Mon a c := by
  refine ⟨Nat.le_trans h.1 k.1, fun x hx k' hk' => ?_, fun q => k.wf (h.wf q)⟩
  obtain ⟨k1, h1, w1⟩ := k.2 x (Nat.lt_of_lt_of_le hx h.1) k' hk'
  obtain ⟨k2, h2, w2⟩ := h.2 x hx k1 h1
  exact ⟨k2, h2, fun e => w2 (w1 e)⟩
theorem Mon.push (H : AH) (cs) : Mon H (H.push cs) := ⟨Nat.le_succ _, fun b hb k' hk => ⟨k', by rw [← hk]; simp [AH.push]; omega, id⟩, fun q b hb => by
  have hb' : H.n + 1 ≤ b := hb
  simp only [AH.push]; rw [if_neg (by omega)]; exact q b (by omega)⟩
theorem Mon.kill (H : AH) (b) : Mon H (H.put b none) := by
  refine ⟨Nat.le_refl _, fun b' _ k' hk => ?_, fun q b' hb' => by simp only [AH.put]; split <;> first | rfl | exact q b' hb'⟩
  by_cases e : b' = b
  · subst e; simp [AH.put] at hk
  · exact ⟨k', by simpa [AH.put, e] using hk, id⟩
theorem Mon.store {H H' : AH} {b o vs} (h : H.store b o vs = some H') : Mon H H' := by
  unfold AH.store at h
  split at h
  · rename_i k hk
    split at h
    · rename_i hc
      simp only [Option.some.injEq] at h; subst h
      refine ⟨Nat.le_refl _, fun b' _ k' hk' => ?_, fun q b' hb' => ?_⟩
      · by_cases e : b' = b
        · subst e; exact ⟨k, hk, fun _ => hc.1⟩
        · exact ⟨k', by simpa [AH.put, e] using hk', id⟩
      · have hb2 : H.n ≤ b' := hb'
        have : b' ≠ b := fun e => by subst e; rw [q b' hb2] at hk; cases hk
        simp only [AH.put, if_neg this]; exact q b' hb2
    · cases h
  · cases h
theorem Mon.aapp {H H' : AH} {sz s n new v} (h : aapp H sz s n new = some (v, H')) : Mon H H' := by
  unfold AM.aapp at h
  split at h
  · split at h
    · cases h; exact Mon.refl _
    · split at h
      · cases h; exact Mon.push _ _
      · cases h
  · split at h
    · cases h; exact Mon.refl _
    · cases h
  · split at h
    · cases h; exact Mon.refl _
    · split at h
      · cases h
      · split at h
        · cases h
        · split at h
          · obtain ⟨H1, h1, e⟩ := map_some h; cases e; exact Mon.store h1
          · split at h
            · cases h; exact Mon.push _ _
            · cases h
        · split at h
          · cases h
          · split at h
            · obtain ⟨H1, h1, e⟩ := map_some h; cases e; exact Mon.store h1
            · split at h
              · split at h
                · cases h; exact (Mon.kill _ _).trans (Mon.push _ _)
                · cases h
              · cases h
  · cases h

theorem Mon.aop {e : Env} {H H' : AH} {op v} (h : aop e H op = some (v, H')) : Mon H H' := by
  cases op <;> simp only [AM.aop] at h
  case mv => obtain ⟨_, _, e⟩ := map_some h; cases e; exact Mon.refl _
  case pick => split at h <;> first | (obtain ⟨_, _, e⟩ := map_some h; cases e; exact Mon.refl _) | cases h
  case alloc => cases h; exact Mon.push _ _
  case box =>
    split at h
    · split at h
      · cases h
      · cases h; exact Mon.push _ _
    · cases h
  case load => split at h <;> first | (obtain ⟨_, _, e⟩ := map_some h; cases e; exact Mon.refl _) | cases h
  case loadN => split at h <;> first | (obtain ⟨_, _, e⟩ := map_some h; cases e; exact Mon.refl _) | cases h
  case store =>
    split at h
    · split at h
      · obtain ⟨_, h1, e⟩ := map_some h; cases e; exact Mon.store h1
      · cases h
    · cases h
  case nilc => split at h <;> cases h <;> exact Mon.refl _
  case bin => split at h <;> first | (obtain ⟨_, _, e⟩ := map_some h; cases e; exact Mon.refl _) | cases h
  case eqB => split at h <;> cases h <;> exact Mon.refl _
  case eqN =>
    split at h
    · split at h <;> cases h <;> exact Mon.refl _
    · cases h
  case eqA =>
    split at h
    · split at h
      · obtain ⟨_, _, e⟩ := map_some h; cases e; exact Mon.refl _
      · cases h
    · cases h
  case un => split at h <;> first | (obtain ⟨_, _, e⟩ := map_some h; cases e; exact Mon.refl _) | cases h
  case conv => split at h <;> cases h <;> exact Mon.refl _
  case mksl =>
    split at h
    · split at h
      · cases h; exact Mon.push _ _
      · cases h
    · cases h
  case slice => split at h <;> first | (obtain ⟨_, _, e⟩ := map_some h; cases e; exact Mon.refl _) | cases h
  case fldA => split at h <;> cases h <;> exact Mon.refl _
  case fld => split at h <;> first | (obtain ⟨_, _, e⟩ := map_some h; cases e; exact Mon.refl _) | cases h
  case fldN => split at h <;> first | (obtain ⟨_, _, e⟩ := map_some h; cases e; exact Mon.refl _) | cases h
  case idxA =>
    split at h
    · split at h <;> cases h <;> exact Mon.refl _
    · cases h
  case idxAA =>
    split at h
    · split at h <;> cases h <;> exact Mon.refl _
    · cases h
  case idx =>
    split at h
    · split at h <;> cases h <;> exact Mon.refl _
    · cases h
  case ext => split at h <;> first | (obtain ⟨_, _, e⟩ := map_some h; cases e; exact Mon.refl _) | cases h
  case mkfn => split at h <;> cases h <;> exact Mon.refl _
  case build => split at h <;> first | (obtain ⟨_, _, e⟩ := map_some h; cases e; exact Mon.refl _) | cases h
  case bsl => split at h <;> first | (obtain ⟨_, _, e⟩ := map_some h; cases e; exact Mon.push _ _) | cases h
  case len => split at h <;> first | (obtain ⟨_, _, e⟩ := map_some h; cases e; exact Mon.refl _) | cases h
  case app =>
    split at h
    · split at h
      · exact Mon.aapp h
      · cases h
    · cases h
  case mx => split at h <;> cases h <;> exact Mon.refl _
  case mn => split at h <;> cases h <;> exact Mon.refl _
  all_goals cases h

theorem E_mon {C : FuncId → Option AFn} {c r} (h : E C c r) : match c, r with
    | .code _ _ H, .out _ _ H' => Mon H H'
    | .ops _ _ H, .ops _ H' => Mon H H'
    | .call _ _ H, .val _ H' => Mon H H'
    | _, _ => True := by
  induction h with
  | skip => exact Mon.refl _
  | keep => exact Mon.refl _
  | ops _ ih => exact ih
  | @seqN a b e H e' H' r h1 _ i1 i2 => cases r <;> first | trivial | exact Mon.trans i1 i2
  | seqX _ _ ih => exact ih
  | @cond x a b e H t r _ _ ih => cases r <;> first | trivial | exact ih
  | blockX _ _ ih => exact ih
  | blockB _ ih => exact ih
  | @loopN a e H e' H' r _ _ i1 i2 => cases r <;> first | trivial | exact Mon.trans i1 i2
  | loopX _ _ ih => exact ih
  | exit => exact Mon.refl _
  | ret => exact Mon.refl _
  | nil => exact Mon.refl _
  | @pass o l e H r _ _ ih => cases r <;> first | trivial | exact ih
  | @op o l e H v H' r _ _ ho _ _ _ ih => cases r <;> first | trivial | exact Mon.trans (Mon.aop ho) ih
  | @call o l e H f args v H' r _ _ _ _ _ _ i1 i2 => cases r <;> first | trivial | exact Mon.trans i1 i2
  | enter _ _ _ _ _ ih => exact ih

/-! ### A step forward, of both machines -/
structure Adv (ρ : Rho) (H : AH) (w : World) (ρ' : Rho) (H' : AH) (w' : World) : Prop where
  sub : Sub ρ ρ'
  new : NewB ρ H w ρ' H'.n
  mon : Mon H H'
  fr : Fr ρ H w w'

theorem Adv.refl (ρ H w) : Adv ρ H w ρ H w := ⟨Sub.refl _, NewB.refl _ _ _ _, Mon.refl _, Fr.refl _ _ _⟩

theorem Adv.quiet {NG ρ H w ρ' H' w'} (hH : RelH NG ρ H w) (hfr : Fresh ρ H.n H'.n) (h : Adv ρ H w ρ' H' w') {B : Nat} (hB : B < w.heap.size) (q : Quiet ρ H B) : Quiet ρ' H' B := by
  intro b o x k hb hk
  rcases h.new b B o x hb with h1 | ⟨_, _, h2 | h2⟩
  · have hlt : b < H.n := by
      rcases Nat.lt_or_ge b H.n with q | q
      · exact q
      · rcases Nat.lt_or_ge b H'.n with q' | q'
        · rw [hfr b q q'] at h1; cases h1
        · rw [h.mon.wf hH.wf b q'] at hk; cases hk
    obtain ⟨k0, hk0, hw⟩ := h.mon.old b hlt k hk
    have := q b o x k0 h1 hk0
    cases hkw : k.wr with
    | false => rfl
    | true => rw [hw hkw] at this; cases this
  · omega
  · exact absurd q h2

theorem Adv.fresh {ρ H w ρ1 H1 w1} (h : Adv ρ H w ρ1 H1 w1) {n : Nat} (hfr : Fresh ρ H.n n) (_ : H1.n ≤ n) : Fresh ρ1 H1.n n := by
  intro b hb1 hb2
  cases hq : ρ1 b with
  | none => rfl
  | some r =>
    obtain ⟨B, o, x⟩ := r
    rcases h.new b B o x hq with h1 | ⟨_, h2, _⟩
    · rw [hfr b (Nat.le_trans h.mon.n hb1) hb2] at h1; cases h1
    · omega
theorem Fresh.sub {ρ : Rho} {n n1 n2 : Nat} (h : Fresh ρ n n2) (k : n1 ≤ n2) : Fresh ρ n n1 := fun b h1 h2 => h b h1 (Nat.lt_of_lt_of_le h2 k)

theorem Adv.trans {NG ρ H w ρ1 H1 w1 ρ2 H2 w2} (hH : RelH NG ρ H w) (hfr : Fresh ρ H.n H1.n) (h : Adv ρ H w ρ1 H1 w1) (k : Adv ρ1 H1 w1 ρ2 H2 w2) : Adv ρ H w ρ2 H2 w2 := by
  refine ⟨h.sub.trans k.sub, ?_, h.mon.trans k.mon, ?_⟩
  · intro b B o x hb
    rcases k.new b B o x hb with h1 | ⟨hn, hn2, h2⟩
    · rcases h.new b B o x h1 with h3 | ⟨h3, h4, h5⟩
      · exact .inl h3
      · exact .inr ⟨h3, Nat.lt_of_lt_of_le h4 k.mon.n, h5⟩
    · refine .inr ⟨Nat.le_trans h.mon.n hn, hn2, ?_⟩
      rcases Nat.lt_or_ge B w.heap.size with hB | hB
      · right
        intro q
        have hq := h.quiet hH hfr hB q
        rcases h2 with h2 | h2
        · have := h.fr.size; omega
        · exact h2 hq
      · exact .inl hB
  · refine ⟨k.fr.os.trans h.fr.os, k.fr.tape.trans h.fr.tape, k.fr.output.trans h.fr.output, Nat.le_trans h.fr.size k.fr.size, fun B hB q => ?_⟩
    rw [k.fr.heap B (Nat.lt_of_lt_of_le hB h.fr.size) (h.quiet hH hfr hB q), h.fr.heap B hB q]

theorem Sim.adv {P NG o op} (h : Sim P NG o op) {ρ e H a w v H'} (he : RelE ρ e a.tmps) (hH : RelH NG ρ H w) (hfr : Fresh ρ H.n H'.n) (ho : aop e H op = some (v, H')) :
    ∃ ρ' cv w', Came P o a w cv w' ∧ Adv ρ H w ρ' H' w' ∧ RelH NG ρ' H' w' ∧ VR ρ' v cv := by
  obtain ⟨ρ', cv, w', hc, hs, hn, hH', hv, hf⟩ := h ρ e H a w v H' he hH hfr ho
  exact ⟨ρ', cv, w', hc, ⟨hs, hn, Mon.aop ho, hf⟩, hH', hv⟩

end Go.Proofs.YtdgmihohmkdpjaaDoor.AM
