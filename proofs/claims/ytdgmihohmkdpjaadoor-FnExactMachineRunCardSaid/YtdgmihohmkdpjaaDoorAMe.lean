/-
  The abstract machine's operations, third part: what makes memory: make, literals, slices of slices, append. No condition.
-/
import Derived.Test.YtdgmihohmkdpjaaDoorAMd
namespace Go.Proofs.YtdgmihohmkdpjaaDoor.AM
set_option linter.unusedSimpArgs false
set_option linter.unusedVariables false
open Go Go.RowKit

section
variable {P : Program} {NG : Nat} {o : Oper}

theorem flat_flatten {z : List AV} (h : z.all AV.flat = true) (n : Nat) : ((List.replicate n z).flatten).all AV.flat = true := by
  refine List.all_eq_true.2 fun x hx => ?_
  obtain ⟨l, hl, hx⟩ := List.mem_flatten.1 hx
  rw [(List.mem_replicate.1 hl).2] at hx
  exact List.all_eq_true.1 h x hx

theorem range_zero (zero : Array Value) (n : Nat) : ((Array.range (n * zero.size)).map (fun i => zero[i % zero.size]!)).toList = (List.replicate n zero.toList).flatten := by
  induction n with
  | zero => simp
  | succ n ih =>
    rw [List.replicate_succ', List.flatten_append, ← ih]
    simp only [Array.toList_map, Array.toList_range, Nat.succ_mul, List.range_add, List.map_append, List.flatten_cons, List.flatten_nil, List.append_nil]
    congr 1
    apply List.ext_getElem
    · simp
    · intro i h1 h2
      simp only [List.length_map, List.length_range] at h1
      simp only [List.getElem_map, List.getElem_range, Array.getElem_toList]
      have hi : i < zero.size := h1
      have e1 : (n * zero.size + i) % zero.size = i := by rw [Nat.add_comm, Nat.add_mul_mod_self_right]; exact Nat.mod_eq_of_lt hi
      rw [e1]; exact getElem!_pos zero i hi

theorem map_range0 (f : Nat → Value) : (Array.range 0).map f = #[] := Array.toList_inj.1 (by simp)

theorem sim_mksl {t l c l' c' z el} (ho : o.op = .makeSlice t l c) (h1 : fitX NG l l' = true) (h2 : fitX NG c c' = true) (ht : telem P t = some el) (hz : tzero P el z = true) (hsz : tsize P el = some z.length) (hb : tbytes P el = true) (_ : z.length ≠ 0) : Sim P NG o (.mksl z l' c') := by
  intro ρ e H a w v H' he hH hfr h
  simp only [aop] at h
  split at h
  · rename_i kl ln kc cn hl hc
    split at h
    · rename_i hr
      obtain ⟨hr1, hr2, hr3⟩ := hr
      simp only [Option.some.injEq, Prod.mk.injEq] at h; obtain ⟨rfl, rfl⟩ := h
      have e1 := (ev_VR hH.glob he h1 hl).i_inv
      have e2 := (ev_VR hH.glob he h2 hc).i_inv
      unfold big at hr3
      have ht' : P.underlying t = some (.slice el) := by
        unfold telem at ht; split at ht
        · rename_i E hE; rw [hE]; cases ht; rfl
        · cases ht
      unfold tzero at hz
      split at hz
      · rename_i i hi
        split at hz
        · rename_i u hu
          have hv := okVs_VRs (ρ := ρ) hz
          have hsize : i.size = z.length := by simpa [tsize, hi] using hsz
          have hbytes : i.bytes ≤ 8192 := by simpa [tbytes, hi] using hb
          have hzs : u.cells.size = i.size := by rw [hsize, hv.1.1]; simp
          have wl : IntKind.i64.wrap ln = ln := IntWalk.i64_in _ (by omega)
          have wc : IntKind.i64.wrap cn = cn := IntWalk.i64_in _ (by omega)
          have hlarge : ¬ ((i.bytes : Int) * cn > 2 ^ 48) := by
            have k1 : (i.bytes : Int) * cn ≤ 8192 * cn := Int.mul_le_mul_of_nonneg_right (by omega) (by omega)
            have k2 : (8192 : Int) * cn ≤ 8192 * 8589934592 := Int.mul_le_mul_of_nonneg_left (by omega) (by omega)
            omega
          have hn : ρ H.n = none := hfr _ (Nat.le_refl _) (Nat.lt_succ_self _)
          have hp := hH.push hn (hv.1.flatten_replicate cn.toNat) (flat_flatten hv.2 cn.toNat) [] el
          have hcells : (Array.range (cn.toNat * i.size)).map (fun j => u.cells[j % u.cells.size]!) = ((List.replicate cn.toNat u.cells.toList).flatten ++ []).toArray := by
            apply Array.toList_inj.1
            rw [← hzs, range_zero]; simp
          refine ⟨_, .slice (some ⟨w.heap.size, 0, none⟩) ln.toNat cn.toNat, _, .inl ?_, add_sub hn _, NewB.add _ _ _ (.inl (Nat.le_refl _)), hp, .slE (o0 := 0) (Rho.add_same _ _ _) (by omega), Fr.alloc _ _ _ _⟩
          unfold execOp; rw [ho]; apply run_value
          have hroom : ∀ w : World, (askRoom (cn.toNat * i.bytes)).run P w = .ok () w := by intro w; unfold askRoom; split <;> simp [mark, Sem.run]
          simp only [Instr.makeSlice, Sem.run_bind, run_underlying ht', Result.andThen_ok, e1, e2, asInt, asIntOf, Sem.run_pure, typeInfo, run_program, hi, wl, wc]
          have c1 : (cn < 0 || (i.bytes : Int) * cn > 2 ^ 48) = false := by simp only [Bool.or_eq_false_iff, decide_eq_false_iff_not]; exact ⟨by omega, hlarge⟩
          have c2 : (ln < 0) = False := by simp; omega
          have c3 : (ln > cn) = False := by simp; omega
          simp only [c1, c2, c3, decide_false, Bool.or_self, Bool.false_eq_true, if_false, Sem.run_bind, Sem.run_pure, Result.andThen_ok, hroom, sizeOf, typeInfo, run_program, hi, newRow]
          have hzv : (zeroValue el).run P w = .ok u w := by simp [zeroValue, typeInfo, hi, hu]
          rw [← hcells]
          by_cases hz0 : cn.toNat * i.size = 0
          · simp [hz0, newObj, Sem.run, map_range0]
          · simp [hz0, hzv, newObj, Sem.run]
        · cases hz
      · cases hz
    · cases h
  · cases h

theorem VR.slice_cases {ρ : Rho} {b off len cap X} (h : VR ρ (.sl b off len cap) X) : ∃ B o0 x c, ρ b = some (B, o0, x) ∧ X = .slice (some ⟨B, o0 + off, none⟩) len c ∧ len ≤ c ∧
    (match cap with | .ex c0 => c = c0 | .lb c0 sz => len ≤ c0 ∧ c0 ≤ c ∧ off + c * sz ≤ x | .ro => True) := by
  cases h with
  | slE hq hl => exact ⟨_, _, _, _, hq, rfl, hl, rfl⟩
  | slL hq h1 h2 h3 => exact ⟨_, _, _, _, hq, rfl, by omega, h1, h2, h3⟩
  | slR hq hl => exact ⟨_, _, _, _, hq, rfl, hl, trivial⟩

theorem aint_VR {ρ : Rho} {v X n} (h : VR ρ v X) (k : aint (some v) = some n) : ∃ kk i, X = .int kk i ∧ 0 ≤ i ∧ i.toNat = n := by
  cases h <;> simp only [aint] at k <;> first | (cases k; done) | skip
  split at k
  · rename_i hi; simp only [Option.some.injEq] at k; exact ⟨_, _, rfl, hi, k⟩
  · cases k

theorem sliceBound_run {P : Program} {kk : IntKind} {i : Int} {y : Nat} {code : BoundsCode} (h0 : 0 ≤ i) (h1 : i ≤ y) (w : World) : (Instr.sliceBound (.int kk i) y code).run P w = .ok i.toNat w := by
  simp [Instr.sliceBound, asIntOf, h0, h1]

/-- An optional operand's value. -/
def VRo (ρ : Rho) : Option AV → Option Value → Prop
  | none, none => True
  | some v, some X => VR ρ v X
  | _, _ => False
theorem evo_VRo {ρ : Rho} {e : Env} {a : Act} (hg : ∀ g, g < NG → ∃ x, ρ g = some (g, 0, x)) (he : RelE ρ e a.tmps) {x y v} (hf : fitO NG x y = true) (hv : evo e y = some v) : VRo ρ v (x.map a.eval) := by
  cases x <;> cases y <;> simp only [fitO] at hf <;> first | (cases hf; done) | skip
  · simp only [evo, Option.some.injEq] at hv; subst hv; trivial
  · simp only [evo] at hv
    obtain ⟨u, hu, rfl⟩ := map_some hv
    exact ev_VR hg he hf hu

theorem bnd_VRo {ρ : Rho} {v X d n} (h : VRo ρ v X) (k : bnd d v = some n) : (v = none ∧ X = none ∧ n = d) ∨ (∃ kk i, X = some (.int kk i) ∧ 0 ≤ i ∧ i.toNat = n ∧ v ≠ none) := by
  cases v <;> cases X <;> simp only [VRo] at h <;> first | (cases h; done) | skip
  · left; simp only [bnd, Option.some.injEq] at k; exact ⟨rfl, rfl, k.symm⟩
  · right; obtain ⟨kk, i, rfl, h0, h1⟩ := aint_VR h k; exact ⟨kk, i, rfl, h0, h1, by simp⟩

theorem run_sliceBounds {P : Program} {ρ : Rho} {lo hi : Option AV} {LO HI : Option Value} {len cap l h : Nat} (w : World) (h1 : VRo ρ lo LO) (h2 : VRo ρ hi HI) (k1 : bnd 0 lo = some l) (k2 : bnd len hi = some h) (hl : l ≤ h) (hc : h ≤ cap) :
    (Instr.sliceBounds true len cap LO HI none).run P w = .ok (l, h, cap) w := by
  rcases bnd_VRo h1 k1 with ⟨_, rfl, rfl⟩ | ⟨kk, i, rfl, a1, a2, _⟩ <;> rcases bnd_VRo h2 k2 with ⟨_, rfl, rfl⟩ | ⟨kk', i', rfl, b1, b2, _⟩
  · simp [Instr.sliceBounds]
  · simp [Instr.sliceBounds, sliceBound_run b1 (show i' ≤ (cap : Int) by omega), b2]
  · simp [Instr.sliceBounds, sliceBound_run a1 (show i ≤ (h : Int) by omega), a2]
  · simp [Instr.sliceBounds, sliceBound_run b1 (show i' ≤ (cap : Int) by omega), b2, sliceBound_run a1 (show i ≤ (h : Int) by omega), a2]

theorem run_sliceBounds3 {P : Program} {ρ : Rho} {lo hi mx : Option AV} {LO HI MX : Option Value} {len cap l h m : Nat} (w : World) (h1 : VRo ρ lo LO) (h2 : VRo ρ hi HI) (h3 : VRo ρ mx MX) (k1 : bnd 0 lo = some l) (k2 : bnd len hi = some h) (k3 : bnd 0 mx = some m)
    (hne : hi ≠ none) (hne2 : mx ≠ none) (hl : l ≤ h) (hm : h ≤ m) (hc : m ≤ cap) :
    (Instr.sliceBounds true len cap LO HI MX).run P w = .ok (l, h, m) w := by
  rcases bnd_VRo h3 k3 with ⟨e, _, _⟩ | ⟨kk2, i2, rfl, c1, c2, _⟩
  · exact absurd e hne2
  rcases bnd_VRo h2 k2 with ⟨e, _, _⟩ | ⟨kk', i', rfl, b1, b2, _⟩
  · exact absurd e hne
  rcases bnd_VRo h1 k1 with ⟨_, rfl, rfl⟩ | ⟨kk, i, rfl, a1, a2, _⟩
  · simp [Instr.sliceBounds, sliceBound_run c1 (show i2 ≤ (cap : Int) by omega), c2, sliceBound_run b1 (show i' ≤ (m : Int) by omega), b2]
  · simp [Instr.sliceBounds, sliceBound_run c1 (show i2 ≤ (cap : Int) by omega), c2, sliceBound_run b1 (show i' ≤ (m : Int) by omega), b2, sliceBound_run a1 (show i ≤ (h : Int) by omega), a2]

theorem sim_slice {t x lo hi mx sz x' lo' hi' mx' el} (ho : o.op = .slice t x lo hi mx) (h1 : fitX NG x x' = true) (h2 : fitO NG lo lo' = true) (h3 : fitO NG hi hi' = true) (h4 : fitO NG mx mx' = true)
    (ht : P.underlying t = some (.slice el)) (hsz : tsize P el = some sz) : Sim P NG o (.slice sz x' lo' hi' mx') := by
  apply Sim.pure_
  intro ρ e a w H v H' hg he hH h
  simp only [aop] at h
  split at h
  · rename_i X LO HI MX hX hLO hHI hMX
    obtain ⟨r, hr, e2⟩ := map_some h; cases e2
    have vX := ev_VR hg he h1 hX
    have vLO := evo_VRo hg he h2 hLO
    have vHI := evo_VRo hg he h3 hHI
    have vMX := evo_VRo hg he h4 hMX
    obtain ⟨j, hj, hj2⟩ := map_some (show (P.info? el).map (·.size) = some sz from hsz)
    have run : ∀ (base : Option Addr) (len cap l h m : Nat), a.eval x = .slice base len cap → (Instr.sliceBounds true len cap (lo.map a.eval) (hi.map a.eval) (mx.map a.eval)).run P w = .ok (l, h, m) w →
        (execOp a.eval o).run P w = .ok (.value (.slice (if m = l then base else base.map (·.add (l * sz))) (h - l) (m - l))) w := by
      intro base len cap l h m ex hb
      unfold execOp; rw [ho]; apply run_value
      simp only [Instr.sliceAt, Sem.run_bind, run_underlying ht, Result.andThen_ok, Instr.slice, ex, hb, sizeOf, typeInfo, run_program, hj, Sem.run_pure, hj2]
    unfold aslice at hr
    split at hr
    · -- nil
      split at hr
      · rename_i k1 k2
        cases hr
        have ex : a.eval x = .slice none 0 0 := by generalize a.eval x = Y at vX; cases vX; rfl
        have hmx : mx.map a.eval = none := by cases hq : mx.map a.eval with | none => rfl | some q => rw [hq] at vMX; exact vMX.elim
        have hb := run_sliceBounds (P := P) (cap := 0) w vLO vHI k1 k2 (Nat.le_refl 0) (Nat.le_refl 0)
        rw [← hmx] at hb
        exact ⟨rfl, _, run _ _ _ _ _ _ ex hb, by simpa using VR.nils⟩
      · cases hr
    · -- a slice
      rename_i b off len cap
      obtain ⟨B, o0, x0, c, hρ, ex, hlc, hcap⟩ := vX.slice_cases
      split at hr
      · rename_i l hq k1 k2
        split at hr
        · rename_i hle
          have hmx : mx.map a.eval = none := by cases hq : mx.map a.eval with | none => rfl | some q => rw [hq] at vMX; exact vMX.elim
          have hb := run_sliceBounds (P := P) (cap := c) w vLO vHI k1 k2 hle.1 (by omega)
          rw [← hmx] at hb
          refine ⟨rfl, _, run _ _ _ _ _ _ ex hb, ?_⟩
          have eadd : ∀ q : Nat, (⟨B, o0 + off, none⟩ : Addr).add q = ⟨B, o0 + (off + q), none⟩ := fun q => by rw [Addr.add_mid, Nat.add_assoc]
          split at hr
          · -- exact
            rename_i c0
            cases hr
            have hc0 : c = c0 := hcap
            subst hc0
            by_cases hcl : c = l
            · rw [if_pos hcl, if_pos hcl]; exact .slE hρ (by omega)
            · rw [if_neg hcl, if_neg hcl, Option.map_some, eadd]; exact .slE hρ (by omega)
          · rename_i c0 z
            obtain ⟨q1, q2, q3⟩ : len ≤ c0 ∧ c0 ≤ c ∧ off + c * z ≤ x0 := hcap
            split at hr
            · rename_i hl0
              cases hr; subst hl0
              have e3 : (if c = 0 then (some (⟨B, o0 + off, none⟩ : Addr)) else (some (⟨B, o0 + off, none⟩ : Addr)).map (·.add (0 * sz))) = some ⟨B, o0 + off, none⟩ := by
                split
                · rfl
                · rw [Option.map_some, eadd, Nat.zero_mul]; rfl
              rw [e3]; exact .slL hρ (by omega) (by omega) (by simpa using q3)
            · split at hr
              · rename_i hl0 hll
                split at hr
                · rename_i hz
                  cases hr
                  subst hz
                  rw [if_neg (by omega), Option.map_some, eadd]
                  refine .slL hρ (by omega) (by omega) ?_
                  have : (c - l) * z + l * z = c * z := by rw [← Nat.add_mul]; congr 1; omega
                  omega
                · cases hr
              · cases hr
                rename_i hl0 hll
                have : hq - l = 0 := by omega
                rw [this]
                by_cases hcl : c = l
                · rw [if_pos hcl]; exact .esl _ _
                · rw [if_neg hcl, Option.map_some]; exact .esl _ _
          · split at hr
            · rename_i hl0
              cases hr; subst hl0
              have e3 : (if c = 0 then (some (⟨B, o0 + off, none⟩ : Addr)) else (some (⟨B, o0 + off, none⟩ : Addr)).map (·.add (0 * sz))) = some ⟨B, o0 + off, none⟩ := by
                split
                · rfl
                · rw [Option.map_some, eadd, Nat.zero_mul]; rfl
              rw [e3]; exact .slR hρ (by omega)
            · split at hr
              · cases hr
                rw [if_neg (by omega), Option.map_some, eadd]
                exact .slR hρ (by omega)
              · cases hr
                have : hq - l = 0 := by omega
                rw [this]
                by_cases hcl : c = l
                · rw [if_pos hcl]; exact .esl _ _
                · rw [if_neg hcl, Option.map_some]; exact .esl _ _
        · cases hr
      · rename_i l h m k1 k2
        split at hr
        · rename_i hv m2 k3
          split at hr
          · rename_i hle
            cases hr
            have hb := run_sliceBounds3 (P := P) (cap := c) w vLO vHI vMX k1 k2 k3 (by simp) (by simp) hle.1 hle.2.1 (by omega)
            refine ⟨rfl, _, run _ _ _ _ _ _ ex hb, ?_⟩
            have eadd : ∀ q : Nat, (⟨B, o0 + off, none⟩ : Addr).add q = ⟨B, o0 + (off + q), none⟩ := fun q => by rw [Addr.add_mid, Nat.add_assoc]
            by_cases hcl : m2 = l
            · rw [if_pos hcl, if_pos hcl]; exact .slE hρ (by omega)
            · rw [if_neg hcl, if_neg hcl, Option.map_some, eadd]; exact .slE hρ (by omega)
          · cases hr
        · cases hr
      · cases hr
    · -- empty
      split at hr
      · rename_i k1 k2
        cases hr
        obtain ⟨ad, c, ex⟩ : ∃ ad c, a.eval x = .slice (some ad) 0 c := by generalize a.eval x = Y at vX; cases vX; exact ⟨_, _, rfl⟩
        have hmx : mx.map a.eval = none := by cases hq : mx.map a.eval with | none => rfl | some q => rw [hq] at vMX; exact vMX.elim
        have hb := run_sliceBounds (P := P) (cap := c) w vLO vHI k1 k2 (Nat.le_refl 0) (Nat.zero_le _)
        rw [← hmx] at hb
        refine ⟨rfl, _, run _ _ _ _ _ _ ex hb, ?_⟩
        by_cases hcl : c = 0
        · rw [if_pos hcl]; exact .esl _ _
        · rw [if_neg hcl, Option.map_some]; exact .esl _ _
      · cases hr
    · cases hr
  · cases h

theorem splice_zip (cells : Array Value) (off : Nat) : ∀ (l : List Value) (j : Nat) (cs : Array Value), off + j + l.length ≤ cs.size →
    ((l.zipIdx j).foldl (fun cs (c, j) => cs.setIfInBounds (off + j) c) cs).toList = cs.toList.take (off + j) ++ l ++ cs.toList.drop (off + j + l.length)
  | [], j, cs, _ => by simp
  | v :: l, j, cs, h => by
    simp only [List.zipIdx_cons, List.foldl_cons]
    rw [splice_zip cells off l (j + 1) _ (by simp at h ⊢; omega)]
    have e := list_seg_step cs.toList (off + j) v l (by simp at h ⊢; omega)
    simpa [Array.toList_setIfInBounds, Nat.add_assoc] using e

end
end Go.Proofs.YtdgmihohmkdpjaaDoor.AM
