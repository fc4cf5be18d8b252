/-
  The abstract machine's operations, second part: numbers, tests, slices, structs, appends. No condition.
-/
import Derived.Test.YtdgmihohmkdpjaaDoorAMc
namespace Go.Proofs.YtdgmihohmkdpjaaDoor.AM
set_option linter.unusedSimpArgs false
set_option linter.unusedVariables false
open Go Go.RowKit

section
variable {P : Program} {NG : Nat} {o : Oper}

theorem run_eqGuard_int {P : Program} (op : BinOp) (t : TypeId) (x y : Operand) (k k' : IntKind) (n m : Int) (w : World) : (eqGuard op t x y (.int k n) (.int k' m)).run P w = .ok () w := by
  unfold eqGuard; split <;> simp

theorem run_bin {P : Program} {op : BinOp} {t : TypeId} {a b : AV} {v : AV} {u u' : Value} {ρ : Rho} (w : World) (ha : VR ρ a u) (hb : VR ρ b u') (h : abin op a b = some v) :
    ∃ cv, (binOp op t u u').run P w = .ok cv w ∧ VR ρ v cv ∧ (∃ k n, u = .int k n) ∧ (∃ k n, u' = .int k n) := by
  unfold abin at h
  split at h
  · rename_i k a k' c
    cases ha; cases hb
    split at h
    · rename_i hs
      unfold ishift at h
      split at h
      · cases h
      · rename_i hneg
        cases op <;> simp [isShift] at hs <;> simp only [Option.some.injEq] at h <;> subst h
        · exact ⟨_, by simp only [binOp, Op.shift, if_neg hneg]; rfl, .i _ _, ⟨_, _, rfl⟩, ⟨_, _, rfl⟩⟩
        · exact ⟨_, by simp only [binOp, Op.shift, if_neg hneg]; rfl, .i _ _, ⟨_, _, rfl⟩, ⟨_, _, rfl⟩⟩
    · rename_i hs
      split at h
      · rename_i hk
        subst hk
        unfold ibin at h
        cases op <;> simp [isShift] at hs
        case quo =>
          simp only at h
          split at h
          · cases h
          · rename_i h0
            simp only [Option.some.injEq] at h; subst h
            exact ⟨_, by simp only [binOp, Op.intDiv]; simp [h0], .i _ _, ⟨_, _, rfl⟩, ⟨_, _, rfl⟩⟩
        case rem =>
          simp only at h
          split at h
          · cases h
          · rename_i h0
            simp only [Option.some.injEq] at h; subst h
            exact ⟨_, by simp only [binOp, Op.intDiv]; simp [h0], .i _ _, ⟨_, _, rfl⟩, ⟨_, _, rfl⟩⟩
        all_goals (simp only [ibits, Option.some.injEq] at h; subst h)
        case add => exact ⟨_, by simp [binOp, Op.intArith], .i _ _, ⟨_, _, rfl⟩, ⟨_, _, rfl⟩⟩
        case sub => exact ⟨_, by simp [binOp, Op.intArith], .i _ _, ⟨_, _, rfl⟩, ⟨_, _, rfl⟩⟩
        case mul => exact ⟨_, by simp [binOp, Op.intArith], .i _ _, ⟨_, _, rfl⟩, ⟨_, _, rfl⟩⟩
        case and => exact ⟨_, by simp [binOp, Op.intBits], .i _ _, ⟨_, _, rfl⟩, ⟨_, _, rfl⟩⟩
        case or => exact ⟨_, by simp [binOp, Op.intBits], .i _ _, ⟨_, _, rfl⟩, ⟨_, _, rfl⟩⟩
        case xor => exact ⟨_, by simp [binOp, Op.intBits], .i _ _, ⟨_, _, rfl⟩, ⟨_, _, rfl⟩⟩
        case andNot => exact ⟨_, by simp [binOp, Op.intBits], .i _ _, ⟨_, _, rfl⟩, ⟨_, _, rfl⟩⟩
        all_goals exact ⟨_, by simp [binOp, Op.intCmp], .b _, ⟨_, _, rfl⟩, ⟨_, _, rfl⟩⟩
      · cases h
  · cases h

theorem sim_bin {op t x y yt x' y'} (ho : o.op = .binOp op t x y yt) (h1 : fitX NG x x' = true) (h2 : fitX NG y y' = true) : Sim P NG o (.bin op x' y') := by
  apply Sim.pure_
  intro ρ e a w H v H' hg he hH h
  simp only [aop] at h
  split at h
  · rename_i u u' hu hu'
    obtain ⟨r, hr, e2⟩ := map_some h; cases e2
    obtain ⟨cv, hrun, hv, ⟨k, n, hx⟩, ⟨k', n', hy⟩⟩ := run_bin (P := P) (t := t) w (ev_VR hg he h1 hu) (ev_VR hg he h2 hu') hr
    refine ⟨rfl, cv, ?_, hv⟩
    unfold execOp; rw [ho]
    rw [hx, hy] at hrun
    simp only [hx, hy]
    apply run_value
    rw [Sem.run_bind, run_eqGuard_int]
    exact hrun
  · cases h

theorem run_eqGuard_plain {P : Program} (op : BinOp) (t : TypeId) (x y : Operand) (u v : Value) (w : World) (h : ∀ a, u ≠ .agg a) (h' : u ≠ .nilIface) : (eqGuard op t x y u v).run P w = .ok () w := by
  unfold eqGuard
  cases op <;> simp only [Bool.not_true, Bool.not_false, Bool.false_eq_true, if_true, if_false] <;> first
    | rfl
    | (cases u <;> first | rfl | exact absurd rfl h' | exact absurd rfl (h _))

theorem run_equal_bool {P : Program} (t : TypeId) (u u' : Bool) (w : World) (ht : P.underlying t = some .bool) : (Op.equal t (.bool u) (.bool u')).run P w = .ok (u == u') w := by
  have : ∀ d, (Op.equalIn (d + 1) t (.bool u) (.bool u')).run P w = .ok (u == u') w := fun d => by
    simp only [Op.equalIn, Sem.run_bind, run_underlying ht, Result.andThen_ok]; rfl
  exact this 9999

theorem sim_eqB {op t x y yt x' y' ne} (ho : o.op = .binOp op t x y yt) (hop : op = if ne then .neq else .eql) (h1 : fitX NG x x' = true) (h2 : fitX NG y y' = true) (ht : P.underlying t = some .bool) : Sim P NG o (.eqB ne x' y') := by
  apply Sim.pure_
  intro ρ e a w H v H' hg he hH h
  simp only [aop] at h
  split at h
  · rename_i u u' hu hu'
    simp only [Option.some.injEq, Prod.mk.injEq] at h; obtain ⟨rfl, rfl⟩ := h
    have e1 := (ev_VR hg he h1 hu).b_inv
    have e2 := (ev_VR hg he h2 hu').b_inv
    refine ⟨rfl, .bool (if ne then u != u' else u == u'), ?_, .b _⟩
    unfold execOp; rw [ho]
    apply run_value
    simp only [e1, e2]
    rw [Sem.run_bind, run_eqGuard_plain _ _ _ _ _ _ _ (by simp) (by simp)]
    subst hop
    have hq : (Op.equal t (.bool u) (.bool u')).run P w = .ok (u == u') w := run_equal_bool t u u' w ht
    cases ne
    · simp only [Bool.false_eq_true, if_false, binOp, Sem.run_bind, hq, Result.andThen_ok]; rfl
    · simp only [if_true, binOp, Sem.run_bind, hq, Result.andThen_ok]; cases u <;> cases u' <;> rfl
  · cases h

def nilish : Value → Bool
  | .pointer _ | .slice .. | .func .. | .nilFunc => true
  | _ => false
theorem nil_equal {P : Program} {t : TypeId} {kd : Nat} (ht : kindNil P t kd = true) {ρ : Rho} {u u' X Y p q} (k1 : VR ρ u X) (k2 : VR ρ u' Y) (hp : isNil kd u = some p) (hq : isNil kd u' = some q) (hpq : p = true ∨ q = true) (w : World) :
    (Op.equal t X Y).run P w = .ok (p && q) w ∧ nilish X = true := by
  have key : ∀ d, (Op.equalIn (d + 1) t X Y).run P w = .ok (p && q) w ∧ nilish X = true := by
    intro d
    unfold kindNil at ht
    split at ht
    all_goals first | (cases ht; done) | skip
    all_goals
      split at ht
      case h_2 => cases ht
      case h_1 =>
        rename_i hE
        cases k1 <;> simp only [isNil] at hp <;> cases hp <;> cases k2 <;> simp only [isNil] at hq <;> cases hq <;>
          first
          | (rcases hpq with hpq | hpq <;> cases hpq; done)
          | (simp only [Op.equalIn, Sem.run_bind, run_underlying hE, Result.andThen_ok, nilish]; exact ⟨rfl, trivial⟩)
  exact key 9999

theorem run_binOp_nilish {P : Program} {t : TypeId} {X Y : Value} {r : Bool} (w : World) (ne : Bool) (hn : nilish X = true) (h : (Op.equal t X Y).run P w = .ok r w) :
    (binOp (if ne then .neq else .eql) t X Y).run P w = .ok (.bool (if ne then !r else r)) w := by
  cases ne
  · simp only [Bool.false_eq_true, if_false]
    cases X <;> simp only [nilish, Bool.false_eq_true] at hn <;> simp only [binOp, Sem.run_bind, h, Result.andThen_ok] <;> rfl
  · simp only [if_true]
    cases X <;> simp only [nilish, Bool.false_eq_true] at hn <;> simp only [binOp, Sem.run_bind, h, Result.andThen_ok] <;> rfl

theorem sim_eqN {op t x y yt x' y' kd ne} (ho : o.op = .binOp op t x y yt) (hop : op = if ne then .neq else .eql) (h1 : fitX NG x x' = true) (h2 : fitX NG y y' = true) (ht : kindNil P t kd = true) : Sim P NG o (.eqN kd ne x' y') := by
  apply Sim.pure_
  intro ρ e a w H v H' hg he hH h
  simp only [aop] at h
  split at h
  · rename_i u u' hu hu'
    have k1 := ev_VR hg he h1 hu
    have k2 := ev_VR hg he h2 hu'
    have go : ∀ p q, isNil kd u = some p → isNil kd u' = some q → (p = true ∨ q = true) → (execOp a.eval o).run P w = .ok (.value (.bool (if ne then !(p && q) else (p && q)))) w := by
      intro p q hp hq hpq
      obtain ⟨hr, hn⟩ := nil_equal ht k1 k2 hp hq hpq w
      unfold execOp; rw [ho]
      apply run_value
      have g1 : ∀ c, a.eval x ≠ .agg c := fun c e => by rw [e] at hn; cases hn
      have g2 : a.eval x ≠ .nilIface := fun e => by rw [e] at hn; cases hn
      rw [Sem.run_bind, run_eqGuard_plain _ _ _ _ _ _ _ g1 g2, hop]
      exact run_binOp_nilish w ne hn hr
    split at h
    · rename_i q hq hq'
      simp only [Option.some.injEq, Prod.mk.injEq] at h; obtain ⟨rfl, rfl⟩ := h
      exact ⟨rfl, _, go _ _ hq hq' (.inl rfl), by simp only [Bool.true_and]; exact .b _⟩
    · rename_i p hp hp' 
      simp only [Option.some.injEq, Prod.mk.injEq] at h; obtain ⟨rfl, rfl⟩ := h
      exact ⟨rfl, _, go _ _ hp hp' (.inr rfl), by simp only [Bool.and_true]; exact .b _⟩
    · cases h
  · cases h

theorem eqInts_run {P : Program} {ρ : Rho} (d : Nat) (w : World) (xs ys : Array Value) : ∀ (fs : List Field) (k : Nat) (l m : List AV) (r : Bool), intFields P k fs = true → fs.length = l.length →
    VRs ρ l (xs.toList.drop k) → VRs ρ m (ys.toList.drop k) → eqInts l m = some r → (Op.eqFields (d + 1) xs ys fs).run P w = .ok r w
  | [], k, [], m, r, _, _, _, _, h => by
    cases m with
    | nil => simp [eqInts] at h; subst h; rfl
    | cons => simp [eqInts] at h
  | f :: fs, k, x :: l, m, r, hf, hl, hx, hy, h => by
    simp only [intFields, Bool.and_eq_true, bne_iff_ne, beq_iff_eq] at hf
    obtain ⟨⟨⟨hn, ho⟩, ht⟩, hrest⟩ := hf
    split at ht
    · rename_i kk hkk
      cases m with
      | nil => cases x <;> simp [eqInts] at h
      | cons y m =>
        cases x <;> cases y <;> simp only [eqInts] at h <;> first | (cases h; done) | skip
        rename_i kx nx ky ny
        split at h
        · rename_i hke
          subst hke
          obtain ⟨r', hr', e2⟩ := map_some h
          obtain ⟨vx, mx, ex, hvx, hmx⟩ := hx.cons_inv
          obtain ⟨vy, my, ey, hvy, hmy⟩ := hy.cons_inv
          cases hvx; cases hvy
          have gx : xs[k]? = some (.int kx nx) := by rw [← Array.getElem?_toList]; have := congrArg (fun l : List Value => l[0]?) ex; simpa [List.getElem?_drop] using this
          have gy : ys[k]? = some (.int kx ny) := by rw [← Array.getElem?_toList]; have := congrArg (fun l : List Value => l[0]?) ey; simpa [List.getElem?_drop] using this
          have hx' : xs.toList.drop (k + 1) = mx := by have := congrArg List.tail ex; simpa [List.tail_drop] using this
          have hy' : ys.toList.drop (k + 1) = my := by have := congrArg List.tail ey; simpa [List.tail_drop] using this
          have hagg : (isAgg f.type).run P w = .ok false w := by unfold isAgg; rw [Sem.run_bind, run_underlying hkk w]; rfl
          have px : (part f.type xs f.offset).run P w = .ok (.int kx nx) w := by simp [part, hagg, ho, gx]
          have py : (part f.type ys f.offset).run P w = .ok (.int kx ny) w := by simp [part, hagg, ho, gy]
          have he : (Op.equalIn (d + 1) f.type (.int kx nx) (.int kx ny)).run P w = .ok (nx == ny) w := by simp [Op.equalIn, run_underlying hkk]
          have ih := eqInts_run d w xs ys fs (k + 1) l m r' hrest (by simpa using hl) (by rw [hx']; exact hmx) (by rw [hy']; exact hmy) hr'
          simp only [Op.eqFields, if_pos hn, Sem.run_bind, px, py, he, Result.andThen_ok]
          subst e2
          cases hb : (nx == ny) <;> simp [ih]
        · cases h
    · cases ht
  | f :: fs, k, [], m, r, hf, hl, _, _, _ => by simp at hl
  | [], k, _ :: _, m, r, hf, hl, _, _, _ => by simp at hl

theorem sim_eqA {op t x y yt x' y' n ne} (ho : o.op = .binOp op t x y yt) (hop : op = if ne = true then .neq else .eql) (h1 : fitX NG x x' = true) (h2 : fitX NG y y' = true) (ht : intStruct P t n = true) : Sim P NG o (.eqA n ne x' y') := by
  apply Sim.pure_
  intro ρ e a w H v H' hg he hH h
  unfold intStruct at ht
  split at ht
  · rename_i fs hfs
    simp only [Bool.and_eq_true, Bool.not_eq_true', beq_iff_eq] at ht
    obtain ⟨⟨⟨hst, hif⟩, hlen⟩, hgt⟩ := ht
    simp only [aop] at h
    split at h
    · rename_i l m hl hm
      split at h
      · rename_i hn
        obtain ⟨r, hr, e2⟩ := map_some h; cases e2
        obtain ⟨xs, ex, hx⟩ := (ev_VR hg he h1 hl).agg_inv
        obtain ⟨ys, ey, hy⟩ := (ev_VR hg he h2 hm).agg_inv
        have hf : P.fieldsOf t = fs := by simp [Program.fieldsOf, hfs]
        have heq : (Op.equal t (.agg xs) (.agg ys)).run P w = .ok r w := by
          have := run_equalIn_struct (P := P) w 9999 t xs ys (by rw [hf]; exact hfs) hst
          rw [hf, eqInts_run 9998 w xs ys fs.toList 0 l m r hif (by omega) (by simpa using hx) (by simpa using hy) hr] at this
          exact this
        refine ⟨rfl, .bool (if ne = true then !r else r), ?_, .b _⟩
        unfold execOp; rw [ho]
        apply run_value
        simp only [ex, ey]
        have hgd : (eqGuard op t x y (.agg xs) (.agg ys)).run P w = .ok () w := by
          unfold eqGuard
          subst hop
          cases ne <;> simp [hgt]
        rw [Sem.run_bind, hgd, hop]
        cases ne
        · simp only [Bool.false_eq_true, if_false, binOp, Sem.run_bind, heq, Result.andThen_ok]; rfl
        · simp only [if_true, binOp, Sem.run_bind, heq, Result.andThen_ok]; rfl
      · cases h
    · cases h
  · cases ht

theorem sim_un {op t x y} (ho : o.op = .unOp op t x) (hf : fitX NG x y = true) : Sim P NG o (.un op y) := by
  apply Sim.pure_
  intro ρ e a w H v H' hg he hH h
  simp only [aop] at h
  split at h
  · rename_i u hu
    obtain ⟨r, hr, e2⟩ := map_some h; cases e2
    have hv := ev_VR hg he hf hu
    unfold aun at hr
    split at hr
    · have hb := hv.b_inv
      cases op <;> simp only [Option.some.injEq] at hr <;> first | (cases hr; done) | skip
      subst hr
      exact ⟨rfl, _, by unfold execOp; rw [ho]; apply run_value; simp only [hb, Op.unary]; rfl, .b _⟩
    · have hb := hv.i_inv
      cases op <;> simp only [Option.some.injEq] at hr <;> first | (cases hr; done) | skip
      subst hr
      exact ⟨rfl, _, by unfold execOp; rw [ho]; apply run_value; simp only [hb, Op.unary, Op.intArith]; rfl, .i _ _⟩
    · cases hr
  · cases h

theorem sim_conv {s t x y k} (ho : o.op = .convert s t x) (hf : fitX NG x y = true) (hs : (P.underlying s).isSome = true) (ht : P.underlying t = some (.int k)) : Sim P NG o (.conv k y) := by
  apply Sim.pure_
  intro ρ e a w H v H' hg he hH h
  simp only [aop] at h
  split at h
  · rename_i k' n hu
    simp only [Option.some.injEq, Prod.mk.injEq] at h; obtain ⟨rfl, rfl⟩ := h
    have hb := (ev_VR hg he hf hu).i_inv
    obtain ⟨d, hd⟩ := Option.isSome_iff_exists.mp hs
    refine ⟨rfl, .int k (k.wrap n), ?_, .i _ _⟩
    unfold execOp; rw [ho]; apply run_value
    simp [hb, convert, run_underlying hd, run_underlying ht, Conv.intToInt]
  · cases h

theorem sim_fldA {t x y f off d} (ho : o.op = .fieldAddr t x f) (hf : fitX NG x y = true) (hd : tfield P t f = some d) (hoff : d.offset = off) (hsz : ∃ n, tsize P d.type = some (n + 1)) : Sim P NG o (.fldA off y) := by
  apply Sim.pure_
  intro ρ e a w H v H' hg he hH h
  simp only [aop] at h
  split at h
  · rename_i b o1 hb
    simp only [Option.some.injEq, Prod.mk.injEq] at h; obtain ⟨rfl, rfl⟩ := h
    obtain ⟨B, o0, x0, hρ, hp⟩ := (ev_VR hg he hf hb).ptr_inv
    refine ⟨rfl, .pointer (some ⟨B, o0 + (o1 + off), none⟩), ?_, .ptr hρ⟩
    unfold tfield at hd
    split at hd
    · rename_i fs hfs
      obtain ⟨n, hn⟩ := hsz
      obtain ⟨i, hi, hi2⟩ := map_some (show (P.info? d.type).map (·.size) = some (n + 1) from hn)
      unfold execOp; rw [ho]; apply run_value
      have e3 : (⟨B, o0 + o1, none⟩ : Addr).add d.offset = ⟨B, o0 + (o1 + off), none⟩ := by rw [hoff]; unfold Addr.add; split <;> simp_all [Nat.add_assoc]
      simp [hp, Instr.fieldAt, Instr.sureAddr, run_underlying hfs, hd, fieldPlace, sizeOf, typeInfo, hi, hi2, e3]
    · cases hd
  · cases h

theorem sim_fld {t x y f off d} (ho : o.op = .field t x f) (hf : fitX NG x y = true) (hd : tfield P t f = some d) (hoff : d.offset = off) (hagg : tagg P d.type = some false) : Sim P NG o (.fld off y) := by
  apply Sim.pure_
  intro ρ e a w H v H' hg he hH h
  simp only [aop] at h
  split at h
  · rename_i cs hb
    obtain ⟨r, hr, e2⟩ := map_some h; cases e2
    obtain ⟨cs', ex, hx⟩ := (ev_VR hg he hf hb).agg_inv
    obtain ⟨u, hu, hv⟩ := hx.get hr
    refine ⟨rfl, u, ?_, hv⟩
    unfold tfield at hd
    split at hd
    · rename_i fs hfs
      obtain ⟨dd, hdd, e3⟩ := map_some (show (P.underlying d.type).map TypeDesc.isRow = some false from hagg)
      have hagg : (isAgg d.type).run P w = .ok false w := by
        unfold isAgg; rw [Sem.run_bind, run_underlying hdd w]
        cases dd <;> simp_all
      have hu' : cs'[off]? = some u := by rw [← Array.getElem?_toList]; exact hu
      unfold execOp; rw [ho]; apply run_value
      simp [ex, Instr.field, run_underlying hfs, hd, asAgg, part, hagg, hoff, hu']
    · cases hd
  · cases h

theorem VRs.seg {ρ : Rho} {l l'} (h : VRs ρ l l') {off n : Nat} {u} (hu : seg l off n = some u) : VRs ρ u ((l'.drop off).take n) ∧ off + n ≤ l'.length := by
  unfold AM.seg at hu
  split at hu
  · rename_i hfit
    have hu' : (l.drop off).take n = u := by simpa using hu
    subst hu'
    exact ⟨(h.drop off).take n, by rw [← h.1]; exact hfit⟩
  · cases hu
theorem seg_flat {l : List AV} (h : l.all AV.flat = true) {off n : Nat} {u} (hu : seg l off n = some u) : u.all AV.flat = true := by
  unfold seg at hu
  split at hu
  · have hu' : (l.drop off).take n = u := by simpa using hu
    subst hu'
    exact List.all_eq_true.2 fun x hx => List.all_eq_true.1 h x (List.mem_of_mem_drop (List.mem_of_mem_take hx))
  · cases hu

theorem sim_fldN {t x y f off n d} (ho : o.op = .field t x f) (hf : fitX NG x y = true) (hd : tfield P t f = some d) (hoff : d.offset = off) (hagg : tagg P d.type = some true) (hn : tsize P d.type = some n) : Sim P NG o (.fldN off n y) := by
  apply Sim.pure_
  intro ρ e a w H v H' hg he hH h
  simp only [aop] at h
  split at h
  · rename_i cs hb
    obtain ⟨r, hr, e2⟩ := map_some h; cases e2
    have hv0 := ev_VR hg he hf hb
    obtain ⟨cs', ex, hx⟩ := hv0.agg_inv
    obtain ⟨hv, hfit⟩ := hx.seg hr
    have earr : (cs'.extract off (off + n)).toList = (cs'.toList.drop off).take n := by rw [Array.toList_extract, List.extract_eq_take_drop]; congr 1; omega
    refine ⟨rfl, .agg (cs'.extract off (off + n)), ?_, .agg (seg_flat hv0.agg_flat hr) ?_ ?_⟩
    · unfold tfield at hd
      split at hd
      · rename_i fs hfs
        obtain ⟨dd, hdd, e3⟩ := map_some (show (P.underlying d.type).map TypeDesc.isRow = some true from hagg)
        have hagg : (isAgg d.type).run P w = .ok true w := by
          unfold isAgg; rw [Sem.run_bind, run_underlying hdd w]
          cases dd <;> simp_all
        obtain ⟨i, hi, hi2⟩ := map_some (show (P.info? d.type).map (·.size) = some n from hn)
        unfold execOp; rw [ho]; apply run_value
        simp [ex, Instr.field, run_underlying hfs, hd, asAgg, part, hagg, hoff, sizeOf, typeInfo, hi, hi2]
      · cases hd
    · rw [← Array.length_toList, earr]; exact hv.1
    · rw [earr]; exact hv.2
  · cases h

theorem sim_idxA {t x i x' i' sz el} (ho : o.op = .indexAddr t x i) (h1 : fitX NG x x' = true) (h2 : fitX NG i i' = true) (ht : P.underlying t = some (.slice el)) (hsz : tsize P el = some sz) : Sim P NG o (.idxA sz x' i') := by
  apply Sim.pure_
  intro ρ e a w H v H' hg he hH h
  simp only [aop] at h
  split at h
  · rename_i b off len cap k n hb hn
    split at h
    · rename_i hr
      simp only [Option.some.injEq, Prod.mk.injEq] at h; obtain ⟨rfl, rfl⟩ := h
      have hv := ev_VR hg he h1 hb
      have hi := (ev_VR hg he h2 hn).i_inv
      obtain ⟨B, o0, x0, c, hρ, hp⟩ : ∃ B o0 x0 c, ρ b = some (B, o0, x0) ∧ a.eval x = .slice (some ⟨B, o0 + off, none⟩) len c := by
        generalize a.eval x = X at hv
        cases hv with
        | slE hq _ => exact ⟨_, _, _, _, hq, rfl⟩
        | slL hq _ _ _ => exact ⟨_, _, _, _, hq, rfl⟩
        | slR hq _ => exact ⟨_, _, _, _, hq, rfl⟩
      refine ⟨rfl, .pointer (some ⟨B, o0 + (off + n.toNat * sz), none⟩), ?_, .ptr hρ⟩
      obtain ⟨j, hj, hj2⟩ := map_some (show (P.info? el).map (·.size) = some sz from hsz)
      have e3 : (⟨B, o0 + off, none⟩ : Addr).add (n.toNat * sz) = ⟨B, o0 + (off + n.toNat * sz), none⟩ := by rw [Addr.add_mid, Nat.add_assoc]
      unfold execOp; rw [ho]; apply run_value
      simp [hp, hi, Instr.indexAt, asIntOf, run_underlying ht, hr.1, hr.2, sizeOf, typeInfo, hj, hj2, e3]
    · cases h
  · cases h

theorem sim_idxAA {t x i x' i' sz len el} (ho : o.op = .indexAddr t x i) (h1 : fitX NG x x' = true) (h2 : fitX NG i i' = true) (ht : P.underlying t = some (.array len el)) (hsz : tsize P el = some sz) : Sim P NG o (.idxAA sz len x' i') := by
  apply Sim.pure_
  intro ρ e a w H v H' hg he hH h
  simp only [aop] at h
  split at h
  · rename_i b off k n hb hn
    split at h
    · rename_i hr
      simp only [Option.some.injEq, Prod.mk.injEq] at h; obtain ⟨rfl, rfl⟩ := h
      obtain ⟨B, o0, x0, hρ, hp⟩ := (ev_VR hg he h1 hb).ptr_inv
      have hi := (ev_VR hg he h2 hn).i_inv
      refine ⟨rfl, .pointer (some ⟨B, o0 + (off + n.toNat * sz), none⟩), ?_, .ptr hρ⟩
      obtain ⟨j, hj, hj2⟩ := map_some (show (P.info? el).map (·.size) = some sz from hsz)
      have e3 : (⟨B, o0 + off, none⟩ : Addr).add (n.toNat * sz) = ⟨B, o0 + (off + n.toNat * sz), none⟩ := by rw [Addr.add_mid, Nat.add_assoc]
      unfold execOp; rw [ho]; apply run_value
      simp [hp, hi, Instr.indexAt, Instr.sureAddr, asIntOf, run_underlying ht, hr.1, hr.2, sizeOf, typeInfo, hj, hj2, e3]
    · cases h
  · cases h

theorem sim_idx {t x i x' i'} (ho : o.op = .index t x i) (h1 : fitX NG x x' = true) (h2 : fitX NG i i' = true) (ht : P.underlying t = some .string) : Sim P NG o (.idx x' i') := by
  apply Sim.pure_
  intro ρ e a w H v H' hg he hH h
  simp only [aop] at h
  split at h
  · rename_i s k n hb hn
    split at h
    · rename_i hr
      simp only [Option.some.injEq, Prod.mk.injEq] at h; obtain ⟨rfl, rfl⟩ := h
      have hx : a.eval x = .string s := by have := ev_VR hg he h1 hb; generalize a.eval x = X at this; cases this; rfl
      have hi := (ev_VR hg he h2 hn).i_inv
      refine ⟨rfl, .int .u8 (s[n.toNat]'hr.2).toNat, ?_, .i _ _⟩
      unfold execOp; rw [ho]; apply run_value
      have e4 : s[n.toNat]? = some (s[n.toNat]'hr.2) := getElem?_pos s n.toNat hr.2
      simp [hx, hi, Instr.index, asIntOf, run_underlying ht, hr.1, e4]
    · cases h
  · cases h

theorem sim_ext {x y j} (ho : o.op = .extract x j) (hf : fitX NG x y = true) : Sim P NG o (.ext y j) := by
  apply Sim.pure_
  intro ρ e a w H v H' hg he hH h
  simp only [aop] at h
  split at h
  · rename_i vs hb
    obtain ⟨r, hr, e2⟩ := map_some h; cases e2
    have hv := ev_VR hg he hf hb
    obtain ⟨vs', ex, hx⟩ : ∃ vs', a.eval x = .tuple vs' ∧ VRs ρ vs vs'.toList := by
      generalize a.eval x = X at hv
      cases hv with | tup k1 k2 => exact ⟨_, rfl, by simpa using k1, k2⟩
    obtain ⟨u, hu, hv⟩ := hx.get hr
    have hu' : vs'[j]? = some u := by rw [← Array.getElem?_toList]; exact hu
    refine ⟨rfl, u, ?_, hv⟩
    unfold execOp; rw [ho]; apply run_value
    simp [ex, Instr.extract, hu']
  · cases h

theorem sim_mkfn {f first cap as bs} (ho : o.op = .makeFunc (.func f) first cap) (h1 : fitXs NG first.toList as = true) (h2 : fitXs NG cap.toList bs = true) : Sim P NG o (.mkfn f as bs) := by
  apply Sim.pure_
  intro ρ e a w H v H' hg he hH h
  simp only [aop] at h
  split at h
  · rename_i us vs hu hv
    simp only [Option.some.injEq, Prod.mk.injEq] at h; obtain ⟨rfl, rfl⟩ := h
    have k1 := evs_VRs hg he h1 hu
    have k2 := evs_VRs hg he h2 hv
    refine ⟨rfl, .func (.func f) (first.map a.eval) (cap.map a.eval), ?_, .fn ?_ ?_ ?_ ?_⟩
    · unfold execOp; rw [ho]; apply run_value; simp [Instr.makeFunc]
    · simpa using k1.1
    · simpa using k1.2
    · simpa using k2.1
    · simpa using k2.2
  · cases h

theorem sim_mx {c a1 a2 x y} (ho : o.op = .call c) (hc : c.callee = .builtin .max) (ha : c.args.toList = [a1, a2]) (h1 : fitX NG a1 x = true) (h2 : fitX NG a2 y = true) : Sim P NG o (.mx x y) := by
  apply Sim.pure_
  intro ρ e a w H v H' hg he hH h
  simp only [aop] at h
  split at h
  · rename_i u u' hu hu'
    simp only [Option.some.injEq, Prod.mk.injEq] at h; obtain ⟨rfl, rfl⟩ := h
    have e1 := (ev_VR hg he h1 hu).i_inv
    have e2 := (ev_VR hg he h2 hu').i_inv
    refine ⟨rfl, _, ?_, .i _ _⟩
    have hargs : c.args = #[a1, a2] := by rw [← Array.toList_inj]; exact ha
    unfold execOp; rw [ho]
    simp [resolve, hc, hargs, invoke, builtin, Builtin.max_, Builtin.max2, e1, e2]
  · cases h

theorem sim_mn {c a1 a2 x y} (ho : o.op = .call c) (hc : c.callee = .builtin .min) (ha : c.args.toList = [a1, a2]) (h1 : fitX NG a1 x = true) (h2 : fitX NG a2 y = true) : Sim P NG o (.mn x y) := by
  apply Sim.pure_
  intro ρ e a w H v H' hg he hH h
  simp only [aop] at h
  split at h
  · rename_i u u' hu hu'
    simp only [Option.some.injEq, Prod.mk.injEq] at h; obtain ⟨rfl, rfl⟩ := h
    have e1 := (ev_VR hg he h1 hu).i_inv
    have e2 := (ev_VR hg he h2 hu').i_inv
    refine ⟨rfl, _, ?_, .i _ _⟩
    have hargs : c.args = #[a1, a2] := by rw [← Array.toList_inj]; exact ha
    unfold execOp; rw [ho]
    simp [resolve, hc, hargs, invoke, builtin, Builtin.min_, Builtin.min2, e1, e2]
  · cases h

theorem VR.slice_of {ρ : Rho} {u X} {n : Nat} (h : VR ρ u X) (hn : alen u = some n) : ∃ b c, X = .slice b n c := by
  cases h <;> simp only [alen, Option.some.injEq] at hn <;> first | (cases hn; done) | (subst hn; exact ⟨_, _, rfl⟩)

theorem sim_len {c a1 t ts y el} (ho : o.op = .call c) (hc : c.callee = .builtin .len) (ha : c.args.toList = [a1]) (ht : c.argTypes.toList = t :: ts) (h1 : fitX NG a1 y = true)
    (hu : P.underlying t = some (.slice el)) : Sim P NG o (.len y) := by
  apply Sim.pure_
  intro ρ e a w H v H' hg he hH h
  simp only [aop] at h
  split at h
  · rename_i u hev
    obtain ⟨n, hn, e2⟩ := map_some h; cases e2
    have hv := ev_VR hg he h1 hev
    have hargs : c.args = #[a1] := by rw [← Array.toList_inj]; exact ha
    have ht0 : c.argTypes[0]? = some t := by rw [← Array.getElem?_toList, ht]; rfl
    refine ⟨rfl, .int .i64 n, ?_, .i _ _⟩
    obtain ⟨b, cc, hx⟩ := hv.slice_of hn
    unfold execOp; rw [ho]
    simp [resolve, hc, hargs, invoke, builtin, Builtin.len_, ht0, run_underlying hu, hx, goInt]
  · cases h

end
end Go.Proofs.YtdgmihohmkdpjaaDoor.AM
