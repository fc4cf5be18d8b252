/-
  The abstract machine's operations, fourth part: literals of structs and slices, append. No condition.
-/
import Derived.Test.YtdgmihohmkdpjaaDoorAMe
namespace Go.Proofs.YtdgmihohmkdpjaaDoor.AM
set_option linter.unusedSimpArgs false
set_option linter.unusedVariables false
open Go Go.RowKit

section
variable {P : Program} {NG : Nat} {o : Oper}

theorem VRs.splice {ρ : Rho} {l l' m m'} (h : VRs ρ l l') (k : VRs ρ m m') (off : Nat) : VRs ρ (splice l off m) (l'.take off ++ m' ++ l'.drop (off + m'.length)) := by
  unfold AM.splice
  rw [k.1]
  exact ((h.take off).append k).append (h.drop _)
theorem splice_flat {l m : List AV} (h : l.all AV.flat = true) (k : m.all AV.flat = true) (off : Nat) : (splice l off m).all AV.flat = true := by
  unfold splice
  simp only [List.all_append, Bool.and_eq_true]
  exact ⟨⟨List.all_eq_true.2 fun x hx => List.all_eq_true.1 h x (List.mem_of_mem_take hx), k⟩, List.all_eq_true.2 fun x hx => List.all_eq_true.1 h x (List.mem_of_mem_drop hx)⟩

/-- The parts of a literal, and their places. -/
def PartsVR (ρ : Rho) (place : Nat → Option (Nat × Nat)) : List (Nat × Nat × AV) → List (Nat × Value) → Prop
  | [], [] => True
  | (o, s, v) :: ps, (i, u) :: qs => place i = some (o, s) ∧ VR ρ v u ∧ PartsVR ρ place ps qs
  | _, _ => False

theorem fill_VRs {ρ : Rho} {place : Nat → Option (Nat × Nat)} : ∀ (ps : List (Nat × Nat × AV)) (qs : List (Nat × Value)) (cs : List AV) (cells : Array Value) (res : List AV), PartsVR ρ place ps qs → VRs ρ cs cells.toList → cs.all AV.flat = true →
    fill cs ps = some res → ∃ cells', Instr.fill place cells qs = some cells' ∧ VRs ρ res cells'.toList ∧ res.all AV.flat = true
  | [], [], cs, cells, res, _, hv, hf, h => by
    simp only [fill, Option.some.injEq] at h; subst h
    exact ⟨cells, rfl, hv, hf⟩
  | (off, s, v) :: ps, (i, u) :: qs, cs, cells, res, hp, hv, hf, h => by
    obtain ⟨h1, h2, h3⟩ := hp
    simp only [fill] at h
    split at h
    · rename_i hc
      obtain ⟨c1, c2, c3⟩ := hc
      have hcl := h2.cells
      have hus : u.cells.size = s := by rw [← Array.length_toList, ← hcl.1]; exact c1
      have hsz : cells.toList.length = cs.length := hv.1.symm
      have e := splice_zip cells off u.cells.toList 0 cells (by simp at hsz ⊢; omega)
      have e' : (u.cells.zipIdx.foldl (fun cs (c, j) => cs.setIfInBounds (off + j) c) cells).toList = cells.toList.take off ++ u.cells.toList ++ cells.toList.drop (off + u.cells.toList.length) := by
        rw [← Array.foldl_toList, Array.toList_zipIdx]
        simpa using e
      obtain ⟨cells', g1, g2, g3⟩ := fill_VRs ps qs _ _ res h3 (by rw [e']; exact hv.splice hcl off) (splice_flat hf (h2.flat c2) off) h
      refine ⟨cells', ?_, g2, g3⟩
      simp only [Instr.fill, h1]
      rw [if_neg]
      · exact g1
      · have : cells.size = cs.length := by rw [← Array.length_toList]; exact hsz
        simp [hus]; omega
    · cases h
  | [], _ :: _, _, _, _, hp, _, _, _ => hp.elim
  | _ :: _, [], _, _, _, hp, _, _, _ => hp.elim

theorem run_places {P : Program} (w : World) : ∀ (l : List Field), l.all (fun f => (tsize P f.type).isSome) = true →
    (l.mapM (fun (f : Field) => do pure (f.offset, ← sizeOf f.type) : Field → Sem (Nat × Nat))).run P w = .ok (l.map fun f => (f.offset, (tsize P f.type).getD 0)) w
  | [], _ => rfl
  | f :: l, h => by
    simp only [List.all_cons, Bool.and_eq_true] at h
    have ih := run_places w l h.2
    obtain ⟨s, hs⟩ := Option.isSome_iff_exists.mp h.1
    obtain ⟨i, hi, hi2⟩ := map_some (show (P.info? f.type).map (·.size) = some s from hs)
    simp only [List.mapM_cons, Sem.run_bind, sizeOf, typeInfo, run_program, hi, Result.andThen_ok, Sem.run_pure, List.map_cons, hs, Option.getD_some, hi2] at ih ⊢
    rw [ih]
    simp

theorem fitParts_VR {ρ : Rho} {e : Env} {a : Act} (hg : ∀ g, g < NG → ∃ x, ρ g = some (g, 0, x)) (he : RelE ρ e a.tmps) {fs : List Field} {place : Nat → Option (Nat × Nat)}
    (hpl : ∀ i f, fs[i]? = some f → place i = some (f.offset, (tsize P f.type).getD 0)) : ∀ (ps : List (Nat × Operand)) (qs : List (Nat × Nat × AX)) vs, fitParts P NG fs ps qs = true → evParts e qs = some vs →
    PartsVR ρ place vs (ps.map fun x => (x.1, a.eval x.2))
  | [], [], vs, _, h => by simp only [evParts, Option.some.injEq] at h; subst h; trivial
  | (i, x) :: ps, (off, s, y) :: qs, vs, hf, h => by
    simp only [fitParts, Bool.and_eq_true] at hf
    obtain ⟨⟨h1, h2⟩, h3⟩ := hf
    simp only [evParts] at h
    split at h
    · rename_i v hv
      obtain ⟨us, hu, rfl⟩ := map_some h
      split at h1
      · rename_i f hfi
        simp only [Bool.and_eq_true, beq_iff_eq] at h1
        exact ⟨by rw [hpl i f hfi, h1.1, h1.2]; rfl, ev_VR hg he h2 hv, fitParts_VR hg he hpl ps qs us h3 hu⟩
      · cases h1
    · cases h
  | [], _ :: _, _, hf, _ => by simp [fitParts] at hf
  | _ :: _, [], _, hf, _ => by simp [fitParts] at hf

theorem fitElems_VR {ρ : Rho} {e : Env} {a : Act} (hg : ∀ g, g < NG → ∃ x, ρ g = some (g, 0, x)) (he : RelE ρ e a.tmps) {sz : Nat} : ∀ (ps : List (Nat × Operand)) (qs : List (Nat × Nat × AX)) vs, fitElems NG sz ps qs = true → evParts e qs = some vs →
    PartsVR ρ (fun i => some (i * sz, sz)) vs (ps.map fun x => (x.1, a.eval x.2))
  | [], [], vs, _, h => by simp only [evParts, Option.some.injEq] at h; subst h; trivial
  | (i, x) :: ps, (off, s, y) :: qs, vs, hf, h => by
    simp only [fitElems, Bool.and_eq_true, beq_iff_eq] at hf
    obtain ⟨⟨⟨h1, h1'⟩, h2⟩, h3⟩ := hf
    simp only [evParts] at h
    split at h
    · rename_i v hv
      obtain ⟨us, hu, rfl⟩ := map_some h
      exact ⟨by rw [← h1, ← h1'], ev_VR hg he h2 hv, fitElems_VR hg he ps qs us h3 hu⟩
    · cases h
  | [], _ :: _, _, hf, _ => by simp [fitElems] at hf
  | _ :: _, [], _, hf, _ => by simp [fitElems] at hf

theorem tzero_inv {t : TypeId} {z : List AV} (h : tzero P t z = true) : ∃ i u, P.info? t = some i ∧ i.zero = some u ∧ okVs u.cells.toList z = true := by
  unfold tzero at h
  split at h
  · rename_i i hi
    split at h
    · rename_i u hu; exact ⟨i, u, hi, hu, h⟩
    · cases h
  · cases h

theorem sim_build {t ps z qs fs} (ho : o.op = .build t ps) (hz : tzero P t z = true) (hu : P.underlying t = some (.struct fs)) (hf : fitParts P NG fs.toList ps.toList qs = true) (hs : fs.toList.all (fun f => (tsize P f.type).isSome) = true) : Sim P NG o (.build z qs) := by
  apply Sim.pure_
  intro ρ e a w H v H' hg he hH h
  simp only [aop] at h
  split at h
  · rename_i vs hvs
    obtain ⟨res, hr, e2⟩ := map_some h; cases e2
    obtain ⟨i, u, hi, hzu, hok⟩ := tzero_inv hz
    have hv0 := okVs_VRs (ρ := ρ) hok
    let places : List (Nat × Nat) := fs.toList.map fun (f : Field) => (f.offset, (tsize P f.type).getD 0)
    have hpl : ∀ (j : Nat) (f : Field), fs.toList[j]? = some f → (places.toArray[·]?) j = some (f.offset, (tsize P f.type).getD 0) := by
      intro j f hj
      simp only [List.getElem?_toArray, places, List.getElem?_map, hj, Option.map_some]
    obtain ⟨cells', g1, g2, g3⟩ := fill_VRs vs _ z u.cells res (fitParts_VR hg he hpl _ _ _ hf hvs) hv0.1 hv0.2 hr
    refine ⟨rfl, .agg cells', ?_, .agg g3 (by rw [← Array.length_toList]; exact g2.1) g2.2⟩
    have hm : (fs.mapM (fun (f : Field) => do pure (f.offset, ← sizeOf f.type) : Field → Sem (Nat × Nat))).run P w = .ok places.toArray w := by
      rw [Array.mapM_eq_mapM_toList, Sem.run_map, run_places w _ hs]; rfl
    unfold execOp; rw [ho]; apply run_value
    have hpt : ((ps.map fun (i, x) => (i, a.eval x)).toList) = ps.toList.map fun x => (x.1, a.eval x.2) := by simp
    simp only [Instr.build, Sem.run_bind, zeroValue, typeInfo, run_program, hi, hzu, Result.andThen_ok, Sem.run_pure, run_underlying hu, hm, hpt, g1]
  · cases h

theorem sim_bsl {t len ps z qs el i u} (ho : o.op = .buildSlice t len ps) (ht : P.underlying t = some (.slice el)) (hi : P.info? el = some i) (hzu : i.zero = some u) (hlen : len * i.size ≤ 16777216)
    (hf : fitElems NG i.size ps.toList qs = true) (hok : okVs ((List.range (len * i.size)).map fun j => u.cells[j % u.cells.size]!) z = true) : Sim P NG o (.bsl z len qs) := by
  intro ρ e H a w v H' he hH hfr h
  simp only [aop] at h
  split at h
  · rename_i vs hvs
    obtain ⟨res, hr, e2⟩ := map_some h; cases e2
    have hv0 := okVs_VRs (ρ := ρ) hok
    let c0 : Array Value := (Array.range (len * i.size)).map fun j => u.cells[j % u.cells.size]!
    have hc0 : c0.toList = (List.range (len * i.size)).map fun j => u.cells[j % u.cells.size]! := by simp [c0]
    obtain ⟨cells', g1, g2, g3⟩ := fill_VRs vs _ z c0 res (fitElems_VR hH.glob he _ _ _ hf hvs) (by rw [hc0]; exact hv0.1) hv0.2 hr
    have hn : ρ H.n = none := hfr _ (Nat.le_refl _) (Nat.lt_succ_self _)
    have hp := hH.push hn g2 g3 [] el
    refine ⟨_, .slice (some ⟨w.heap.size, 0, none⟩) len len, _, .inl ?_, add_sub hn _, NewB.add _ _ _ (.inl (Nat.le_refl _)), hp, .slE (o0 := 0) (Rho.add_same _ _ _) (Nat.le_refl _), Fr.alloc _ _ _ _⟩
    unfold execOp; rw [ho]; apply run_value
    have hpt : ((ps.map fun (i, x) => (i, a.eval x)).toList) = ps.toList.map fun x => (x.1, a.eval x.2) := by simp
    have hbig : ¬ (len * i.size > 2 ^ 24) := by omega
    simp only [Instr.buildSlice, Sem.run_bind, run_underlying ht, Result.andThen_ok, sizeOf, typeInfo, run_program, hi, Sem.run_pure, if_neg hbig, hpt, newRow]
    by_cases h0 : len * i.size = 0
    · have e0 : ∀ f : Nat → Value, (Array.range (len * i.size)).map f = c0 := fun f => by simp only [c0, h0, map_range0]
      simp only [if_pos h0, e0, g1]
      simp [newObj, Sem.run]
    · have hzv : (zeroValue el).run P w = .ok u w := by simp [zeroValue, typeInfo, hi, hzu]
      simp only [if_neg h0, Sem.run_bind, hzv, Sem.run_pure, Result.andThen_ok]
      have e0 : (Array.range (len * i.size)).map (fun j => u.cells[j % u.cells.size]!) = c0 := rfl
      simp only [e0, g1]
      simp [newObj, Sem.run]
  · cases h

/-- A slice's first elements, as append reads them. -/
theorem VR.src {ρ : Rho} {H : AH} {w : World} (hH : RelH NG ρ H w) {x X} {n sz : Nat} {new : List AV} {tx ex : TypeId} (hx : VR ρ x X) (hn : alen x = some n) (he : elems H sz x = some new) (ht : P.underlying tx = some (.slice ex)) :
    ∃ news : List Value, VRs ρ new news ∧ new.all AV.flat = true ∧ new.length = n * sz ∧ Src P sz tx X n news w := by
  cases x <;> simp only [alen, elems, Option.some.injEq] at hn he <;> first | (cases hn; done) | skip
  · rename_i b off len cap
    subst hn
    obtain ⟨B, o0, x0, c, hρ, rfl, hlc, _⟩ := hx.slice_cases
    simp only [AH.loadN] at he
    cases hk : H.bk b with
    | none => simp [hk] at he
    | some k =>
      simp only [hk, Option.bind_some, seg] at he
      split at he
      · rename_i hfit
        have hu' : (k.cells.drop off).take (len * sz) = new := by simpa using he
        have hlen : new.length = len * sz := by rw [← hu']; simp; omega
        have hrow := (hH.row b B o0 x0 k hρ hk).2
        have hcell : ∀ i, i < len * sz → ∃ cv, w.cell? ⟨B, o0 + off + i, none⟩ = some cv ∧ ∃ y, new[i]? = some y ∧ y.flat = true ∧ VR ρ y cv := by
          intro i hi
          have hki : off + i < k.cells.length := by omega
          obtain ⟨hfl, cv, hc, hr⟩ := hrow (off + i) _ (List.getElem?_eq_getElem hki)
          refine ⟨cv, by rw [Nat.add_assoc]; exact hc, _, ?_, hfl, hr⟩
          rw [← hu', List.getElem?_take, if_pos hi, List.getElem?_drop, List.getElem?_eq_getElem hki]
        let cs : List Value := (List.range (len * sz)).map fun i => (w.cell? ⟨B, o0 + off + i, none⟩).getD undef
        have hcs : cs.length = len * sz := by simp [cs]
        have hvr : VRs ρ new cs := by
          refine ⟨by omega, fun i y v hy hv => ?_⟩
          have hj : i < len * sz := by have := (List.getElem?_eq_some_iff.1 hv).1; omega
          obtain ⟨cv, hc, y', hy', _, hr⟩ := hcell i hj
          rw [hy] at hy'; cases hy'
          simp [cs, hj, hc] at hv
          rw [← hv]; exact hr
        have hfl : new.all AV.flat = true := by
          refine List.all_eq_true.2 fun y hy => ?_
          obtain ⟨i, hi, rfl⟩ := List.mem_iff_getElem.1 hy
          obtain ⟨_, _, y', hy', hf, _⟩ := hcell i (by omega)
          rw [List.getElem?_eq_getElem hi] at hy'; cases hy'; exact hf
        refine ⟨cs, hvr, hfl, hlen, Src.ofSlice (P := P) w ht _ len c cs hcs ?_ (hvr.oneCell hfl)⟩
        intro j u hu
        have hj : j < len * sz := by have := (List.getElem?_eq_some_iff.1 hu).1; omega
        obtain ⟨cv, hc, _⟩ := hcell j hj
        simp [cs, hj, hc] at hu
        rw [Addr.add_mid, hc, hu]
      · cases he
  · subst hn; subst he
    cases hx with
    | esl ad c => exact ⟨[], VRs.nil ρ, rfl, by simp, Src.ofSlice (P := P) w ht ad 0 c [] (by simp) (fun j u h => by simp at h) (fun u h => by cases h)⟩
  · subst hn; subst he
    cases hx with
    | nils => exact ⟨[], VRs.nil ρ, rfl, by simp, Src.ofNil (P := P) w ht 0⟩

theorem firstCells_slice {ρ : Rho} {H : AH} {w : World} (hH : RelH NG ρ H w) {b off len cap X : _} {sz : Nat} {old : List AV} {tx ex : TypeId} (hx : VR ρ (.sl b off len cap) X) (he : H.loadN b off (len * sz) = some old) (ht : P.underlying tx = some (.slice ex)) :
    ∃ olds : List Value, VRs ρ old olds ∧ old.all AV.flat = true ∧ old.length = len * sz ∧ (Builtin.firstCells sz len X).run P w.drew = .ok olds.toArray w.drew := by
  obtain ⟨olds, h1, h2, h3, h4⟩ := hx.src (P := P) (n := len) (sz := sz) (new := old) hH rfl he ht
  exact ⟨olds, h1, h2, h3, h4.cellsD⟩

/-- The laws of append, each at what it may come to. -/
theorem run_append_row {t tx ty e : TypeId} {i : TypeInfo} (ht : P.underlying t = some (.slice e)) (hi : P.info? e = some i) (B off sLen sCap : Nat) (X : Value) (n : Nat) (news : List Value) {w : World} (hs : Src P i.size tx X n news w)
    (hroom : sLen + n ≤ sCap) {cur : Array Value} {el : TypeId} (hg : w.heap[B]? = some (.cells cur el (0, 0))) (hfit : off + sLen * i.size + news.length ≤ cur.size) :
    (Builtin.append_ #[t, tx] ty #[.slice (some ⟨B, off, none⟩) sLen sCap, X]).run P w =
      .ok (.slice (some ⟨B, off, none⟩) (sLen + n) sCap) (w.setRow B (cur.toList.take (off + sLen * i.size) ++ news ++ cur.toList.drop (off + sLen * i.size + news.length)).toArray) := by
  have hst := run_storeCells_at P B (off + sLen * i.size) el news 0 cur w hg (by simpa using hfit) hs.one
  simp only [Nat.add_zero] at hst
  have hadd : (⟨B, off, none⟩ : Addr).add (sLen * i.size) = ⟨B, off + sLen * i.size, none⟩ := Addr.add_mid _ _ _
  rcases hs.kind with ⟨e', hk⟩ | hk <;> simp [Builtin.append_, run_underlying ht, run_underlying hk, sizeOf, typeInfo, hi, hs.len, hroom, hs.cells, hadd, hst]

theorem run_append_nothing' {t tx ty e : TypeId} {i : TypeInfo} (ht : P.underlying t = some (.slice e)) (hi : P.info? e = some i) (base : Option Addr) (sLen sCap : Nat) (X : Value) {w : World} (hs : Src P i.size tx X 0 [] w) (hle : sLen ≤ sCap) :
    (Builtin.append_ #[t, tx] ty #[.slice base sLen sCap, X]).run P w = .ok (.slice base sLen sCap) w := by
  cases base <;> rcases hs.kind with ⟨e', hk⟩ | hk <;> simp [Builtin.append_, run_underlying ht, run_underlying hk, sizeOf, typeInfo, hi, hs.len, hle, hs.cells, storeCells]

theorem fits_cap {need old bytes : Nat} (h : old < need) (hb : bytes ≤ 8192) (hn : need ≤ big) : Builtin.nextslicecap need old * bytes ≤ 281474976710656 := by
  apply growslice_fits h
  unfold big at hn
  calc need * bytes ≤ 8589934592 * 8192 := Nat.mul_le_mul hn hb
    _ ≤ 140737488355328 := by decide

theorem sim_app {c a1 a2 t u s y sz el eu i z} (ho : o.op = .call c) (hc : c.callee = .builtin .append) (ha : c.args.toList = [a1, a2]) (hty : c.argTypes.toList = [t, u]) (h1 : fitX NG a1 s = true) (h2 : fitX NG a2 y = true)
    (ht : P.underlying t = some (.slice el)) (htu : P.underlying u = some (.slice eu)) (hi : P.info? el = some i) (hsz : i.size = sz) (hb : i.bytes ≤ 8192) (hz : i.zero = some z) (hzs : z.cells.size = i.size) : Sim P NG o (.app sz s y) := by
  subst hsz
  intro ρ e H a w v H' he hH hfr h
  have hargs : c.args = #[a1, a2] := by rw [← Array.toList_inj]; exact ha
  have htys : c.argTypes = #[t, u] := by rw [← Array.toList_inj]; exact hty
  have run : ∀ r w', (Builtin.append_ #[t, u] o.type #[a.eval a1, a.eval a2]).run P w = .ok r w' → Came P o a w r w' := by
    intro r w' hr
    left
    unfold execOp; rw [ho]
    simp [resolve, hc, hargs, htys, invoke, builtin, hr]
  simp only [aop] at h
  split at h
  · rename_i S X hS hX
    have vS := ev_VR hH.glob he h1 hS
    have vX := ev_VR hH.glob he h2 hX
    split at h
    · rename_i n new hn hnew
      obtain ⟨news, g1, g2, g3, g4⟩ := vX.src (P := P) hH hn hnew htu
      have hlen : news.length = n * i.size := g1.1.symm.trans g3
      -- the new row
      have grow : ∀ (base : Option Addr) (len cap : Nat) (old : List AV) (olds : List Value), a.eval a1 = .slice base len cap → VRs ρ old olds → old.all AV.flat = true → old.length = len * i.size →
          (Builtin.firstCells i.size len (.slice base len cap)).run P w.drew = .ok olds.toArray w.drew → cap < len + n → len + n ≤ big → ρ H.n = none → ∀ H2, RelH NG ρ H2 w → H2.n = H.n →
          ∃ ρ' cv w', Came P o a w cv w' ∧ Sub ρ ρ' ∧ NewB ρ H w ρ' (H.n + 1) ∧ RelH NG ρ' (H2.push (old ++ new)) w' ∧ VR ρ' (.sl H.n 0 (len + n) (.lb (len + n) i.size)) cv ∧ Fr ρ H w w' := by
        intro base len cap old olds ex ho1 ho2 ho3 hfc hcap hbig hn H2 hH2 hn2
        have hr := run_append_grow_src (P := P) w t u o.type el i z ht hi hz base len cap olds hfc (a.eval a2) n news g4 hcap (by unfold big at hbig; omega) (fits_cap hcap hb hbig)
        rw [← ex] at hr
        have hH3 : RelH NG ρ H2 w.drew := hH2.heap_eq rfl
        have hp := hH3.push (by rw [hn2]; exact hn) (ho1.append g1) (by simp [ho2, g2]) (Builtin.zeroCells z.cells (grownCap w (len + n) cap el - (len + n))).toList el
        have harr : ((olds ++ news).toArray ++ Builtin.zeroCells z.cells (grownCap w (len + n) cap el - (len + n))) = ((olds ++ news) ++ (Builtin.zeroCells z.cells (grownCap w (len + n) cap el - (len + n))).toList).toArray := by
          apply Array.toList_inj.1; simp
        rw [harr] at hr
        rw [hn2] at hp
        have hcapg : len + n ≤ grownCap w (len + n) cap el := by unfold grownCap; simp only [Question.cut]; omega
        have hzc : (Builtin.zeroCells z.cells (grownCap w (len + n) cap el - (len + n))).toList.length = (grownCap w (len + n) cap el - (len + n)) * i.size := by
          rw [Array.length_toList, size_zeroCells, hzs]
        have ho4 : olds.length = len * i.size := ho1.1.symm.trans ho3
        refine ⟨_, _, _, run _ _ hr, add_sub hn _, NewB.add _ _ _ (.inl (Nat.le_refl _)), hp, ?_, ⟨rfl, rfl, rfl, ?_, fun B hB _ => ?_⟩⟩
        · refine VR.slL (o0 := 0) (Rho.add_same _ _ _) (Nat.le_refl _) hcapg ?_
          rw [List.length_append, ho4, hlen, hzc, Nat.zero_add, ← Nat.add_mul, ← Nat.add_mul]
          apply Nat.mul_le_mul_right; omega
        · show _ ≤ (w.heap.push _).size
          rw [Array.size_push]; omega
        · exact Below.heap_alloc w.drew _ B hB
      cases S with
      | nils =>
        simp only [aapp] at h
        have ex : a.eval a1 = .slice none 0 0 := by generalize a.eval a1 = Y at vS; cases vS; rfl
        split at h
        · rename_i hn0
          subst hn0
          simp only [Option.some.injEq, Prod.mk.injEq] at h; obtain ⟨rfl, rfl⟩ := h
          have hnews : news = [] := List.eq_nil_of_length_eq_zero (by omega)
          subst hnews
          have hr := run_append_nothing' (P := P) (ty := o.type) ht hi none 0 0 (a.eval a2) g4 (Nat.le_refl 0)
          rw [← ex] at hr
          exact ⟨ρ, _, w, run _ _ hr, Sub.refl ρ, NewB.refl _ _ _ _, hH, vS, Fr.refl _ _ _⟩
        · split at h
          · rename_i hn0 hbig
            simp only [Option.some.injEq, Prod.mk.injEq] at h; obtain ⟨rfl, rfl⟩ := h
            have := grow none 0 0 [] [] ex (VRs.nil ρ) rfl (by simp) (by simp [Builtin.firstCells]) (by omega) (by simpa using hbig) (hfr _ (Nat.le_refl _) (Nat.lt_succ_self _)) H hH rfl
            simp only [Nat.zero_add, List.nil_append] at this
            exact this
          · cases h
      | esl =>
        simp only [aapp] at h
        split at h
        · rename_i hn0
          subst hn0
          simp only [Option.some.injEq, Prod.mk.injEq] at h; obtain ⟨rfl, rfl⟩ := h
          obtain ⟨ad, cc, ex⟩ : ∃ ad cc, a.eval a1 = .slice (some ad) 0 cc := by generalize a.eval a1 = Y at vS; cases vS; exact ⟨_, _, rfl⟩
          have hnews : news = [] := List.eq_nil_of_length_eq_zero (by omega)
          subst hnews
          have hr := run_append_nothing' (P := P) (ty := o.type) ht hi (some ad) 0 cc (a.eval a2) g4 (Nat.zero_le _)
          rw [← ex] at hr
          exact ⟨ρ, _, w, run _ _ hr, Sub.refl ρ, NewB.refl _ _ _ _, hH, vS, Fr.refl _ _ _⟩
        · cases h
      | sl b off len cap =>
        simp only [aapp] at h
        obtain ⟨B, o0, x0, cc, hρ, ex, hlc, hcap⟩ := vS.slice_cases
        split at h
        · rename_i hn0
          subst hn0
          simp only [Option.some.injEq, Prod.mk.injEq] at h; obtain ⟨rfl, rfl⟩ := h
          have hnews : news = [] := List.eq_nil_of_length_eq_zero (by omega)
          subst hnews
          have hr := run_append_nothing' (P := P) (ty := o.type) ht hi (some ⟨B, o0 + off, none⟩) len cc (a.eval a2) g4 hlc
          rw [← ex] at hr
          exact ⟨ρ, _, w, run _ _ hr, Sub.refl ρ, NewB.refl _ _ _ _, hH, vS, Fr.refl _ _ _⟩
        · split at h
          · cases h
          · rename_i hn0 hbig
            -- a store in place
            have inplace : ∀ H1, H.store b (off + len * i.size) new = some H1 → len + n ≤ cc → ∀ v', VR ρ v' (.slice (some ⟨B, o0 + off, none⟩) (len + n) cc) →
                ∃ ρ' cv w', Came P o a w cv w' ∧ Sub ρ ρ' ∧ NewB ρ H w ρ' H1.n ∧ RelH NG ρ' H1 w' ∧ VR ρ' v' cv ∧ Fr ρ H w w' := by
              intro H1 hst hroom v' hv'
              unfold AH.store at hst
              split at hst
              · rename_i k hk
                split at hst
                · rename_i hcnd
                  have e3 : H1 = H.put b (some ⟨splice k.cells (off + len * i.size) new, true⟩) := by simpa using hst.symm
                  subst e3
                  obtain ⟨cur, elc, hheap, hx⟩ := hH.own b B o0 x0 k hρ hk hcnd.1
                  have hkx := (hH.row b B o0 x0 k hρ hk).1
                  have hnl := g1.1
                  have hr := run_append_row (P := P) (ty := o.type) ht hi B (o0 + off) len cc (a.eval a2) n news g4 hroom hheap (by omega)
                  rw [← ex] at hr
                  have hs := hH.store hρ hk hcnd.1 hheap hx g1 g2 hcnd.2
                  rw [← Nat.add_assoc] at hs
                  exact ⟨ρ, _, _, run _ _ hr, Sub.refl ρ, NewB.refl _ _ _ _, hs, hv', Fr.setRow hH hρ hk hcnd.1 _⟩
                · cases hst
              · cases hst
            split at h
            · cases h
            · -- exact
              rename_i c0
              have hc0 : cc = c0 := hcap
              subst hc0
              split at h
              · rename_i hroom
                obtain ⟨H1, hst, e2⟩ := map_some h; cases e2
                exact inplace _ hst hroom _ (.slE hρ hroom)
              · rename_i hroom
                split at h
                · rename_i old hold
                  simp only [Option.some.injEq, Prod.mk.injEq] at h; obtain ⟨rfl, rfl⟩ := h
                  obtain ⟨olds, q1, q2, q3, q4⟩ := firstCells_slice (P := P) hH vS hold ht
                  rw [ex] at q4
                  exact grow (some ⟨B, o0 + off, none⟩) len cc old olds ex q1 q2 q3 q4 (by omega) (by omega) (hfr _ (Nat.le_refl _) (Nat.lt_succ_self _)) H hH rfl
                · cases h
            · rename_i c0 z0
              obtain ⟨p1, p2, p3⟩ : len ≤ c0 ∧ c0 ≤ cc ∧ off + cc * z0 ≤ x0 := hcap
              split at h
              · cases h
              · rename_i hz0
                have hz1 : z0 = i.size := by omega
                subst hz1
                split at h
                · rename_i hroom
                  obtain ⟨H1, hst, e2⟩ := map_some h; cases e2
                  exact inplace _ hst (by omega) _ (.slL hρ hroom p2 p3)
                · rename_i hroom
                  split at h
                  · rename_i k old hk hold
                    split at h
                    · rename_i hw
                      simp only [Option.some.injEq, Prod.mk.injEq] at h; obtain ⟨rfl, rfl⟩ := h
                      obtain ⟨olds, q1, q2, q3, q4⟩ := firstCells_slice (P := P) hH vS hold ht
                      by_cases hin : len + n ≤ cc
                      · obtain ⟨cur, elc, hheap, hx⟩ := hH.own b B o0 x0 k hρ hk hw
                        have hmul : (len + n) * i.size ≤ cc * i.size := Nat.mul_le_mul_right _ hin
                        rw [Nat.add_mul] at hmul
                        have hnl := g1.1
                        have hr := run_append_row (P := P) (ty := o.type) ht hi B (o0 + off) len cc (a.eval a2) n news g4 hin hheap (by omega)
                        rw [← ex] at hr
                        have hseg : seg k.cells off old.length = some old := by
                          rw [q3]; simp only [AH.loadN, hk, Option.bind_some] at hold; exact hold
                        have hn : ρ H.n = none := hfr _ (Nat.le_refl _) (Nat.lt_succ_self _)
                        have ht := hH.take hn hρ hk hw hheap hx hseg g1 g2 (by omega)
                        rw [q3] at ht
                        refine ⟨_, _, _, run _ _ hr, add_sub hn _, NewB.add _ _ _ (.inr fun q => by have := q b o0 x0 k hρ hk; rw [hw] at this; cases this), ht, ?_, Fr.setRow hH hρ hk hw _⟩
                        have := VR.slL (o := 0) (ρ := ρ.add H.n (B, o0 + off, x0 - off)) (Rho.add_same _ _ _) (Nat.le_refl (len + n)) hin (show 0 + cc * i.size ≤ x0 - off by omega)
                        exact this
                      · rw [ex] at q4
                        exact grow (some ⟨B, o0 + off, none⟩) len cc old olds ex q1 q2 q3 q4 (by omega) (by omega) (hfr _ (Nat.le_refl _) (Nat.lt_succ_self _)) (H.put b none) (hH.kill b) rfl
                    · cases h
                  · cases h
      | _ => simp only [aapp] at h; cases h
    · cases h
  · cases h

end
end Go.Proofs.YtdgmihohmkdpjaaDoor.AM
