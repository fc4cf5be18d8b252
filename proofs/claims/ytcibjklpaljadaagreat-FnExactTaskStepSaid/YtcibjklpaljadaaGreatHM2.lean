/-
  The abstract machine and its walks, merged by program out of smaller texts (part 2). No condition.
-/
import Derived.Test.YtcibjklpaljadaaGreatHM1
namespace Go.Proofs.YtcibjklpaljadaaGreat.AM
set_option linter.unusedSimpArgs false
set_option linter.unusedVariables false
open Go Go.RowKit

section
variable {P : Program} {NG : Nat}

theorem fitL_get {N : Nat} {ops : Array Oper} : ∀ {os : List Oper} {l : List AO}, fitL P NG N ops os l = true → os.length = l.length ∧ ∀ (i : Nat) (op : Oper) (o : AO), os[i]? = some op → l[i]? = some o → fitD N op.dst o.d = true ∧ fitG ops op.guard o.c = true ∧ fitOp P NG op.op o.op = true
  | [], [], _ => ⟨rfl, fun i op o h => by simp at h⟩
  | op :: os, o :: l, h => by
    simp only [fitL, Bool.and_eq_true] at h
    obtain ⟨⟨⟨h1, h2⟩, h3⟩, h4⟩ := h
    obtain ⟨e, ih⟩ := fitL_get h4
    refine ⟨by simp [e], fun i op' o' ho hl => ?_⟩
    cases i with
    | zero => simp at ho hl; subst ho; subst hl; exact ⟨h1, h2, h3⟩
    | succ i => exact ih i op' o' (by simpa using ho) (by simpa using hl)
  | [], _ :: _, h => by simp [fitL] at h
  | _ :: _, [], h => by simp [fitL] at h

theorem mem_dirs {o : Oper} {k : Nat} : k ∈ dirs o ↔ ∃ e ∈ o.after, Region.binds .any e = true ∧ e.on = k := by
  unfold dirs
  rw [List.mem_filterMap]
  constructor
  · rintro ⟨e, he, h⟩
    split at h
    · rename_i hb; exact ⟨e, by simpa using he, hb, by simpa using h⟩
    · cases h
  · rintro ⟨e, he, hb, rfl⟩
    exact ⟨e, by simpa using he, by rw [if_pos hb]⟩

theorem draw_sound {N : Nat} {ops : Array Oper} {l : List AO} {E : Nat → Env} {HH : Nat → AH} {vs : Nat → AV} (hs : Seq P NG l E HH vs) (hfl : fitL P NG N ops ops.toList l = true) (hok : drawOk ops l = true)
    {ρ0 : Rho} {a0 : Act} {w0 : World} (he0 : RelE ρ0 (E 0) a0.tmps) (hrel0 : RelH NG ρ0 (HH 0) w0) (hfr0 : Fresh ρ0 (HH 0).n (HH l.length).n) (hN : a0.tmps.size = N)
    {Q : Exit → Act → World → Prop} (hQ : ∀ a' w', Post NG ρ0 (HH 0) a0 w0 (E l.length) (HH l.length) a' w' → Q .normal a' w') :
    ∀ (fuel : Nat) (listed : Array Bool) (ρ : Rho) (a : Act) (w : World), listed.size = ops.size → (∃ s : List Nat, s.length ≤ fuel ∧ ∀ j, j < ops.size → listed.getD j false = false → j ∈ s) →
      (∀ j o, listed.getD j false = true → ops[j]? = some o → ∀ k ∈ dirs o, listed.getD k false = true) →
      Inv NG l HH vs (E 0) ρ0 w0 (fun j => listed.getD j false) ρ a.tmps w → a.defers = a0.defers → a.tmps.size = N → wpAny P .any ops Q fuel listed a w := by
  have h0 := hrel0.wf
  obtain ⟨hlen, hget⟩ := fitL_get hfl
  have hlen' : ops.size = l.length := by simpa using hlen
  simp only [drawOk, Bool.and_eq_true] at hok
  obtain ⟨hdok, hpok⟩ := hok
  have uniq : ∀ (s t : Nat) (a b : AO) (n : Nat), l[s]? = some a → l[t]? = some b → a.d = some n → b.d = some n → s = t := by
    intro s t a b n ha hb hda hdb
    rcases Nat.lt_trichotomy s t with h | h | h
    · exact absurd hdb ((pairsOk_spec hpok h ha hb).2 n hda)
    · exact h
    · exact absurd hda ((pairsOk_spec hpok h hb ha).2 n hdb)
  have outOf : ∀ (listed : Array Bool) j, listed.size = ops.size → listed.getD j false = true → j < ops.size := by
    intro listed j hsz hj
    rcases Nat.lt_or_ge j listed.size with h | h
    · omega
    · simp [Array.getD, Nat.not_lt.2 h] at hj
  have full : ∀ (listed : Array Bool), listed.size = ops.size → Region.ready .any ops listed = [] → ∀ j, j < ops.size → listed.getD j false = true := by
    intro listed hsz hr j
    induction j using Nat.strongRecOn with
    | _ j ih =>
      intro hj
      cases hq : listed.getD j false with
      | true => rfl
      | false =>
        exfalso
        have ho : ops[j]? = some ops[j] := Array.getElem?_eq_getElem hj
        have hmem : j ∈ Region.ready .any ops listed := by
          rw [mem_ready]
          refine ⟨?_, _, ho, fun e he hb => ?_⟩
          · have : j < listed.size := by omega
            simp [Array.getD, this] at hq ⊢; exact hq
          · have hk : e.on ∈ dirs ops[j] := mem_dirs.2 ⟨e, he, hb, rfl⟩
            have h1 := List.all_eq_true.1 hdok j (List.mem_range.2 (by simpa using hj))
            have e1 : ops.toList[j]? = some ops[j] := by rw [Array.getElem?_toList]; exact ho
            simp only [e1] at h1
            have hlt : e.on < j := by simpa using List.all_eq_true.1 h1 _ hk
            exact ih e.on hlt (by omega)
        rw [hr] at hmem; cases hmem
  have fin : ∀ (listed : Array Bool) ρ (a : Act) w, listed.size = ops.size → (∀ j, j < ops.size → listed.getD j false = true) → Inv NG l HH vs (E 0) ρ0 w0 (fun j => listed.getD j false) ρ a.tmps w → a.defers = a0.defers → a.tmps.size = N → Q .normal a w := by
    intro listed ρ a w hsz hall hinv hd hsn
    have hp : pOf l (fun j => listed.getD j false) = l.length := by
      obtain ⟨p1, p2, _⟩ := pOf_spec l (fun j => listed.getD j false)
      rcases Nat.lt_or_ge (pOf l (fun j => listed.getD j false)) l.length with h | h
      · have := (p2 h).2
        rw [hall _ (by omega)] at this; cases this
      · omega
    have hheap : heapD l HH (fun j => listed.getD j false) = HH l.length := by
      have : (heapD l HH (fun j => listed.getD j false)).bk = (HH l.length).bk := by
        funext b
        show (HH (max (pOf l _) (btOf HH l.length b))).bk b = _
        rw [hp, Nat.max_eq_left (btOf_spec HH l.length b).1]
      show AH.mk (HH l.length).n (heapD l HH _).bk = _
      rw [this]
    refine hQ a w ⟨ρ, by rw [← hheap]; exact hinv.adv, ?_, by rw [← hheap]; exact hinv.rel, hd, by rw [hsn, hN]⟩
    intro t v hv
    refine hinv.env t v ?_
    by_cases hex : ∃ (j : Nat) (o : AO), l[j]? = some o ∧ o.d = some t
    · obtain ⟨j, o, ho, hdt⟩ := hex
      have hj : j < l.length := (List.getElem?_eq_some_iff.1 ho).1
      have hu : ∀ (j' : Nat) (o' : AO), l[j']? = some o' → o'.d = some t → j' = j := fun j' o' h1 h2 => uniq j' j o' o t h1 ho h2 hdt
      rw [hs.get_some ho hdt hu l.length (Nat.le_refl _) hj] at hv
      have := get_envOf_some (E 0) vs (fun j => listed.getD j false) t l 0 j o ho hdt (by simpa using hall j (by omega)) hu
      rw [this, ← hv]; simp
    · rw [hs.get_none l.length (Nat.le_refl _) (fun j o _ h1 h2 => hex ⟨j, o, h1, h2⟩)] at hv
      rw [get_envOf_none (E 0) vs _ t l 0 (fun j o h1 h2 => absurd ⟨j, o, h1, h2⟩ hex)]; exact hv
  intro fuel
  induction fuel with
  | zero =>
    intro listed ρ a w hsz ⟨s, hs0, hsm⟩ hcl hinv hd hsn
    have hnil : s = [] := List.eq_nil_of_length_eq_zero (by omega)
    subst hnil
    have hall : ∀ j, j < ops.size → listed.getD j false = true := by
      intro j hj
      cases hq : listed.getD j false with
      | true => rfl
      | false => exact absurd (hsm j hj hq) (by simp)
    refine ⟨?_, fin listed ρ a w hsz hall hinv hd hsn⟩
    cases hr : Region.ready .any ops listed with
    | nil => rfl
    | cons i rs =>
      have hmem : i ∈ Region.ready .any ops listed := by rw [hr]; simp
      rw [mem_ready] at hmem
      obtain ⟨h1, o, ho, _⟩ := hmem
      have hi : i < ops.size := (Array.getElem?_eq_some_iff.1 ho).1
      have := hall i hi
      have h2 : i < listed.size := by omega
      simp [Array.getD, h2] at this h1
      rw [this] at h1; cases h1
  | succ fuel ih =>
    intro listed ρ a w hsz ⟨s, hs0, hsm⟩ hcl hinv hd hsn
    refine ⟨fun hr => fin listed ρ a w hsz (full listed hsz hr) hinv hd hsn, fun i hi => ?_⟩
    rw [mem_ready] at hi
    obtain ⟨hnd, op, hop, hall⟩ := hi
    have hilt : i < ops.size := (Array.getElem?_eq_some_iff.1 hop).1
    have hilt2 : i < listed.size := by omega
    have hnd' : listed.getD i false = false := by simp [Array.getD, hilt2] at hnd ⊢; exact hnd
    have hill : i < l.length := by omega
    obtain ⟨o, ho⟩ : ∃ o, l[i]? = some o := ⟨l[i], List.getElem?_eq_getElem hill⟩
    obtain ⟨fd, fg, fo⟩ := hget i op o (by rw [Array.getElem?_toList]; exact hop) ho
    have hdirs : ∀ k ∈ dirs op, listed.getD k false = true := by
      intro k hk
      obtain ⟨e, he, hb, rfl⟩ := mem_dirs.1 hk
      exact hall e he hb
    have clos := closed (D := fun j => listed.getD j false) hdok hcl (fun j hj => outOf listed j hsz hj)
    have hready : Ready l (fun j => listed.getD j false) i := by
      refine ⟨hill, hnd', ?_, ?_, uniq⟩
      · intro t x y ht hD hx hy
        rcases (pairsOk_spec hpok ht hx hy).1 with h | h
        · have := clos i op hop hdirs t h
          rw [hD] at this; cases this
        · exact h
      · intro s' t x y hst hDs hDt hx hy
        rcases (pairsOk_spec hpok hst hx hy).1 with h | h
        · have htl := outOf listed t hsz hDt
          have ho' : ops[t]? = some ops[t] := Array.getElem?_eq_getElem htl
          have := clos t _ ho' (hcl t _ hDt ho') s' h
          rw [hDs] at this; cases this
        · exact h
    have hwith : (fun j => (listed.setIfInBounds i true).getD j false) = with_ (fun j => listed.getD j false) i := by
      funext j
      by_cases h : j = i
      · subst h; rw [with_same]; simp [Array.getD, hilt2]
      · rw [with_ne _ h]; exact getD_set_ne false (fun e => h e.symm)
    have next : ∀ (ρ' : Rho) (a' : Act) (w' : World), Inv NG l HH vs (E 0) ρ0 w0 (with_ (fun j => listed.getD j false) i) ρ' a'.tmps w' → a'.defers = a0.defers → a'.tmps.size = N → wpAny P .any ops Q fuel (listed.setIfInBounds i true) a' w' := by
      intro ρ' a' w' hinv' hd' hsn'
      refine ih _ ρ' a' w' (by simpa using hsz) ⟨s.erase i, ?_, ?_⟩ ?_ (by rw [hwith]; exact hinv') hd' hsn'
      · have hmem := hsm i hilt hnd'
        rw [List.length_erase_of_mem hmem]; omega
      · intro j hj hq
        have hji : j ≠ i := by
          intro e; subst e
          simp [Array.getD, hilt2] at hq
        rw [getD_set_ne false (fun e => hji e.symm)] at hq
        exact (List.mem_erase_of_ne hji).2 (hsm j hj hq)
      · intro j o' hj ho' k hk
        have hkk : listed.getD k false = true := by
          by_cases h : j = i
          · subst h; rw [hop] at ho'; cases ho'; exact hdirs k hk
          · rw [getD_set_ne false (fun e => h e.symm)] at hj
            exact hcl j o' hj ho' k hk
        by_cases h : k = i
        · subst h; rw [hkk] at hnd'; cases hnd'
        · rw [getD_set_ne false (fun e => h e.symm)]; exact hkk
    have hdt : ∀ t, o.d = some t → t < a.tmps.size := fun t ht => by rw [hsn]; exact (fitD_lt fd).2 ht
    have hdst : op.dst = o.d := (fitD_lt (t := 0) fd).1
    have hwant := hready.want hs ho
    unfold wpOp
    rw [hop]
    rcases hs.step i o ho with ⟨hw, hv, hh⟩ | ⟨hw, hsim, hmon, hgd, hq, haop⟩
    · -- it is passed over
      simp only [wanted_of hinv.env fg (hwant.trans hw), Bool.false_eq_true, if_false]
      have hpf := put_facts a op.dst undef
      refine next ρ _ w ?_ (hpf.1.trans hd) (hpf.2.trans hsn)
      have hrun : ∀ H1 H1', Step1 NG l HH (fun j => listed.getD j false) i ρ w H1 H1' → H1' = H1 → Inv NG l HH vs (E 0) ρ0 w0 (with_ (fun j => listed.getD j false) i) ρ (a.put op.dst undef).tmps w := by
        intro H1 H1' h1 e
        subst e
        exact h1.go hs h0 hready ho rfl hinv hrel0 hfr0 (Adv.refl _ _ _) h1.rel (by rw [hv]; exact .tup rfl (fun i x v h => by simp at h)) hdst hdt
      cases hT : isT o with
      | true =>
        have h1 := step1_t hs h0 hready ho hT hinv.rel
        exact hrun _ _ h1 hh
      | false =>
        have h1 := step1_p hs h0 hready ho hT hinv.rel ⟨(HH i).n, fun b => if b < (HH i).n then (heapD l HH (fun j => listed.getD j false)).bk b else none⟩ (by rw [hh]) (fun b hb => by simp only; rw [if_pos hb]) (fun b h1 h2 => by rw [hh] at h2; omega)
        exact hrun _ _ h1 rfl
    · simp only [wanted_of hinv.env fg (hwant.trans hw), if_true]
      left
      have hev := hready.ev hs ho
      have go : ∀ (H1 H1' : AH), Step1 NG l HH (fun j => listed.getD j false) i ρ w H1 H1' → StepSim P NG o (E i) H1 (vs i) H1' → op.wp P a w (wpAny P .any ops Q fuel (listed.setIfInBounds i true)) Q := by
        intro H1 H1' h1 hsim'
        have hfr1 : Fresh ρ H1.n H1'.n := by
          rw [h1.n, h1.n']
          intro b hb1 hb2
          cases hqr : ρ b with
          | none => rfl
          | some r =>
            rcases hinv.dom b r hqr with h | ⟨j, hj, hjl, hj1, hj2⟩
            · have := hfr0 b (Nat.le_trans (hs.mon (Nat.zero_le _) (Nat.le_of_lt hready.lt)).n hb1) (Nat.lt_of_lt_of_le hb2 (hs.mon hready.lt (Nat.le_refl _)).n)
              rw [this] at h; cases h
            · have hne : j ≠ i := fun e => by subst e; rw [hnd'] at hj; cases hj
              rcases Nat.lt_or_ge j i with q | q
              · have := (hs.mon (show j + 1 ≤ i from q) (Nat.le_of_lt hready.lt)).n; omega
              · have := (hs.mon (show i + 1 ≤ j by omega) (Nat.le_of_lt hjl)).n; omega
        refine hsim' op fo _ ρ a w hev hinv.env h1.rel hfr1 _ _ ?_
        intro ρ' cv w' hadv hrel' hvr
        have hpf := put_facts a op.dst cv
        exact next ρ' _ w' (h1.go hs h0 hready ho rfl hinv hrel0 hfr0 hadv hrel' hvr hdst hdt) (hpf.1.trans hd) (hpf.2.trans hsn)
      cases hT : isT o with
      | true => exact go _ _ (step1_t hs h0 hready ho hT hinv.rel) hsim
      | false =>
        by_cases hcq : clsOf o = .q
        · exact go _ _ (step1_q hs h0 hready ho hcq hinv.rel) hsim
        cases hcall : isCall o.op with
        | true =>
          exfalso
          cases hqq : o.q with
          | true =>
            apply hcq
            unfold clsOf
            cases hop2 : o.op <;> simp [hop2, isCall] at hcall <;> simp [hqq]
          | false =>
            unfold isT clsOf at hT
            cases hop2 : o.op <;> simp [hop2, isCall, hqq] at hT hcall
        | false =>
          have hao := haop hcall
          have hloc := aop_local hcall hao
          have hcls : clsOf ⟨none, none, [], false, o.op⟩ = clsOf o := by
            cases hqq : o.q with
            | true =>
              unfold clsOf at hcq ⊢
              cases hop2 : o.op <;> rw [hop2] at hcall hcq <;> first | (cases hcall; done) | rfl | (exfalso; apply hcq; simp [hqq]; done)
            | false =>
              unfold clsOf
              cases hop2 : o.op <;> rw [hop2] at hcall <;> first | (cases hcall; done) | rfl | (simp [hqq]; done)
          rw [hcls] at hloc
          have hold : ∀ b, b < (HH i).n → (⟨(HH i).n, fun b => if b < (HH i).n then (heapD l HH (fun j => listed.getD j false)).bk b else none⟩ : AH).bk b = (heapD l HH (fun j => listed.getD j false)).bk b := fun b hb => by simp only; rw [if_pos hb]
          cases hc : clsOf o with
          | p =>
            rw [hc] at hloc
            obtain ⟨hh, hall'⟩ := hloc
            exact go _ _ (step1_p hs h0 hready ho hT hinv.rel _ (by rw [hh]) hold (fun b h1 h2 => by rw [hh] at h2; omega)) (stepSim_op hcall (hall' _))
          | l x =>
            rw [hc] at hloc
            obtain ⟨hh, b, ob, hx, hsome, hall'⟩ := hloc
            have hb : b < (HH i).n := by
              rcases Nat.lt_or_ge b (HH i).n with q | q
              · exact q
              · rw [(hs.mon (Nat.zero_le _) (Nat.le_of_lt hill)).wf h0 b q] at hsome; cases hsome
            have hxs : x ∈ xsOf o.op := by
              unfold clsOf at hc
              cases hop2 : o.op <;> rw [hop2] at hc <;> simp at hc
              · rw [hc]; simp [xsOf]
              · rw [hc]; simp [xsOf]
              all_goals (split at hc <;> cases hc)
            have hld := hready.load hs ho hc hxs hx hb
            exact go _ _ (step1_p hs h0 hready ho hT hinv.rel _ (by rw [hh]) hold (fun b h1 h2 => by rw [hh] at h2; omega)) (stepSim_op hcall (hall' _ (by simp only; rw [if_pos hb, hld])))
          | a =>
            rw [hc] at hloc
            obtain ⟨cs, hh, ⟨oo, hvv⟩, hall'⟩ := hloc
            have hn1 : (HH (i + 1)).n = (HH i).n + 1 := by rw [hh]; rfl
            refine go _ _ (step1_p hs h0 hready ho hT hinv.rel (AH.push ⟨(HH i).n, fun b => if b < (HH i).n then (heapD l HH (fun j => listed.getD j false)).bk b else none⟩ cs) (by rw [hn1]; rfl) ?_ ?_) (stepSim_op hcall (hall' _ rfl))
            · intro b hb
              show (if b = (HH i).n then some (⟨cs, true⟩ : Blk) else _) = _
              rw [if_neg (by omega)]; exact hold b hb
            · intro b h1 h2
              have hb : b = (HH i).n := by omega
              subst hb
              show _ = (if (HH i).n = (HH i).n then some (⟨cs, true⟩ : Blk) else _)
              rw [if_pos rfl]
              have hnew : (HH (i + 1)).bk (HH i).n = some ⟨cs, true⟩ := by rw [hh]; simp [AH.push]
              show (HH (max (pOf l _) (btOf HH l.length (HH i).n))).bk (HH i).n = _
              rw [bt_new hs hill (Nat.le_refl _) h2]
              rcases Nat.lt_or_ge (i + 1) (pOf l (fun j => listed.getD j false)) with hp | hp
              · rw [Nat.max_eq_left (Nat.le_of_lt hp), ← hnew]
                refine stays (Nat.le_of_lt hp) fun t k1 k2 => ?_
                have hple := (pOf_spec l (fun j => listed.getD j false)).1
                have htl : t < l.length := Nat.lt_of_lt_of_le k2 hple
                have ha' : l[t]? = some l[t] := List.getElem?_eq_getElem htl
                cases hTt : isTat l t with
                | false => exact hs.keeps_at htl hTt (Nat.lt_of_lt_of_le h2 (hs.mon k1 (Nat.le_of_lt htl)).n)
                | true =>
                  have hDt := (pOf_spec l (fun j => listed.getD j false)).2.2 t k2 hTt
                  have hf := free_cls (hready.behind i t o _ (by omega) hready.nd hDt ho ha')
                  rw [isTat_eq ha'] at hTt
                  have hTc : clsOf l[t] = .t := by unfold isT at hTt; split at hTt <;> first | assumption | cases hTt
                  rw [hc, hTc] at hf
                  obtain ⟨n, hn, hg⟩ := hf
                  obtain ⟨y, hy, hxy⟩ := List.any_eq_true.1 hg
                  have := axEq_eq hxy; subst this
                  rcases hs.step t _ ha' with ⟨_, _, hh'⟩ | ⟨_, _, _, hgd', _, _⟩
                  · rw [hh']
                  · have hgs := hs.get_some ho hn (fun j' o' q1 q2 => uniq j' i o' o n q1 ho q2 hn) t (Nat.le_of_lt htl) (by omega)
                    refine guards_mem hgd' _ hy (HH i).n ?_
                    simp only [ev, hgs]
                    rcases hvv with hvv | ⟨nn, cc, hvv⟩
                    · exact .inl ⟨oo, by rw [hvv]⟩
                    · exact .inr ⟨oo, nn, cc, by rw [hvv]⟩
              · rw [Nat.max_eq_right hp, hnew]
          | q => 
            exact absurd hc hcq
          | t =>
            exfalso
            unfold isT at hT; rw [hc] at hT; cases hT


def sameOut : Out → Exit → Prop
  | .norm, .normal => True
  | .brk i, .exit j => i = j
  | .ret, .ret => True
  | _, _ => False

def CodeSim (P : Program) (NG : Nat) (c : AC) (e : Env) (H : AH) (o : Out) (e' : Env) (H' : AH) : Prop :=
  ∀ (N : Nat) (cm : Code), fitC P NG N c cm = true → ∀ (ρ : Rho) (a : Act) (w : World), RelE ρ e a.tmps → RelH NG ρ H w → Fresh ρ H.n H'.n → a.tmps.size = N →
    cm.wp P (fun x a' w' => sameOut o x ∧ Post NG ρ H a w e' H' a' w') a w

theorem Post.trans {ρ : Rho} {H : AH} {a : Act} {w : World} {H1 : AH} {a1 : Act} {w1 : World} {e2 : Env} {H2 : AH} {a2 : Act} {w2 : World} (hH : RelH NG ρ H w) {ρ1 : Rho} (hfr : Fresh ρ H.n H1.n) (ha : Adv ρ H w ρ1 H1 w1) (hd : a1.defers = a.defers) (hs : a1.tmps.size = a.tmps.size) (k : Post NG ρ1 H1 a1 w1 e2 H2 a2 w2) : Post NG ρ H a w e2 H2 a2 w2 := by
  obtain ⟨ρ2, k1, k2, k3, k4, k5⟩ := k
  exact ⟨ρ2, ha.trans hH hfr k1, k2, k3, k4.trans hd, k5.trans hs⟩

theorem wp_then {P : Program} {x y : Code} {Q : Exit → Act → World → Prop} {a : Act} {w : World} {R : Exit → Act → World → Prop} (hx : x.wp P R a w) (hn : ∀ a' w', R .normal a' w' → y.wp P Q a' w') (ho : ∀ e a' w', e ≠ .normal → R e a' w' → Q e a' w') : (Code.seq x y).wp P Q a w := by
  refine wp_seq (wp_mono hx ?_)
  intro e a' w' h
  cases e with
  | normal => exact hn _ _ h
  | _ => exact ho _ _ _ (by simp) h

def LoopSim (P : Program) (NG : Nat) : AC → Env → AH → Out → Env → AH → Prop
  | .loop c, e, H, o, e', H' => ∀ (N : Nat) (s : Code), fitC P NG N c s = true → ∀ (ρ : Rho) (a : Act) (w : World), RelE ρ e a.tmps → RelH NG ρ H w → Fresh ρ H.n H'.n → a.tmps.size = N →
      ∀ (b : Frame) (k : List Item) (cs : List Frame), ∃ x a' w', (sameOut o x ∧ Post NG ρ H a w e' H' a' w') ∧ Arrives P (lone (b.at a (.code s :: .inLoop s :: k)) cs w) b k cs x a' w'
  | _, _, _, _, _, _ => True
theorem LoopSim.code {c : AC} {e : Env} {H : AH} {o : Out} {e' : Env} {H' : AH} (h : LoopSim P NG (.loop c) e H o e' H') : CodeSim P NG (.loop c) e H o e' H' := by
  intro N cm hf ρ act w he hH hfr hN
  cases cm <;> simp [fitC] at hf
  rename_i s
  intro b k cs
  obtain ⟨x, a', w', hp, harr⟩ := h N s hf ρ act w he hH hfr hN b k cs
  exact ⟨x, a', w', hp, .of_steps (.one step_loop) harr⟩

theorem push_put' {H : AH} {cs cs' : List AV} : (H.push cs).put H.n (some ⟨cs', true⟩) = H.push cs' := by
  unfold AH.push AH.put; congr 1; funext c; by_cases h : c = H.n <;> simp [h]
theorem skip_eq {H : AH} {cs : List AV} : (H.push cs).put H.n none = H.skip := by
  unfold AH.skip AH.push AH.put; congr 1; funext c; by_cases h : c = H.n <;> simp [h]
theorem flag_store {H : AH} {e : Env} {c : Nat} {x t : Bool} (h : get e c = some (.ptr H.n 0)) : aop e (H.push [.b x]) (.store 1 (.t c) (.c (.b t))) = some (.tup [], H.push [.b t]) := by
  have h1 : (H.push [AV.b x]).store H.n 0 [.b t] = some (H.push [.b t]) := by
    unfold AH.store
    have : (H.push [AV.b x]).bk H.n = some ⟨[.b x], true⟩ := by simp [AH.push]
    rw [this]
    simp only [true_and, List.length_singleton, Nat.zero_add, Nat.le_refl, if_true]
    rw [push_put']; rfl
  simp [aop, ev, h, AV.cells, AV.isTup, h1]
theorem flag_load {H : AH} {e : Env} {c : Nat} {x : Bool} (h : get e c = some (.ptr H.n 0)) : aop e (H.push [.b x]) (.load (.t c)) = some (.b x, H.push [.b x]) := by
  have : (H.push [AV.b x]).bk H.n = some ⟨[.b x], true⟩ := by simp [AH.push]
  simp [aop, ev, h, AH.load, this]
theorem flag_step {N : Nat} {ops : Array Oper} {l : List AO} (hfl : fitL P NG N ops ops.toList l = true) {i : Nat} {op : Oper} {o : AO} (hop : ops[i]? = some op) (ho : l[i]? = some o) (hcn : o.c = none) (hcall : isCall o.op = false) {e : Env} {H H' : AH} {v : AV} (haop : aop e H o.op = some (v, H'))
    {ρ : Rho} {a : Act} {w : World} (he : RelE ρ e a.tmps) (hH : RelH NG ρ H w) (hfr : Fresh ρ H.n H'.n) (hN : a.tmps.size = N) {K : Act → World → Prop} {Q : Exit → Act → World → Prop}
    (k : ∀ ρ' a' w', Adv ρ H w ρ' H' w' → RelH NG ρ' H' w' → RelE ρ' (upd e o.d v) a'.tmps → a'.defers = a.defers → a'.tmps.size = a.tmps.size → K a' w') : wpOp P ops Q i K a w := by
  obtain ⟨fd, fg, fo⟩ := (fitL_get hfl).2 i op o (by rw [Array.getElem?_toList]; exact hop) ho
  unfold wpOp
  rw [hop]
  have hw : Region.wanted op (yielded ops a.tmps) = true := wanted_of he fg (by rw [hcn]; rfl)
  simp only [hw, if_true]
  refine .inl ((stepSim_op (P := P) (NG := NG) hcall haop) op fo e ρ a w (fun _ _ => rfl) he hH hfr _ _ fun ρ' cv w' h1 h2 h3 => ?_)
  have hdst : op.dst = o.d := (fitD_lt (t := 0) fd).1
  have hpf := put_facts a op.dst cv
  refine k ρ' _ w' h1 h2 ?_ hpf.1 hpf.2
  rw [hdst]
  exact (he.mono h1.sub).upd (fun t ht => by rw [hN]; exact (fitD_lt fd).2 ht) h3 a.defers
theorem flag_sound {N : Nat} {ops : Array Oper} {y : Operand} {c f id : Nat} (hmix : P.follows .mixedOrders = true) (h : flagOk P NG N ops y c f = true) {ρ : Rho} {e : Env} {a : Act} {w : World} {H : AH} (he : RelE ρ e a.tmps) (hc : get e c = none) (hf : get e f = none)
    (hH : RelH NG ρ H w) (hfr : Fresh ρ H.n (H.n + 1)) (hN : a.tmps.size = N) :
    y = .tmp f ∧ (Code.region id ops true).wp P (fun x a' w' => x = .normal ∧ ∃ t : Bool, Post NG ρ H a w ((f, .b t) :: e) H.skip a' w') a w := by
  unfold flagOk at h
  split at h
  case h_2 => cases h
  rename_i o0 o1 o2 o3 f' hops
  simp only [Bool.and_eq_true, beq_iff_eq, bne_iff_ne, Bool.not_eq_true', List.contains_eq_mem, decide_eq_true_eq, decide_eq_false_iff_not] at h
  obtain ⟨⟨⟨hff, hcf⟩, hfl⟩, ⟨⟨⟨⟨⟨d1, d2⟩, d31⟩, d32⟩, hdok⟩, hnd⟩⟩ := h
  subst f'
  refine ⟨rfl, wp_region_any hmix ?_⟩
  have hsz : ops.size = 4 := by rw [← Array.length_toList, hops]; rfl
  have g0 : ops[0]? = some o0 := by rw [← Array.getElem?_toList, hops]; rfl
  have g1 : ops[1]? = some o1 := by rw [← Array.getElem?_toList, hops]; rfl
  have g2 : ops[2]? = some o2 := by rw [← Array.getElem?_toList, hops]; rfl
  have g3 : ops[3]? = some o3 := by rw [← Array.getElem?_toList, hops]; rfl
  rw [hsz]
  have dok : ∀ (i : Nat) (op : Oper), ops[i]? = some op → ∀ k ∈ dirs op, k < i := by
    intro i op hop k hk
    unfold dirsOk at hdok
    have hi : i < ops.size := (Array.getElem?_eq_some_iff.1 hop).1
    have := List.all_eq_true.1 hdok i (List.mem_range.2 (by simpa using hi))
    rw [Array.getElem?_toList, hop] at this
    simpa using List.all_eq_true.1 this k hk
  have some1 : ∀ (L : Array Bool) (i : Nat) (op : Oper), ops[i]? = some op → L.getD i true = false → (∀ k, k < i → k ∈ dirs op → L.getD k false = true) → ∀ {X : Prop}, Region.ready .any ops L = [] → X := by
    intro L i op hop hn hk X hr
    have := mem_ready.2 ⟨hn, op, hop, fun e he hb => hk e.on (dok i op hop _ (mem_dirs.2 ⟨e, he, hb, rfl⟩)) (mem_dirs.2 ⟨e, he, hb, rfl⟩)⟩
    rw [hr] at this; cases this
  have only : ∀ (L : Array Bool) (i : Nat), i ∈ Region.ready .any ops L → (i = 0 ∨ i = 1 ∨ i = 2 ∨ i = 3) ∧ L.getD i true = false ∧ ∀ op, ops[i]? = some op → ∀ k ∈ dirs op, L.getD k false = true := by
    intro L i hi
    obtain ⟨h1, o, ho, h2⟩ := mem_ready.1 hi
    have : i < ops.size := (Array.getElem?_eq_some_iff.1 ho).1
    refine ⟨by omega, h1, fun op hop k hk => ?_⟩
    rw [ho] at hop; cases hop
    obtain ⟨e, he, hb, rfl⟩ := mem_dirs.1 hk
    exact h2 e he hb
  have e1c : get ((c, AV.ptr H.n 0) :: e) c = some (.ptr H.n 0) := by simp [get]
  have q0 : (flagAO c f)[0]? = some ⟨some c, none, [], false, .alloc [.b false]⟩ := rfl
  have q1 : (flagAO c f)[1]? = some ⟨none, none, [], false, .store 1 (.t c) (.c (.b true))⟩ := rfl
  have q2 : (flagAO c f)[2]? = some ⟨none, none, [], false, .store 1 (.t c) (.c (.b false))⟩ := rfl
  have q3 : (flagAO c f)[3]? = some ⟨some f, none, [], false, .load (.t c)⟩ := rfl
  have hH0 : RelH NG ρ H { w with drawn := w.drawn + 1 } := hH.heap_eq rfl
  refine ⟨some1 _ 0 o0 g0 rfl (fun k hk _ => by omega), fun i hi => ?_⟩
  obtain ⟨hi4, hn, hd⟩ := only _ i hi
  rcases hi4 with rfl | rfl | rfl | rfl
  case inr.inl => exact absurd (hd o1 g1 0 d1) (by decide)
  case inr.inr.inl => exact absurd (hd o2 g2 0 d2) (by decide)
  case inr.inr.inr => exact absurd (hd o3 g3 1 d31) (by decide)
  refine flag_step hfl g0 q0 rfl rfl (e := e) (H := H) rfl he hH0 hfr hN fun ρ1 a1 w1 A1 R1 E1 D1 S1 => ?_
  have hfr1 : ∀ x : Bool, Fresh ρ1 (H.push [.b false]).n (H.push [.b x]).n := fun x b h1 h2 => by
    have h3 : H.n + 1 ≤ b := h1
    have h4 : b < H.n + 1 := h2
    omega
  have A0 : Adv ρ H w ρ1 (H.push [.b false]) w1 := ⟨A1.sub, A1.new, A1.mon, ⟨A1.fr.os, A1.fr.tape, A1.fr.output, A1.fr.size, A1.fr.heap⟩⟩
  have nf : ∀ (ρ' : Rho) (x y : Bool), Fresh ρ' (H.push [.b x]).n (H.push [.b y]).n := fun ρ' x y b h1 h2 => by
    have h3 : H.n + 1 ≤ b := h1
    have h4 : b < H.n + 1 := h2
    omega
  have fin : ∀ (L : Array Bool) (x : Bool) (ρ2 : Rho) (a2 : Act) (w2 : World), (L.getD 0 true = true ∧ L.getD 1 true = true ∧ L.getD 2 true = true ∧ L.getD 3 true = false ∧ L.getD 0 false = true ∧ L.getD 1 false = true ∧ L.getD 2 false = true) → (∀ j, j < 4 → (L.setIfInBounds 3 true).getD j true = true) →
      Adv ρ H w ρ2 (H.push [.b x]) w2 → RelH NG ρ2 (H.push [.b x]) w2 → RelE ρ2 ((c, .ptr H.n 0) :: e) a2.tmps → a2.defers = a.defers → a2.tmps.size = a.tmps.size →
      wpAny P .any ops (fun x a' w' => x = .normal ∧ ∃ t : Bool, Post NG ρ H a w ((f, .b t) :: e) H.skip a' w') 1 L a2 w2 := by
    intro L x ρ2 a2 w2 ⟨l0, l1, l2, l3, m0, m1, m2⟩ hL A2 R2 E2 D2 S2
    refine ⟨some1 _ 3 o3 g3 l3 (fun k hk _ => by
      have : k = 0 ∨ k = 1 ∨ k = 2 := by omega
      rcases this with rfl | rfl | rfl
      · exact m0
      · exact m1
      · exact m2), fun i hi => ?_⟩
    obtain ⟨hi4, hn, hd⟩ := only _ i hi
    rcases hi4 with rfl | rfl | rfl | rfl
    · rw [l0] at hn; cases hn
    · rw [l1] at hn; cases hn
    · rw [l2] at hn; cases hn
    refine flag_step hfl g3 q3 rfl rfl (e := (c, .ptr H.n 0) :: e) (H := H.push [.b x]) (flag_load e1c) E2 R2 (nf _ _ _) (S2.trans hN) fun ρ3 a3 w3 A3 R3 E3 D3 S3 => ?_
    refine ⟨?_, rfl, x, ρ3, ?_, ?_, ?_, D3.trans D2, S3.trans S2⟩
    · cases hr : Region.ready .any ops (L.setIfInBounds 3 true) with
      | nil => rfl
      | cons i is =>
        exfalso
        have hm : i ∈ Region.ready .any ops (L.setIfInBounds 3 true) := by rw [hr]; exact List.mem_cons_self
        obtain ⟨h4, hn, _⟩ := only _ i hm
        rw [hL i (by omega)] at hn; cases hn
    · have := A2.trans hH (by have := hfr; exact this) A3
      have h2 : Adv ρ H w ρ3 ((H.push [.b x]).put H.n none) w3 := ⟨this.sub, this.new, this.mon.trans (Mon.kill _ _), this.fr⟩
      rw [skip_eq] at h2; exact h2
    · intro t v hv
      refine E3 t v ?_
      simp only [upd, get] at hv ⊢
      split
      · rename_i q; rw [if_pos q] at hv; exact hv
      · rename_i q
        rw [if_neg q] at hv
        split
        · rename_i q2; subst q2; rw [hc] at hv; cases hv
        · exact hv
    · have := R3.kill H.n
      rw [skip_eq] at this; exact this
  refine ⟨some1 _ 1 o1 g1 rfl (fun k hk _ => by
    have : k = 0 := by omega
    subst this; rfl), fun i hi => ?_⟩
  obtain ⟨hi4, hn, hd⟩ := only _ i hi
  rcases hi4 with rfl | rfl | rfl | rfl
  · exact absurd hn (by decide)
  · refine flag_step hfl g1 q1 rfl rfl (e := (c, .ptr H.n 0) :: e) (H := H.push [.b false]) (flag_store e1c) E1 R1 (nf _ _ _) (S1.trans hN) fun ρ2 a2 w2 A2 R2 E2 D2 S2 => ?_
    refine ⟨some1 _ 2 o2 g2 rfl (fun k hk _ => by
      have : k = 0 ∨ k = 1 := by omega
      rcases this with rfl | rfl <;> rfl), fun i hi => ?_⟩
    obtain ⟨hi4, hn, hd⟩ := only _ i hi
    rcases hi4 with rfl | rfl | rfl | rfl
    · exact absurd hn (by decide)
    · exact absurd hn (by decide)
    · refine flag_step hfl g2 q2 rfl rfl (e := (c, .ptr H.n 0) :: e) (H := H.push [.b true]) (flag_store e1c) E2 R2 (nf _ _ _) ((S2.trans S1).trans hN) fun ρ3 a3 w3 A3 R3 E3 D3 S3 => ?_
      exact fin (((Array.replicate 4 false).setIfInBounds 0 true |>.setIfInBounds 1 true).setIfInBounds 2 true) false ρ3 a3 w3 ⟨rfl, rfl, rfl, rfl, rfl, rfl, rfl⟩ (by decide) ((A0.trans hH hfr A2).trans hH hfr A3) R3 E3 (D3.trans (D2.trans D1)) (S3.trans (S2.trans S1))
    · exact absurd (hd o3 g3 2 d32) (by decide)
  · refine flag_step hfl g2 q2 rfl rfl (e := (c, .ptr H.n 0) :: e) (H := H.push [.b false]) (flag_store e1c) E1 R1 (nf _ _ _) (S1.trans hN) fun ρ2 a2 w2 A2 R2 E2 D2 S2 => ?_
    refine ⟨some1 _ 1 o1 g1 rfl (fun k hk _ => by
      have : k = 0 := by omega
      subst this; rfl), fun i hi => ?_⟩
    obtain ⟨hi4, hn, hd⟩ := only _ i hi
    rcases hi4 with rfl | rfl | rfl | rfl
    · exact absurd hn (by decide)
    · refine flag_step hfl g1 q1 rfl rfl (e := (c, .ptr H.n 0) :: e) (H := H.push [.b false]) (flag_store e1c) E2 R2 (nf _ _ _) ((S2.trans S1).trans hN) fun ρ3 a3 w3 A3 R3 E3 D3 S3 => ?_
      exact fin (((Array.replicate 4 false).setIfInBounds 0 true |>.setIfInBounds 2 true).setIfInBounds 1 true) true ρ3 a3 w3 ⟨rfl, rfl, rfl, rfl, rfl, rfl, rfl⟩ (by decide) ((A0.trans hH hfr A2).trans hH hfr A3) R3 E3 (D3.trans (D2.trans D1)) (S3.trans (S2.trans S1))
    · exact absurd hn (by decide)
    · exact absurd (hd o3 g3 1 d31) (by decide)
  · exact absurd (hd o3 g3 1 d31) (by decide)
def Said (P : Program) (NG : Nat) : Cfg → Res → Prop
  | .code c e H, .out o e' H' => CodeSim P NG c e H o e' H' ∧ LoopSim P NG c e H o e' H'
  | .ops l e H, .ops e' H' => Tr P NG l e H e' H'
  | .call f args H, .val v H' => CallSim P NG f args H v H'
  | _, _ => True

theorem fitC_seq {N : Nat} {a b : AC} {cm : Code} (h : fitC P NG N (.seq a b) cm = true) :
    (∃ ks, a = .keep ks ∧ fitC P NG N b cm = true) ∨ (∃ ks, b = .keep ks ∧ fitC P NG N a cm = true) ∨ (∃ t, b = .kill t ∧ fitC P NG N a cm = true) ∨ (∃ s t, cm = .seq s t ∧ fitC P NG N a s = true ∧ fitC P NG N b t = true) := by
  unfold fitC at h
  split at h
  · exact .inl ⟨_, rfl, h⟩
  · exact .inr (.inl ⟨_, rfl, h⟩)
  · exact .inr (.inr (.inl ⟨_, rfl, h⟩))
  · split at h
    · simp only [Bool.and_eq_true] at h
      exact .inr (.inr (.inr ⟨_, _, rfl, h.1, h.2⟩))
    · cases h

theorem results_run {ρ : Rho} {H : AH} {w : World} {e : Env} {tm : Array Value} (he : RelE ρ e tm) (hH : RelH NG ρ H w) : ∀ (rs : List ResultVar) (qs : List ARes) (vs : List AV), fitR P rs qs = true → aress e H qs = some vs →
    ∃ us : List Value, (rs.mapM (fun r => match r with
      | .tmp t => pure (tm.getD t undef)
      | .cell a t => do loadVar t (← asAddr (tm.getD a undef)) : ResultVar → Sem Value)).run P w = .ok us w ∧ VRs ρ vs us
  | [], [], vs, _, h => by
    simp only [aress, Option.some.injEq] at h; subst h
    exact ⟨[], rfl, VRs.nil ρ⟩
  | r :: rs, q :: qs, vs, hf, h => by
    simp only [aress] at h
    split at h
    · rename_i v hv
      obtain ⟨vs', hvs, e2⟩ := map_some h
      subst e2
      have key : fitR P rs qs = true ∧ ∃ u, ((match r with
          | .tmp t => pure (tm.getD t undef)
          | .cell a t => do loadVar t (← asAddr (tm.getD a undef))) : Sem Value).run P w = .ok u w ∧ VR ρ v u := by
        cases r with
        | tmp t =>
          cases q <;> simp only [fitR, Bool.and_eq_true, beq_iff_eq] at hf <;> first | (cases hf; done) | skip
          obtain ⟨rfl, hf⟩ := hf
          obtain ⟨u, hu, hr⟩ := he _ _ hv
          exact ⟨hf, u, by simp only [Array.getD_eq_getD_getElem?, hu, Option.getD_some]; rfl, hr⟩
        | cell t ty =>
          cases q <;> simp only [fitR, Bool.and_eq_true, beq_iff_eq] at hf <;> first | (cases hf; done) | skip
          · rename_i n sz
            obtain ⟨⟨⟨rfl, hagg⟩, hsz⟩, hf⟩ := hf
            refine ⟨hf, ?_⟩
            simp only [ares1] at hv
            split at hv
            · rename_i b ob hb
              obtain ⟨cs, hcs, rfl⟩ := map_some hv
              have hp := he _ _ hb
              obtain ⟨u, hu, hup⟩ := hp
              obtain ⟨B, o0, x0, hρ, rfl⟩ := hup.ptr_inv
              have hx2 := sim_loadN_run (P := P) hH hρ hcs hagg hsz
              obtain ⟨cv, hr, hv3⟩ := hx2
              exact ⟨cv, by simp [Array.getD_eq_getD_getElem?, hu, asAddr, hr], hv3⟩
            · cases hv
          · rename_i n
            obtain ⟨⟨rfl, hagg⟩, hf⟩ := hf
            refine ⟨hf, ?_⟩
            simp only [ares1] at hv
            split at hv
            · rename_i b ob hb
              obtain ⟨u, hu, hup⟩ := he _ _ hb
              obtain ⟨B, o0, x0, hρ, rfl⟩ := hup.ptr_inv
              obtain ⟨cv, hr, hv3⟩ := sim_load_run (P := P) hH hρ hv hagg
              exact ⟨cv, by simp [Array.getD_eq_getD_getElem?, hu, asAddr, hr], hv3⟩
            · cases hv
      obtain ⟨hf', u, hu, hr⟩ := key
      obtain ⟨us, hus, hvr⟩ := results_run he hH rs qs vs' hf' hvs
      refine ⟨u :: us, ?_, VRs.cons hr hvr⟩
      rw [List.mapM_cons, Sem.run_bind, hu, Result.andThen_ok, Sem.run_bind, hus]
      rfl
    · cases h
  | [], _ :: _, _, hf, _ => by simp [fitR] at hf
  | _ :: _, [], _, hf, _ => by simp [fitR] at hf


theorem nth_results {F : Func} {tm : Array Value} {us : List Value} {w : World} (h : (F.results.toList.mapM (fun r => match r with
      | .tmp t => pure (tm.getD t undef)
      | .cell a t => do loadVar t (← asAddr (tm.getD a undef)) : ResultVar → Sem Value)).run P w = .ok us w) : (results F tm).run P w = .ok (if h : us.toArray.size = 1 then us.toArray[0] else .tuple us.toArray) w := by
  have : (F.results.mapM (fun r => match r with
      | .tmp t => pure (tm.getD t undef)
      | .cell a t => do loadVar t (← asAddr (tm.getD a undef)) : ResultVar → Sem Value)).run P w = .ok us.toArray w := by
    rw [Array.mapM_eq_mapM_toList, Sem.run_map, h]; rfl
  have e : results F tm = ((F.results.mapM (fun r => match r with
      | .tmp t => pure (tm.getD t undef)
      | .cell a t => do loadVar t (← asAddr (tm.getD a undef)) : ResultVar → Sem Value)) >>= fun vs => pure (if h : vs.size = 1 then vs[0] else .tuple vs)) := rfl
  rw [e, Sem.run_bind, this]
  rfl

theorem enterE_get : ∀ (vs : List AV) (k t : Nat) (v : AV), get (enterE k vs) t = some v → k ≤ t ∧ vs[t - k]? = some v
  | [], k, t, v, h => by simp [enterE, get] at h
  | x :: vs, k, t, v, h => by
    simp only [enterE, get] at h
    split at h
    · rename_i e; subst e; simp at h; subst h; simp
    · rename_i e
      obtain ⟨h1, h2⟩ := enterE_get vs (k + 1) t v h
      refine ⟨by omega, ?_⟩
      rw [show t - k = (t - (k + 1)) + 1 by omega]; simpa using h2

theorem sound {C : FuncId → Option AFn} (hC : Fits P NG C) (hmix : P.follows .mixedOrders = true) {c : Cfg} {r : Res} (h : E C c r) : Said P NG c r := by
  induction h with
  | @skip e H =>
    refine ⟨?_, trivial⟩
    intro N cm hf ρ a w he hH _ hN
    cases cm <;> simp [fitC] at hf
    exact wp_skip ⟨trivial, ρ, Adv.refl _ _ _, he, hH, rfl, rfl⟩
  | @keep ks e H =>
    refine ⟨?_, trivial⟩
    intro N cm hf
    simp [fitC] at hf
  | @exit id e H =>
    refine ⟨?_, trivial⟩
    intro N cm hf ρ a w he hH _ hN
    cases cm <;> simp [fitC] at hf
    subst hf
    exact wp_exit ⟨rfl, ρ, Adv.refl _ _ _, he, hH, rfl, rfl⟩
  | @ret e H =>
    refine ⟨?_, trivial⟩
    intro N cm hf ρ a w he hH _ hN
    cases cm <;> simp [fitC] at hf
    exact wp_ret ⟨trivial, ρ, Adv.refl _ _ _, he, hH, rfl, rfl⟩
  | @ops l e H e' H' _ ih =>
    refine ⟨?_, trivial⟩
    intro N cm hf ρ a w he hH hfr hN
    have ih : Tr P NG l e H e' H' := ih
    cases cm with
    | region id ops draw =>
      simp only [fitC, Bool.and_eq_true, Bool.or_eq_true, Bool.not_eq_true'] at hf
      obtain ⟨hfl, hd⟩ := hf
      cases draw with
      | false =>
        apply wp_region
        have := tr_text (P := P) (N := N) (ops := ops) ih 0 ops.toList rfl hfl ρ a w he hH hfr hN (fun x a' w' => sameOut .norm x ∧ Post NG ρ H a w e' H' a' w') (fun a' w' hp => ⟨trivial, hp⟩)
        simpa using this
      | true =>
        have hok : drawOk ops l = true := by simpa using hd
        obtain ⟨E', HH, vs, hs, e0, h0, e1, h1⟩ := ih.seq
        obtain ⟨hlen, _⟩ := fitL_get hfl
        have hlen' : ops.size = l.length := by simpa using hlen
        refine wp_region_any hmix ?_
        subst e0 h0 e1 h1
        have hH' : RelH NG ρ (HH 0) { w with drawn := w.drawn + 1 } := hH.heap_eq rfl
        refine draw_sound (P := P) (NG := NG) hs hfl hok (ρ0 := ρ) (a0 := a) (w0 := { w with drawn := w.drawn + 1 }) he hH' hfr hN (Q := fun x a' w' => sameOut .norm x ∧ Post NG ρ (HH 0) a w (E' l.length) (HH l.length) a' w') ?_ ops.size _ ρ a _ (by simp) ⟨List.range ops.size, by simp, fun j hj _ => List.mem_range.2 hj⟩ ?_ ?_ rfl hN
        · rintro a' w' ⟨ρ', k1, k2, k3, k4, k5⟩
          exact ⟨trivial, ρ', ⟨k1.sub, k1.new, k1.mon, ⟨k1.fr.os, k1.fr.tape, k1.fr.output, k1.fr.size, k1.fr.heap⟩⟩, k2, k3, k4, k5⟩
        · intro j o hj
          simp [Array.getD] at hj
        · have hD : (fun j => (Array.replicate ops.size false).getD j false) = fun _ => false := by
            funext j; simp [Array.getD]
          rw [hD]
          have hgen : ∀ (l' : List AO) (k : Nat), envOf (E' 0) vs (fun _ => false) l' k = E' 0 := by
            intro l'
            induction l' with
            | nil => intro k; rfl
            | cons o l' ih => intro k; simp only [envOf, Bool.false_eq_true, if_false]; exact ih _
          have hwf := hH.wf
          have hag : ∀ b r, ρ b = some r → b < (HH l.length).n → (heapD l HH (fun _ => false)).bk b = (HH 0).bk b := by
            intro b r hb hlt
            have hb0 : b < (HH 0).n := by
              rcases Nat.lt_or_ge b (HH 0).n with q | q
              · exact q
              · rw [hfr b q hlt] at hb; cases hb
            show (HH (max (pOf l _) (btOf HH l.length b))).bk b = _
            have hbt := bt_old hs (Nat.zero_le _) hb0
            rw [Nat.max_eq_left (by omega)]
            obtain ⟨p1, p2, p3⟩ := pOf_spec l (fun _ => false)
            exact hs.flat (Nat.zero_le _) p1 (fun t _ ht => by
              cases hq : isTat l t with
              | false => rfl
              | true => exact absurd (p3 t ht hq) (by simp)) hb0
          refine ⟨by rw [hgen]; exact he, ?_, fun b r hb => .inl hb, ⟨Sub.refl _, NewB.refl _ _ _ _, heapD_mon hs hwf _, Fr.refl _ _ _⟩⟩
          refine hH'.view (heapD_wf hs hwf _) (fun b r hb hlt => hag b r hb hlt)
    | _ => simp [fitC] at hf
  | @seqN a b e H e' H' r h1 h2 i1 i2 =>
    cases r with
    | ops => trivial
    | val => trivial
    | out o e2 H2 =>
      refine ⟨?_, trivial⟩
      intro N cm hf ρ act w he hH hfr hN
      have i1 : CodeSim P NG a e H .norm e' H' := i1.1
      have i2 : CodeSim P NG b e' H' o e2 H2 := i2.1
      have m1 : Mon H H' := E_mon h1
      have m2 : Mon H' H2 := E_mon h2
      rcases fitC_seq hf with ⟨ks, rfl, hf2⟩ | ⟨ks, rfl, hf2⟩ | ⟨t, rfl, hf2⟩ | ⟨s, t, rfl, hfa, hfb⟩
      · cases h1
        exact i2 N cm hf2 ρ act w (he.keep ks) hH hfr hN
      · cases h2
        refine wp_mono (i1 N cm hf2 ρ act w he hH hfr hN) ?_
        rintro x a' w' ⟨hs, ρ', k1, k2, k3⟩
        exact ⟨hs, ρ', k1, k2.keep ks, k3⟩
      · cases h2
        refine wp_mono (i1 N cm hf2 ρ act w he hH hfr hN) ?_
        rintro x a' w' ⟨hs, ρ', k1, k2, k3, k4⟩
        exact ⟨hs, ρ', ⟨k1.sub, k1.new, k1.mon.trans (Mon.kill _ _), k1.fr⟩, k2, k3.kill _, k4⟩
      · refine wp_then (i1 N s hfa ρ act w he hH (hfr.sub m2.n) hN) ?_ ?_
        · rintro a' w' ⟨_, ρ', k1, k2, k3, k4, k5⟩
          refine wp_mono (i2 N t hfb ρ' a' w' k2 k3 (k1.fresh hfr m2.n) (k5.trans hN)) ?_
          rintro x a2 w2 ⟨hs, hp⟩
          exact ⟨hs, hp.trans hH (hfr.sub m2.n) k1 k4 k5⟩
        · rintro x a' w' hne ⟨hs, _⟩
          cases x <;> first | exact absurd rfl hne | exact hs.elim
  | @seqX a b e H o e' H' h1 hne i1 =>
    refine ⟨?_, trivial⟩
    intro N cm hf ρ act w he hH hfr hN
    have i1 : CodeSim P NG a e H o e' H' := i1.1
    rcases fitC_seq hf with ⟨ks, rfl, hf2⟩ | ⟨ks, rfl, hf2⟩ | ⟨t, rfl, hf2⟩ | ⟨s, t, rfl, hfa, hfb⟩
    · cases h1; exact absurd rfl hne
    · exact i1 N cm hf2 ρ act w he hH hfr hN
    · exact i1 N cm hf2 ρ act w he hH hfr hN
    · refine wp_then (i1 N s hfa ρ act w he hH hfr hN) ?_ ?_
      · rintro a' w' ⟨hs, _⟩
        cases o <;> first | exact absurd rfl hne | exact hs.elim
      · rintro x a' w' _ h; exact h
  | @cond x a b e H t r hx h1 ih =>
    cases r with
    | ops => trivial
    | val => trivial
    | out o e2 H2 =>
      refine ⟨?_, trivial⟩
      intro N cm hf ρ act w he hH hfr hN
      have ih : CodeSim P NG (if t = true then a else b) e H o e2 H2 := ih.1
      cases cm <;> simp [fitC] at hf
      rename_i y s u
      obtain ⟨⟨hy, hs⟩, hu⟩ := hf
      have hv := (ev_VR hH.glob he hy hx).b_inv
      refine wp_cond hv ?_
      cases t
      · exact ih N u hu ρ act w he hH hfr hN
      · exact ih N s hs ρ act w he hH hfr hN
  | @kill t e H b o n c hg =>
    refine ⟨?_, trivial⟩
    intro N cm hf ρ a w he hH _ hN
    simp [fitC] at hf
  | @alt c f a b e H r hc hf0 h1 h2 i1 i2 =>
    cases r with
    | ops => trivial
    | val => trivial
    | out o e2 H2 =>
      refine ⟨?_, trivial⟩
      intro N cm hf ρ act w he hH hfr hN
      have i1 : CodeSim P NG a e H.skip o e2 H2 := i1.1
      have i2 : CodeSim P NG b e H.skip o e2 H2 := i2.1
      have m2 : Mon H.skip H2 := E_mon h1
      unfold fitC at hf
      split at hf
      case h_2 => cases hf
      rename_i id ops y s u
      simp only [Bool.and_eq_true] at hf
      obtain ⟨⟨hfl, hfa⟩, hfb⟩ := hf
      have hfr1 : Fresh ρ H.n (H.n + 1) := hfr.sub m2.n
      obtain ⟨rfl, hwp⟩ := flag_sound (id := id) hmix hfl he hc hf0 hH hfr1 hN
      refine wp_then hwp ?_ ?_
      · rintro a' w' ⟨_, t, ρ', k1, k2, k3, k4, k5⟩
        have hv := (ev_VR (x := .tmp f) (y := .t f) k3.glob k2 (by simp [fitX]) (show ev ((f, .b t) :: e) (.t f) = some (.b t) by simp [ev, get])).b_inv
        have k2' : RelE ρ' e a'.tmps := fun x v hx => k2 x v (by
          simp only [get]
          split
          · rename_i q; subst q; rw [hf0] at hx; cases hx
          · exact hx)
        refine wp_cond hv ?_
        cases t
        · refine wp_mono (i2 N u hfb ρ' a' w' k2' k3 (k1.fresh hfr m2.n) (k5.trans hN)) ?_
          rintro x a2 w2 ⟨hs, hp⟩
          exact ⟨hs, hp.trans hH hfr1 k1 k4 k5⟩
        · refine wp_mono (i1 N s hfa ρ' a' w' k2' k3 (k1.fresh hfr m2.n) (k5.trans hN)) ?_
          rintro x a2 w2 ⟨hs, hp⟩
          exact ⟨hs, hp.trans hH hfr1 k1 k4 k5⟩
      · rintro x a' w' hne ⟨hs, _⟩
        exact absurd hs hne
  | @blockX id a e H o e' H' h1 hne ih =>
    refine ⟨?_, trivial⟩
    intro N cm hf ρ act w he hH hfr hN
    have ih : CodeSim P NG a e H o e' H' := ih.1
    cases cm <;> simp [fitC] at hf
    rename_i j s
    obtain ⟨rfl, hs⟩ := hf
    apply wp_block
    refine wp_mono (ih N s hs ρ act w he hH hfr hN) ?_
    rintro x a' w' ⟨hso, hp⟩
    cases x with
    | exit id' =>
      simp only [Exit.inBlock]
      cases o with
      | brk k =>
        have hk : k = id' := hso
        subst hk
        rw [if_neg (fun e => hne (by rw [e]))]
        exact ⟨rfl, hp⟩
      | norm => exact hso.elim
      | ret => exact hso.elim
    | _ => exact ⟨hso, hp⟩
  | @blockB id a e H e' H' h1 ih =>
    refine ⟨?_, trivial⟩
    intro N cm hf ρ act w he hH hfr hN
    have ih : CodeSim P NG a e H (.brk id) e' H' := ih.1
    cases cm <;> simp [fitC] at hf
    rename_i j s
    obtain ⟨rfl, hs⟩ := hf
    apply wp_block
    refine wp_mono (ih N s hs ρ act w he hH hfr hN) ?_
    rintro x a' w' ⟨hso, hp⟩
    cases x with
    | exit id' =>
      have hk : id = id' := hso
      subst hk
      simp only [Exit.inBlock, if_true]
      exact ⟨trivial, hp⟩
    | _ => exact hso.elim
  | @loopN a e H e' H' r h1 h2 i1 i2 =>
    cases r with
    | ops => trivial
    | val => trivial
    | out o e2 H2 =>
      have i1 : CodeSim P NG a e H .norm e' H' := i1.1
      have i2 : LoopSim P NG (.loop a) e' H' o e2 H2 := i2.2
      have m2 : Mon H' H2 := E_mon h2
      have key : LoopSim P NG (.loop a) e H o e2 H2 := by
        intro N s hf ρ act w he hH hfr hN b k cs
        obtain ⟨x, a1, w1, ⟨hs1, ρ', k1, k2, k3, k4, k5⟩, harr⟩ := i1 N s hf ρ act w he hH (hfr.sub m2.n) hN b (.inLoop s :: k) cs
        cases x <;> first | exact hs1.elim | skip
        obtain ⟨x2, a2, w2, ⟨hs2, hp2⟩, harr2⟩ := i2 N s hf ρ' a1 w1 k2 k3 (k1.fresh hfr m2.n) (k5.trans hN) b k cs
        refine ⟨x2, a2, w2, ⟨hs2, hp2.trans hH (hfr.sub m2.n) k1 k4 k5⟩, ?_⟩
        have harr1 : Steps P (lone (b.at act (.code s :: .inLoop s :: k)) cs w) (lone (b.at a1 (.inLoop s :: k)) cs w1) := harr
        exact .of_steps (Steps.trans harr1 (.one step_inLoop)) harr2
      exact ⟨key.code, key⟩
  | @loopX a e H o e' H' h1 hne ih =>
    have ih : CodeSim P NG a e H o e' H' := ih.1
    have key : LoopSim P NG (.loop a) e H o e' H' := by
      intro N s hf ρ act w he hH hfr hN b k cs
      obtain ⟨x, a1, w1, ⟨hs1, hp⟩, harr⟩ := ih N s hf ρ act w he hH hfr hN b (.inLoop s :: k) cs
      refine ⟨x, a1, w1, ⟨hs1, hp⟩, ?_⟩
      cases x with
      | normal => cases o <;> first | exact absurd rfl hne | exact hs1.elim
      | exit id => exact .pass (x := .inLoop s) rfl (fun _ _ => .inl (by simp)) harr
      | goto l => exact .pass (x := .inLoop s) rfl (fun _ _ => .inl (by simp)) harr
      | ret => exact .pass (x := .inLoop s) rfl (fun _ _ => .inl (by simp)) harr
      | panic ch => exact .pass (x := .inLoop s) rfl (fun _ _ => .inl (by simp)) harr
      | outgrown => exact .pass (x := .inLoop s) rfl (fun _ _ => .inl (by simp)) harr
    exact ⟨key.code, key⟩
  | @nil e H => exact Tr.nil
  | @pass o l e H r hw h1 ih =>
    cases r with
    | out => trivial
    | val => trivial
    | ops e' H' => exact Tr.pass hw ih
  | @op o l e H v H' r hw hc ho hg hq h1 ih =>
    cases r with
    | out => trivial
    | val => trivial
    | ops e' H2 => exact Tr.step hw (stepSim_op hc ho) (Mon.aop ho) hg hq (fun _ => ho) ih
  | @call o l e H f args v H' r hw ht h1 hg hq h2 i1 i2 =>
    cases r with
    | out => trivial
    | val => trivial
    | ops e' H2 =>
      have hfn : ∃ fn, C f = some fn := by cases h1 with | enter hf _ _ _ _ => exact ⟨_, hf⟩
      exact Tr.step hw (stepSim_call hC ht hfn i1) (E_mon h1) hg hq (fun h => by rw [isCall_target ht] at h; cases h) i2
  | @enter f args H fn o e H' v hf hn h1 ho hr ih =>
    intro ρ cargs w hv hH hfr
    have ih : CodeSim P NG fn.body (enterE 0 args) H o e H' := ih.1
    obtain ⟨F, hF, hfit⟩ := hC f fn hf
    simp only [fitF, Bool.and_eq_true, bne_iff_ne, decide_eq_true_eq] at hfit
    obtain ⟨⟨⟨_, hnp⟩, hres⟩, hbody⟩ := hfit
    cases hb : F.body with
    | none => rw [hb] at hbody; cases hbody
    | some cm =>
      rw [hb] at hbody
      have hsz : cargs.size = args.length := by rw [hv.1]; simp
      refine calls_of_wp hF hb ?_
      have he : RelE ρ (enterE 0 args) (cargs ++ Array.replicate (F.ntmps - cargs.size) undef) := by
        intro t x hx
        obtain ⟨_, hx⟩ := enterE_get args 0 t x hx
        obtain ⟨u, hu, hr⟩ := hv.get hx
        have ht : t < cargs.size := by have := (List.getElem?_eq_some_iff.1 hu).1; simpa using this
        exact ⟨u, by rw [Array.getElem?_append_left ht, ← Array.getElem?_toList]; simpa using hu, hr⟩
      refine wp_mono (ih F.ntmps cm hbody ρ _ w he hH hfr (by simp; omega)) ?_
      rintro x a' w' ⟨hs, ρ', k1, k2, k3, k4, k5⟩
      have fin : ∃ cv, (results F a'.tmps).run P w' = .ok cv w' ∧ VR ρ' v cv := by
        unfold ares at hr
        cases hq : aress e H' fn.res with
        | none => rw [hq] at hr; cases hr
        | some vs =>
          rw [hq] at hr
          obtain ⟨us, hus, hvr⟩ := results_run (P := P) k2 k3 _ _ vs hres hq
          have := nth_results hus
          refine ⟨_, this, ?_⟩
          cases vs with
          | nil =>
            have := hvr.nil_inv; subst this
            cases hr
            simp only [List.size_toArray, List.length_nil]
            exact .tup rfl (fun i x v h => by simp at h)
          | cons x vs =>
            cases vs with
            | nil =>
              obtain ⟨u, us', rfl, hxu, hrest⟩ := hvr.cons_inv
              have := hrest.nil_inv; subst this
              cases hr
              simpa using hxu
            | cons y vs =>
              cases hr
              have hlen : us.length = vs.length + 2 := by rw [← hvr.1]; simp
              rw [dif_neg (by simp; omega)]
              exact .tup (by simpa using hvr.1) hvr.2
      obtain ⟨cv, hrun, hcv⟩ := fin
      have hdef : a'.defers = [] := k4
      rcases ho with rfl | rfl
      · cases x <;> first | exact hs.elim | skip
        exact ⟨hdef, cv, hrun, ρ', cv, rfl, k1, k3, hcv⟩
      · cases x <;> first | exact hs.elim | skip
        exact ⟨hdef, cv, hrun, ρ', cv, rfl, k1, k3, hcv⟩

end
end Go.Proofs.YtcibjklpaljadaaGreat.AM
namespace Go.Proofs.YtcibjklpaljadaaGreat.AM
set_option linter.unusedSimpArgs false
set_option linter.unusedVariables false
open Go Go.RowKit

def o1 (d : Nat) (op : AOp) : AO := ⟨some d, none, [], false, op⟩
def o0 (op : AOp) : AO := ⟨none, none, [], false, op⟩

section
variable {C : FuncId → Option AFn}

def stepK (C : FuncId → Option AFn) (e : Env) (H : AH) (op : AOp) (k : AV → AH → Prop) : Prop :=
  if isCall op = true then bindO (target e op) fun r => CallK C r.1 r.2 H k else bindO (aop e H op) fun r => k r.1 r.2

def bindE (e : Env) (k : Env → Prop) : Prop := k e
inductive Fz {α : Type} : (α → Prop) → Type
  | mk (a : α → Prop) : Fz a
inductive Fp : Prop → Type
  | mk (a : Prop) : Fp a
inductive Fk : (AV → AH → Prop) → Type
  | mk (a : AV → AH → Prop) : Fk a
def bindF {α : Type} (o : Option α) (k : α → Prop) (_ : Fz k) : Prop := bindO o k
def ifBF (o : Option AV) (p q : Prop) (_ : Fp p) (_ : Fp q) : Prop := ifB o p q
def ifWF (o : Option Bool) (p q : Prop) (_ : Fp p) (_ : Fp q) : Prop := ifW o p q
def bindEF (e : Env) (k : Env → Prop) (_ : Fz k) : Prop := k e
def CallF (C : FuncId → Option AFn) (f : FuncId) (args : List AV) (H : AH) (k : AV → AH → Prop) (_ : Fk k) : Prop := CallK C f args H k
def cnd (c : Prop) (p q : Prop) (_ : Fp p) (_ : Fp q) : Prop := (c ∧ p) ∨ (¬c ∧ q)
theorem bindO_F {α : Type} {o : Option α} {k : α → Prop} : bindO o k = bindF o k (Fz.mk k) := rfl
theorem ifB_F {o p q} : ifB o p q = ifBF o p q (Fp.mk p) (Fp.mk q) := rfl
theorem ifW_F {o p q} : ifW o p q = ifWF o p q (Fp.mk p) (Fp.mk q) := rfl
theorem bindE_F {e} {k : Env → Prop} : bindE e k = bindEF e k (Fz.mk k) := rfl
theorem CallK_F {f args H k} : CallK C f args H k = CallF C f args H k (Fk.mk k) := rfl
theorem bindF_some {α : Type} {a : α} {k : α → Prop} {w} : bindF (some a) k w = k a := bindO_some a k
theorem ifBF_true {p q w w'} : ifBF (some (.b true)) p q w w' = p := ifB_true p q
theorem ifBF_false {p q w w'} : ifBF (some (.b false)) p q w w' = q := ifB_false p q
theorem ifBF_b {x p q w w'} : ifBF (some (.b x)) p q w w' = cnd (x = true) p q w w' := by cases x <;> simp [ifBF, ifB, cnd]
theorem ifWF_true {p q w w'} : ifWF (some true) p q w w' = p := ifW_true p q
theorem ifWF_false {p q w w'} : ifWF (some false) p q w w' = q := ifW_false p q
theorem bindEF_nil {k : Env → Prop} {w} : bindEF [] k w = k [] := rfl
theorem bindEF_cons {a} {e : Env} {k : Env → Prop} {w} : bindEF (a :: e) k w = k (a :: e) := rfl
theorem cnd_true {p q w w'} : cnd True p q w w' = p := by simp [cnd]
theorem cnd_false {p q w w'} : cnd False p q w w' = q := by simp [cnd]
theorem cnd_pos {c p q w w'} (h : c) : cnd c p q w w' = p := by rw [eq_true h, cnd_true]
theorem cnd_neg {c p q w w'} (h : ¬c) : cnd c p q w w' = q := by rw [eq_false h, cnd_false]
theorem cnd_iff {c p q w w'} {r : Prop} (h1 : c → (p ↔ r)) (h2 : ¬c → (q ↔ r)) : cnd c p q w w' ↔ r := by
  by_cases h : c
  · rw [cnd_pos h]; exact h1 h
  · rw [cnd_neg h]; exact h2 h
def wantV (b : Bool) : Option AV → Option Bool
  | some (.b x) => some (x == b)
  | some _ => some false
  | none => none
theorem want_none {e : Env} : want e none = some true := rfl
theorem want_some {e : Env} {t b} : want e (some (t, b)) = wantV b (get e t) := by
  unfold want wantV; rfl
theorem wantV_tup {b l} : wantV b (some (.tup l)) = some false := rfl
theorem wantV_tt : wantV true (some (.b true)) = some true := rfl
theorem wantV_tf : wantV true (some (.b false)) = some false := rfl
theorem wantV_ft : wantV false (some (.b true)) = some false := rfl
theorem wantV_ff : wantV false (some (.b false)) = some true := rfl
theorem ifWF_t {x p q w w'} : ifWF (wantV true (some (.b x))) p q w w' = cnd (x = true) p q w w' := by cases x <;> simp [ifWF, ifW, wantV, cnd]
theorem ifWF_f {x p q w w'} : ifWF (wantV false (some (.b x))) p q w w' = cnd (x = true) q p w' w := by cases x <;> simp [ifWF, ifW, wantV, cnd]
theorem W_keepE {ks e H Q} : W C (.keep ks) e H Q = bindE (keepE ks e) fun e' => Q .norm e' H := by rw [W_keep]; rfl

theorem WO_o1 {d op l e H K} : WO C (o1 d op :: l) e H K = stepK C e H op fun v H' => WO C l ((d, v) :: e) H' K := by
  unfold o1 stepK
  cases hc : isCall op with
  | false => rw [WO_op hc]; simp only [want, ifW_true, Guards, true_and, Bool.false_eq_true, false_implies, if_false]; rfl
  | true => rw [WO_call hc]; simp only [want, ifW_true, Guards, true_and, Bool.false_eq_true, false_implies, if_true]; rfl
theorem WO_o0 {op l e H K} : WO C (o0 op :: l) e H K = stepK C e H op fun _ H' => WO C l e H' K := by
  unfold o0 stepK
  cases hc : isCall op with
  | false => rw [WO_op hc]; simp only [want, ifW_true, Guards, true_and, Bool.false_eq_true, false_implies, if_false]; rfl
  | true => rw [WO_call hc]; simp only [want, ifW_true, Guards, true_and, Bool.false_eq_true, false_implies, if_true]; rfl
theorem WO_gen {d c gd q op l e H K} : WO C (⟨d, c, gd, q, op⟩ :: l) e H K =
    ifW (want e c) (stepK C e H op fun v H' => Guards e H H' gd ∧ (q = true → Ext H H') ∧ WO C l (upd e d v) H' K) (WO C l (upd e d (.tup [])) H K) := by
  unfold stepK
  cases hc : isCall op with
  | false => rw [WO_op hc]; simp only [Bool.false_eq_true, if_false]
  | true => rw [WO_call hc]; simp only [if_true]

theorem WO_gs {d c gd q op l e H K} : WO C (⟨some d, c, gd, q, op⟩ :: l) e H K =
    ifW (want e c) (stepK C e H op fun v H' => Guards e H H' gd ∧ (q = true → Ext H H') ∧ WO C l ((d, v) :: e) H' K) (WO C l ((d, .tup []) :: e) H K) := WO_gen
theorem WO_gz {c gd q op l e H K} : WO C (⟨none, c, gd, q, op⟩ :: l) e H K =
    ifW (want e c) (stepK C e H op fun v H' => Guards e H H' gd ∧ (q = true → Ext H H') ∧ WO C l e H' K) (WO C l e H K) := WO_gen
theorem WO_gp {d c op l e H K} : WO C (⟨some d, c, [], false, op⟩ :: l) e H K =
    ifW (want e c) (stepK C e H op fun v H' => WO C l ((d, v) :: e) H' K) (WO C l ((d, .tup []) :: e) H K) := by
  rw [WO_gen]; simp only [Guards, true_and, Bool.false_eq_true, false_implies, implies_true, upd]

variable {e : Env} {H : AH} {k : AV → AH → Prop}
theorem stepK_op {op : AOp} (h : isCall op = false) : stepK C e H op k = bindO (aop e H op) fun r => k r.1 r.2 := by unfold stepK; rw [h]; simp
theorem bindO_map {α β : Type} (o : Option α) (f : α → β) (k : β → Prop) : bindO (o.map f) k = bindO o fun a => k (f a) := by cases o <;> simp [bindO]
theorem stepK_mv {x} : stepK C e H (.mv x) k = bindO (ev e x) fun v => k v H := by rw [stepK_op rfl]; simp only [aop, bindO_map]
theorem stepK_pick {c a b} : stepK C e H (.pick c a b) k = ifB (ev e c) (bindO (ev e a) fun v => k v H) (bindO (ev e b) fun v => k v H) := by
  rw [stepK_op rfl]; simp only [aop]
  apply propext
  cases hc : ev e c with
  | none => simp [ifB, bindO]
  | some v => cases v <;> first | (simp [ifB, bindO]; done) | (rename_i x; cases x <;> simp [ifB, bindO_map])
theorem stepK_alloc {z} : stepK C e H (.alloc z) k = k (.ptr H.n 0) (H.push z) := by rw [stepK_op rfl]; simp [aop, bindO_some]
theorem stepK_box {x} : stepK C e H (.box x) k = bindO (ev e x) fun v => bindO (if v.isTup = true then none else some ()) fun _ => k (.ptr H.n 0) (H.push v.cells) := by
  rw [stepK_op rfl]; simp only [aop]
  cases hx : ev e x with
  | none => simp [bindO]
  | some v => simp only [bindO_some]; split <;> simp [bindO]
def asPtr : AV → Option (Nat × Nat)
  | .ptr b o => some (b, o)
  | _ => none
theorem stepK_load {x} : stepK C e H (.load x) k = bindO (ev e x) fun p => bindO (asPtr p) fun a => bindO (H.load a.1 a.2) fun v => k v H := by
  rw [stepK_op rfl]; simp only [aop]
  cases hx : ev e x with
  | none => simp [bindO]
  | some v => cases v <;> simp [asPtr, bindO_map, bindO_some] <;> simp [bindO]
theorem stepK_loadN {n x} : stepK C e H (.loadN n x) k = bindO (ev e x) fun p => bindO (asPtr p) fun a => bindO (H.loadN a.1 a.2 n) fun v => k (.agg v) H := by
  rw [stepK_op rfl]; simp only [aop]
  cases hx : ev e x with
  | none => simp [bindO]
  | some v => cases v <;> simp [asPtr, bindO_map, bindO_some] <;> simp [bindO]
theorem stepK_store {n x y} : stepK C e H (.store n x y) k = bindO (ev e x) fun p => bindO (ev e y) fun v => bindO (asPtr p) fun a => bindO (if v.cells.length = n ∧ v.isTup = false then H.store a.1 a.2 v.cells else none) fun H' => k (.tup []) H' := by
  rw [stepK_op rfl]; simp only [aop]
  cases hx : ev e x with
  | none => simp [bindO]
  | some p =>
    cases hy : ev e y with
    | none => cases p <;> simp [bindO]
    | some v =>
      cases p <;> simp only [asPtr, bindO_some] <;> first | (simp [bindO]; done) | skip
      split <;> simp [*, bindO_map, bindO_some] <;> simp [bindO]
theorem stepK_nilc {x} : stepK C e H (.nilc x) k = bindO (ev e x) fun v => bindO (match v with | .ptr .. | .fn .. => some () | _ => none) fun _ => k v H := by
  rw [stepK_op rfl]; simp only [aop]
  cases hx : ev e x with
  | none => simp [bindO]
  | some v => cases v <;> simp [bindO]
theorem stepK_bin {op x y} : stepK C e H (.bin op x y) k = bindO (ev e x) fun a => bindO (ev e y) fun b => bindO (abin op a b) fun v => k v H := by
  rw [stepK_op rfl]; simp only [aop]
  cases hx : ev e x with
  | none => simp [bindO]
  | some a =>
    cases hy : ev e y with
    | none => simp [bindO]
    | some b => simp only [bindO_some, bindO_map]
def asB : AV → Option Bool
  | .b x => some x
  | _ => none
def asI : AV → Option (IntKind × Int)
  | .i k n => some (k, n)
  | _ => none
def asAgg : AV → Option (List AV)
  | .agg l => some l
  | _ => none
def asTup : AV → Option (List AV)
  | .tup l => some l
  | _ => none
theorem stepK_eqB {ne x y} : stepK C e H (.eqB ne x y) k = bindO (ev e x) fun a => bindO (ev e y) fun b => bindO (asB a) fun a => bindO (asB b) fun b => k (.b (if ne then a != b else a == b)) H := by
  rw [stepK_op rfl]; simp only [aop]
  cases hx : ev e x with
  | none => simp [bindO]
  | some a =>
    cases hy : ev e y with
    | none => cases a <;> simp [bindO]
    | some b => cases a <;> cases b <;> simp [asB, bindO_some] <;> simp [bindO]
def nilEq (kd : Nat) (a b : AV) : Option Bool :=
  match isNil kd a, isNil kd b with
  | some true, some q => some q
  | some p, some true => some p
  | _, _ => none
theorem stepK_eqN {kd ne x y} : stepK C e H (.eqN kd ne x y) k = bindO (ev e x) fun a => bindO (ev e y) fun b => bindO (nilEq kd a b) fun r => k (.b (if ne then !r else r)) H := by
  rw [stepK_op rfl]; simp only [aop, nilEq]
  cases hx : ev e x with
  | none => simp [bindO]
  | some a =>
    cases hy : ev e y with
    | none => simp [bindO]
    | some b =>
      simp only [bindO_some]
      cases isNil kd a with
      | none => simp [bindO]
      | some p =>
        cases isNil kd b with
        | none => cases p <;> simp [bindO]
        | some q => cases p <;> cases q <;> simp [bindO]
theorem stepK_eqA {n ne x y} : stepK C e H (.eqA n ne x y) k = bindO (ev e x) fun a => bindO (ev e y) fun b => bindO (asAgg a) fun a => bindO (asAgg b) fun b => bindO (if a.length = n then eqInts a b else none) fun r => k (.b (if ne then !r else r)) H := by
  rw [stepK_op rfl]; simp only [aop]
  cases hx : ev e x with
  | none => simp [bindO]
  | some a =>
    cases hy : ev e y with
    | none => cases a <;> simp [bindO]
    | some b =>
      cases a <;> cases b <;> simp only [asAgg, bindO_some] <;> first | (simp [bindO]; done) | skip
      split <;> simp [*, bindO_map, bindO_some] <;> simp [bindO]
theorem stepK_un {op x} : stepK C e H (.un op x) k = bindO (ev e x) fun a => bindO (aun op a) fun v => k v H := by
  rw [stepK_op rfl]; simp only [aop]
  cases hx : ev e x with
  | none => simp [bindO]
  | some a => simp only [bindO_some, bindO_map]
theorem stepK_conv {kk x} : stepK C e H (.conv kk x) k = bindO (ev e x) fun a => bindO (asI a) fun r => k (.i kk (kk.wrap r.2)) H := by
  rw [stepK_op rfl]; simp only [aop]
  cases hx : ev e x with
  | none => simp [bindO]
  | some a => cases a <;> simp [asI, bindO_some] <;> simp [bindO]
def chk (c : Prop) [Decidable c] : Option Unit := if c then some () else none
theorem chk_pos {c : Prop} [Decidable c] (h : c) : chk c = some () := if_pos h
theorem stepK_mksl {z x y} : stepK C e H (.mksl z x y) k = bindO (ev e x) fun a => bindO (ev e y) fun b => bindO (asI a) fun a => bindO (asI b) fun b => bindO (chk (0 ≤ a.2 ∧ a.2 ≤ b.2 ∧ b.2 ≤ big)) fun _ =>
    k (.sl H.n 0 a.2.toNat (.ex b.2.toNat)) (H.push (List.replicate b.2.toNat z).flatten) := by
  rw [stepK_op rfl]; simp only [aop, chk]
  cases hx : ev e x with
  | none => simp [bindO]
  | some a =>
    cases hy : ev e y with
    | none => cases a <;> simp [bindO]
    | some b =>
      cases a <;> cases b <;> simp only [asI, bindO_some] <;> first | (simp [bindO]; done) | skip
      split <;> simp [*, bindO]
theorem stepK_slice {sz x lo hi mx} : stepK C e H (.slice sz x lo hi mx) k = bindO (ev e x) fun a => bindO (evo e lo) fun lo => bindO (evo e hi) fun hi => bindO (evo e mx) fun mx => bindO (aslice sz a lo hi mx) fun v => k v H := by
  rw [stepK_op rfl]; simp only [aop]
  cases hx : ev e x with
  | none => simp [bindO]
  | some a =>
    cases h1 : evo e lo with
    | none => simp [bindO]
    | some lo =>
      cases h2 : evo e hi with
      | none => simp [bindO]
      | some hi =>
        cases h3 : evo e mx with
        | none => simp [bindO]
        | some mx => simp only [bindO_some, bindO_map]
theorem stepK_fldA {off x} : stepK C e H (.fldA off x) k = bindO (ev e x) fun p => bindO (asPtr p) fun a => k (.ptr a.1 (a.2 + off)) H := by
  rw [stepK_op rfl]; simp only [aop]
  cases hx : ev e x with
  | none => simp [bindO]
  | some v => cases v <;> simp [asPtr, bindO_some] <;> simp [bindO]
theorem stepK_fld {off x} : stepK C e H (.fld off x) k = bindO (ev e x) fun a => bindO (asAgg a) fun l => bindO (l[off]?) fun v => k v H := by
  rw [stepK_op rfl]; simp only [aop]
  cases hx : ev e x with
  | none => simp [bindO]
  | some v => cases v <;> simp [asAgg, bindO_map, bindO_some] <;> simp [bindO]
theorem stepK_fldN {off n x} : stepK C e H (.fldN off n x) k = bindO (ev e x) fun a => bindO (asAgg a) fun l => bindO (seg l off n) fun v => k (.agg v) H := by
  rw [stepK_op rfl]; simp only [aop]
  cases hx : ev e x with
  | none => simp [bindO]
  | some v => cases v <;> simp [asAgg, bindO_map, bindO_some] <;> simp [bindO]
def asSl : AV → Option (Nat × Nat × Nat)
  | .sl b o n _ => some (b, o, n)
  | _ => none
theorem stepK_idxA {sz x y} : stepK C e H (.idxA sz x y) k = bindO (ev e x) fun a => bindO (ev e y) fun b => bindO (asSl a) fun s => bindO (asI b) fun i => bindO (chk (0 ≤ i.2 ∧ i.2 < s.2.2)) fun _ => k (.ptr s.1 (s.2.1 + i.2.toNat * sz)) H := by
  rw [stepK_op rfl]; simp only [aop, chk]
  cases hx : ev e x with
  | none => simp [bindO]
  | some a =>
    cases hy : ev e y with
    | none => cases a <;> simp [bindO]
    | some b =>
      cases a <;> cases b <;> simp only [asSl, asI, bindO_some] <;> first | (simp [bindO]; done) | skip
      split <;> simp [*, bindO]
theorem stepK_idxAA {sz len x y} : stepK C e H (.idxAA sz len x y) k = bindO (ev e x) fun a => bindO (ev e y) fun b => bindO (asPtr a) fun s => bindO (asI b) fun i => bindO (chk (0 ≤ i.2 ∧ i.2 < len)) fun _ => k (.ptr s.1 (s.2 + i.2.toNat * sz)) H := by
  rw [stepK_op rfl]; simp only [aop, chk]
  cases hx : ev e x with
  | none => simp [bindO]
  | some a =>
    cases hy : ev e y with
    | none => cases a <;> simp [bindO]
    | some b =>
      cases a <;> cases b <;> simp only [asPtr, asI, bindO_some] <;> first | (simp [bindO]; done) | skip
      split <;> simp [*, bindO]
theorem stepK_ext {x i} : stepK C e H (.ext x i) k = bindO (ev e x) fun a => bindO (asTup a) fun l => bindO (l[i]?) fun v => k v H := by
  rw [stepK_op rfl]; simp only [aop]
  cases hx : ev e x with
  | none => simp [bindO]
  | some v => cases v <;> simp [asTup, bindO_map, bindO_some] <;> simp [bindO]
theorem stepK_mkfn {f a b} : stepK C e H (.mkfn f a b) k = bindO (evs e a) fun a => bindO (evs e b) fun b => k (.fn f a b) H := by
  rw [stepK_op rfl]; simp only [aop]
  cases evs e a <;> cases evs e b <;> simp [bindO]
theorem stepK_build {z ps} : stepK C e H (.build z ps) k = bindO (evParts e ps) fun ps => bindO (fill z ps) fun cs => k (.agg cs) H := by
  rw [stepK_op rfl]; simp only [aop]
  cases evParts e ps with
  | none => simp [bindO]
  | some ps => simp only [bindO_some, bindO_map]
theorem stepK_bsl {z n ps} : stepK C e H (.bsl z n ps) k = bindO (evParts e ps) fun ps => bindO (fill z ps) fun cs => k (.sl H.n 0 n (.ex n)) (H.push cs) := by
  rw [stepK_op rfl]; simp only [aop]
  cases evParts e ps with
  | none => simp [bindO]
  | some ps => simp only [bindO_some, bindO_map]
theorem stepK_len {x} : stepK C e H (.len x) k = bindO (ev e x) fun a => bindO (alen a) fun n => k (.i .i64 (n : Int)) H := by
  rw [stepK_op rfl]; simp only [aop]
  cases hx : ev e x with
  | none => simp [bindO]
  | some a => simp only [bindO_some, bindO_map]
theorem stepK_appz {sz z x n} : stepK C e H (.appz sz z x n) k = bindO (ev e x) fun s => bindO (aapp H sz s n (List.replicate n z).flatten) fun r => k r.1 r.2 := by
  rw [stepK_op rfl]; simp only [aop]
  cases hx : ev e x with
  | none => simp [bindO]
  | some a => simp only [bindO_some]
theorem stepK_app {sz x y} : stepK C e H (.app sz x y) k = bindO (ev e x) fun s => bindO (ev e y) fun x => bindO (alen x) fun n => bindO (elems H sz x) fun new => bindO (aapp H sz s n new) fun r => k r.1 r.2 := by
  rw [stepK_op rfl]; simp only [aop]
  cases hx : ev e x with
  | none => simp [bindO]
  | some a =>
    cases hy : ev e y with
    | none => simp [bindO]
    | some b =>
      simp only [bindO_some]
      cases alen b <;> cases elems H sz b <;> simp [bindO]
def asI64 : AV → Option Int
  | .i .i64 n => some n
  | _ => none
theorem stepK_mx {x y} : stepK C e H (.mx x y) k = bindO (ev e x) fun a => bindO (ev e y) fun b => bindO (asI64 a) fun a => bindO (asI64 b) fun b => k (.i .i64 (if a < b then b else a)) H := by
  rw [stepK_op rfl]; simp only [aop]
  cases hx : ev e x with
  | none => simp [bindO]
  | some a =>
    cases hy : ev e y with
    | none => simp [bindO]
    | some b =>
      cases a <;> cases b <;> first | (simp [asI64, bindO]; done) | (rename_i k1 _; cases k1 <;> simp [asI64, bindO]; done) | skip
      rename_i k1 _ k2 _
      cases k1 <;> cases k2 <;> simp [asI64, bindO_some] <;> simp [bindO]
theorem stepK_mn {x y} : stepK C e H (.mn x y) k = bindO (ev e x) fun a => bindO (ev e y) fun b => bindO (asI64 a) fun a => bindO (asI64 b) fun b => k (.i .i64 (if b < a then b else a)) H := by
  rw [stepK_op rfl]; simp only [aop]
  cases hx : ev e x with
  | none => simp [bindO]
  | some a =>
    cases hy : ev e y with
    | none => simp [bindO]
    | some b =>
      cases a <;> cases b <;> first | (simp [asI64, bindO]; done) | (rename_i k1 _; cases k1 <;> simp [asI64, bindO]; done) | skip
      rename_i k1 _ k2 _
      cases k1 <;> cases k2 <;> simp [asI64, bindO_some] <;> simp [bindO]
theorem stepK_call {f as} : stepK C e H (.call f as) k = bindO (evs e as) fun as => CallK C f as H k := by
  unfold stepK; simp only [isCall, if_true, target, bindO_map]
def asFn : AV → Option (FuncId × List AV × List AV)
  | .fn f a c => some (f, a, c)
  | _ => none
theorem stepK_callv {x as} : stepK C e H (.callv x as) k = bindO (ev e x) fun v => bindO (evs e as) fun as => bindO (asFn v) fun r => CallK C r.1 (r.2.1 ++ as ++ r.2.2) H k := by
  unfold stepK; simp only [isCall, if_true, target]
  cases hx : ev e x with
  | none => simp [bindO]
  | some v =>
    cases hy : evs e as with
    | none => cases v <;> simp [bindO]
    | some as => cases v <;> simp [asFn, bindO_some] <;> simp [bindO]

theorem evs_nil : evs e [] = some [] := rfl
theorem evs_cons {x xs} : evs e (x :: xs) = (ev e x).bind fun v => (evs e xs).map (v :: ·) := by simp only [evs]; cases ev e x <;> rfl
theorem evParts_nil : evParts e [] = some [] := rfl
theorem evParts_cons {o s x xs} : evParts e ((o, s, x) :: xs) = (ev e x).bind fun v => (evParts e xs).map ((o, s, v) :: ·) := by simp only [evParts]; cases ev e x <;> rfl
theorem get_cons {s v t} : get ((s, v) :: e) t = if t = s then some v else get e t := rfl
theorem keepE_nil : keepE [] e = [] := rfl
theorem keepE_cons {x ks} : keepE (x :: ks) e = match get e x with | some v => (x, v) :: keepE ks e | none => keepE ks e := rfl
theorem seqK_norm {b : AC} {Q} : seqK C b Q .norm e H = W C b e H Q := rfl
theorem seqK_brk {b : AC} {i Q} : seqK C b Q (.brk i) e H = Q (.brk i) e H := rfl
theorem seqK_ret {b : AC} {Q} : seqK C b Q .ret e H = Q .ret e H := rfl
theorem blockK_norm {i Q} : blockK i Q .norm e H = Q .norm e H := rfl
theorem blockK_ret {i Q} : blockK i Q .ret e H = Q .ret e H := rfl
theorem blockK_brk {i j Q} : blockK i Q (.brk j) e H = if j = i then Q .norm e H else Q (.brk j) e H := rfl
theorem loopK_norm {a : AC} {Q} : loopK C a Q .norm e H = W C (.loop a) e H Q := rfl
theorem loopK_brk {a : AC} {i Q} : loopK C a Q (.brk i) e H = Q (.brk i) e H := rfl
theorem loopK_ret {a : AC} {Q} : loopK C a Q .ret e H = Q .ret e H := rfl
theorem retK_norm {rs R} : retK rs R .norm e H = bindO (ares e H rs) fun v => R v H := rfl
theorem retK_ret {rs R} : retK rs R .ret e H = bindO (ares e H rs) fun v => R v H := rfl
theorem aress_nil : aress e H [] = some [] := rfl
theorem aress_cons {r rs} : aress e H (r :: rs) = (ares1 e H r).bind fun v => (aress e H rs).map (v :: ·) := by simp only [aress]; cases ares1 e H r <;> rfl
theorem ares1_t {n} : ares1 e H (.t n) = get e n := rfl
theorem ares1_c {n sz} : ares1 e H (.c n sz) = (get e n).bind fun p => (asPtr p).bind fun a => (H.loadN a.1 a.2 sz).map .agg := by
  simp only [ares1]; cases get e n with
  | none => rfl
  | some v => cases v <;> rfl
theorem ares1_c1 {n} : ares1 e H (.c1 n) = (get e n).bind fun p => (asPtr p).bind fun a => H.load a.1 a.2 := by
  simp only [ares1]; cases get e n with
  | none => rfl
  | some v => cases v <;> rfl

theorem alen_sl {b o n c} : alen (.sl b o n c) = some n := rfl
theorem alen_esl : alen .esl = some 0 := rfl
theorem alen_nils : alen .nils = some 0 := rfl

theorem asPtr_ptr {b o} : asPtr (.ptr b o) = some (b, o) := rfl
theorem asB_b {x} : asB (.b x) = some x := rfl
theorem asI_i {x y} : asI (.i x y) = some (x, y) := rfl
theorem asAgg_agg {l} : asAgg (.agg l) = some l := rfl
theorem asTup_tup {l} : asTup (.tup l) = some l := rfl
theorem asSl_sl {b o n c} : asSl (.sl b o n c) = some (b, o, n) := rfl
theorem asFn_fn {f a c} : asFn (.fn f a c) = some (f, a, c) := rfl
theorem asI64_I {n} : asI64 (.i .i64 n) = some n := rfl
theorem abin_add {k a c} : abin .add (.i k a) (.i k c) = some (.i k (k.wrap (a + c))) := by simp [abin, isShift, ibin]
theorem abin_sub {k a c} : abin .sub (.i k a) (.i k c) = some (.i k (k.wrap (a - c))) := by simp [abin, isShift, ibin]
theorem abin_mul {k a c} : abin .mul (.i k a) (.i k c) = some (.i k (k.wrap (a * c))) := by simp [abin, isShift, ibin]
theorem abin_quo {k a c} (h : c ≠ 0) : abin .quo (.i k a) (.i k c) = some (.i k (k.wrap (a.tdiv c))) := by simp [abin, isShift, ibin, h]
theorem abin_rem {k a c} (h : c ≠ 0) : abin .rem (.i k a) (.i k c) = some (.i k (a.tmod c)) := by simp [abin, isShift, ibin, h]
theorem abin_and {k a c} : abin .and (.i k a) (.i k c) = ibits k (· &&& ·) a c := by simp [abin, isShift, ibin]
theorem abin_or {k a c} : abin .or (.i k a) (.i k c) = ibits k (· ||| ·) a c := by simp [abin, isShift, ibin]
theorem abin_xor {k a c} : abin .xor (.i k a) (.i k c) = ibits k (· ^^^ ·) a c := by simp [abin, isShift, ibin]
theorem abin_andNot {k a c} : abin .andNot (.i k a) (.i k c) = ibits k (fun a b => a &&& ~~~b) a c := by simp [abin, isShift, ibin]
theorem abin_eql {k a c} : abin .eql (.i k a) (.i k c) = some (.b (decide (a = c))) := by
  simp only [abin, isShift, ibin, if_true, Bool.false_eq_true, if_false, Option.some.injEq, AV.b.injEq]
  rw [Bool.eq_iff_iff]; simp
theorem abin_neq {k a c} : abin .neq (.i k a) (.i k c) = some (.b (decide (a ≠ c))) := by
  simp only [abin, isShift, ibin, if_true, Bool.false_eq_true, if_false, Option.some.injEq, AV.b.injEq]
  rw [Bool.eq_iff_iff]; simp
theorem abin_lss {k a c} : abin .lss (.i k a) (.i k c) = some (.b (decide (a < c))) := by simp [abin, isShift, ibin]
theorem abin_leq {k a c} : abin .leq (.i k a) (.i k c) = some (.b (decide (a ≤ c))) := by simp [abin, isShift, ibin]
theorem abin_gtr {k a c} : abin .gtr (.i k a) (.i k c) = some (.b (decide (c < a))) := by simp [abin, isShift, ibin]
theorem abin_geq {k a c} : abin .geq (.i k a) (.i k c) = some (.b (decide (c ≤ a))) := by simp [abin, isShift, ibin]
theorem abin_shl {k' a c} (h : 0 ≤ c ∧ c ≤ 63) : abin .shl (.i .i64 a) (.i k' c) = some (.i .i64 (IntKind.i64.wrap (a * 2 ^ c.toNat))) := by
  have e : min c.toNat IntKind.i64.bits = c.toNat := by simp only [IntKind.bits]; omega
  have e' : ¬ c < 0 := by omega
  simp [abin, isShift, ishift, e, e']
theorem abin_shr {k' a c} (h : 0 ≤ c ∧ c ≤ 63) : abin .shr (.i .i64 a) (.i k' c) = some (.i .i64 (a / 2 ^ c.toNat)) := by
  have e : min c.toNat IntKind.i64.bits = c.toNat := by simp only [IntKind.bits]; omega
  have e' : ¬ c < 0 := by omega
  have e2 : a.fdiv (2 ^ c.toNat) = a / 2 ^ c.toNat := Int.fdiv_eq_ediv_of_nonneg _ (Int.le_of_lt (Int.pow_pos (by omega)))
  simp [abin, isShift, ishift, e, e', e2]
theorem pow_pos2 {m : Nat} : (0 : Int) < 2 ^ m := Int.pow_pos (by omega)
theorem pow_le2 {m n : Nat} (h : m ≤ n) : (2 : Int) ^ m ≤ 2 ^ n := by
  have := Nat.pow_le_pow_right (n := 2) (by omega) h
  exact_mod_cast this
theorem aun_not {x} : aun .not (.b x) = some (.b !x) := rfl
theorem aun_neg {k n} : aun .neg (.i k n) = some (.i k (k.wrap (0 - n))) := rfl
theorem nilEq_00 : nilEq 0 .nils .nils = some true := rfl
theorem nilEq_01 {b o n c} : nilEq 0 (.sl b o n c) .nils = some false := rfl
theorem nilEq_02 : nilEq 0 .esl .nils = some false := rfl
theorem nilEq_10 : nilEq 1 .nilp .nilp = some true := rfl
theorem nilEq_11 {b o} : nilEq 1 (.ptr b o) .nilp = some false := rfl
theorem nilEq_20 : nilEq 2 .nilf .nilf = some true := rfl
theorem nilEq_21 {f a c} : nilEq 2 (.fn f a c) .nilf = some false := rfl
theorem wrap64 {n : Int} (h : -9223372036854775808 ≤ n ∧ n ≤ 9223372036854775807) : IntKind.i64.wrap n = n := by
  unfold IntKind.wrap
  simp [IntKind.bits, IntKind.signed]
  split <;> omega
theorem wrap_pow {m : Nat} (h : m ≤ 62) : IntKind.i64.wrap (2 ^ m) = 2 ^ m := by
  have h1 := @pow_le2 m 62 h
  have h2 := @pow_pos2 m
  rw [wrap64 (by omega)]
theorem cells_b {x} : AV.cells (.b x) = [(.b x)] := rfl
theorem isTup_b {x} : AV.isTup (.b x) = false := rfl
theorem cells_i {k n} : AV.cells (.i k n) = [(.i k n)] := rfl
theorem isTup_i {k n} : AV.isTup (.i k n) = false := rfl
theorem cells_str {s} : AV.cells (.str s) = [(.str s)] := rfl
theorem isTup_str {s} : AV.isTup (.str s) = false := rfl
theorem cells_ptr {b o} : AV.cells (.ptr b o) = [(.ptr b o)] := rfl
theorem isTup_ptr {b o} : AV.isTup (.ptr b o) = false := rfl
theorem cells_nilp  : AV.cells .nilp = [.nilp] := rfl
theorem isTup_nilp  : AV.isTup .nilp = false := rfl
theorem cells_sl {b o n c} : AV.cells (.sl b o n c) = [(.sl b o n c)] := rfl
theorem isTup_sl {b o n c} : AV.isTup (.sl b o n c) = false := rfl
theorem cells_esl  : AV.cells .esl = [.esl] := rfl
theorem isTup_esl  : AV.isTup .esl = false := rfl
theorem cells_nils  : AV.cells .nils = [.nils] := rfl
theorem isTup_nils  : AV.isTup .nils = false := rfl
theorem cells_fn {f a c} : AV.cells (.fn f a c) = [(.fn f a c)] := rfl
theorem isTup_fn {f a c} : AV.isTup (.fn f a c) = false := rfl
theorem cells_nilf  : AV.cells .nilf = [.nilf] := rfl
theorem isTup_nilf  : AV.isTup .nilf = false := rfl
theorem cells_agg {l} : AV.cells (.agg l) = l := rfl
theorem isTup_agg {l} : AV.isTup (.agg l) = false := rfl
theorem isTup_tup {l} : AV.isTup (.tup l) = true := rfl
theorem push_n {cs} : (H.push cs).n = H.n + 1 := rfl
theorem put_n {b o} : (H.put b o).n = H.n := rfl
theorem push_bk {cs b} : (H.push cs).bk b = if b = H.n then some ⟨cs, true⟩ else H.bk b := rfl
theorem put_bk {b o b'} : (H.put b o).bk b' = if b' = b then o else H.bk b' := rfl
theorem store_of {b o : Nat} {vs : List AV} {cs : List AV} (h : H.bk b = some ⟨cs, true⟩) (hl : o + vs.length ≤ cs.length) : H.store b o vs = some (H.put b (some ⟨splice cs o vs, true⟩)) := by
  unfold AH.store; rw [h]; simp [hl]
end

attribute [simp ↓ low] WO_gs WO_gz
attribute [simp ↓] W_skip W_keepE WO_gp W_exit W_ret W_ops W_seq W_block W_cond WO_nil WO_o1 WO_o0 opsK
  stepK_mv stepK_pick stepK_alloc stepK_box stepK_load stepK_loadN stepK_store stepK_nilc stepK_bin stepK_eqB stepK_eqN stepK_eqA stepK_un stepK_conv stepK_mksl stepK_slice stepK_fldA stepK_fld stepK_fldN
  stepK_idxA stepK_idxAA stepK_ext stepK_mkfn stepK_build stepK_bsl stepK_len stepK_app stepK_appz stepK_mx stepK_mn stepK_call stepK_callv
  seqK_norm seqK_brk seqK_ret blockK_norm blockK_ret blockK_brk loopK_norm loopK_brk loopK_ret retK_norm retK_ret
  bindO_F ifB_F ifW_F bindE_F CallK_F
attribute [simp low] ifBF_b ifWF_t ifWF_f
attribute [simp]
  bindF_some ifBF_true ifBF_false ifWF_true ifWF_false bindEF_nil bindEF_cons cnd_true cnd_false want_none want_some wantV_tup wantV_tt wantV_tf wantV_ft wantV_ff
  ev evs_nil evs_cons evo evParts_nil evParts_cons get_cons keepE_nil keepE_cons
  aress_nil aress_cons ares1_t ares1_c ares1_c1 enterE
  asPtr_ptr asB_b asI_i asAgg_agg asTup_tup asSl_sl asFn_fn asI64_I alen_sl alen_esl alen_nils abin_add abin_sub abin_mul abin_quo abin_rem abin_and abin_or abin_xor abin_andNot abin_eql abin_neq abin_lss abin_leq abin_gtr abin_geq abin_shl abin_shr aun_not aun_neg
  nilEq_00 nilEq_01 nilEq_02 nilEq_10 nilEq_11 nilEq_20 nilEq_21 big chk_pos wrap64 wrap_pow eqInts upd fill splice seg cells_b isTup_b cells_i isTup_i cells_str isTup_str cells_ptr isTup_ptr cells_nilp isTup_nilp cells_sl isTup_sl cells_esl isTup_esl cells_nils isTup_nils cells_fn isTup_fn cells_nilf isTup_nilf cells_agg isTup_agg isTup_tup Guards isCall push_n put_n push_bk put_bk elems

end Go.Proofs.YtcibjklpaljadaaGreat.AM
namespace Go.Proofs.YtcibjklpaljadaaGreat.AM
set_option linter.unusedSimpArgs false
set_option linter.unusedVariables false
open Go Go.RowKit

abbrev Bs := List (Nat × Nat × List AV)
def rho0 (n : Nat) (bs : Bs) : Rho := fun b => if b < n then some (b, 0, 0) else (bs[b - n]?).bind fun r => if r.2.2.length = 0 then none else some (r.1, r.2.1, r.2.2.length)
def heap0 (n : Nat) (bs : Bs) : AH := ⟨n + bs.length, fun b => if b < n then none else (bs[b - n]?).map fun r => ⟨r.2.2, false⟩⟩

def Lies (w : World) (bs : Bs) : Prop := ∀ r ∈ bs, ∀ (i : Nat) a, r.2.2[i]? = some a → a.flat = true ∧ ∃ v, w.cell? ⟨r.1, r.2.1 + i, none⟩ = some v ∧ VR (rho0 w.heap.size bs) a v

theorem heap0_wr {n : Nat} {bs : Bs} {b : Nat} {k : Blk} (h : (heap0 n bs).bk b = some k) : k.wr = false := by
  simp only [heap0] at h
  split at h
  · cases h
  · cases hb : bs[b - n]? with
    | none => rw [hb] at h; cases h
    | some r => rw [hb] at h; cases h; rfl

theorem cell_lt {w : World} {x : Addr} {v : Value} (h : w.cell? x = some v) : x.block < w.heap.size := by
  unfold World.cell? at h
  cases hx : w.heap[x.block]? with
  | none => rw [hx] at h; cases h
  | some o => exact (Array.getElem?_eq_some_iff.1 hx).1

theorem rho0_some {n : Nat} {bs : Bs} {b B o x : Nat} (h : rho0 n bs b = some (B, o, x)) : (b < n ∧ b = B ∧ o = 0 ∧ x = 0) ∨ (¬ b < n ∧ ∃ cs, bs[b - n]? = some (B, o, cs) ∧ cs.length = x ∧ cs.length ≠ 0) := by
  simp only [rho0] at h
  split at h
  · simp only [Option.some.injEq, Prod.mk.injEq] at h
    exact .inl ⟨‹_›, h.1, h.2.1.symm, h.2.2.symm⟩
  · refine .inr ⟨‹_›, ?_⟩
    cases hq : bs[b - n]? with
    | none => rw [hq] at h; cases h
    | some r =>
      rw [hq] at h
      simp only [Option.bind_some] at h
      split at h
      · cases h
      · simp only [Option.some.injEq, Prod.mk.injEq] at h
        obtain ⟨rfl, rfl, rfl⟩ := h
        exact ⟨_, rfl, rfl, ‹_›⟩

theorem relH0 {NG : Nat} {w : World} {bs : Bs} (hNG : NG ≤ w.heap.size) (h : Lies w bs) : RelH NG (rho0 w.heap.size bs) (heap0 w.heap.size bs) w := by
  refine ⟨fun b hb => ?_, fun g hg => ?_, fun b B o x hb => ?_, fun b B o x k hb hk => ?_, fun b B o x k hb hk hw => ?_, fun b b' B o x o' x' k k' _ _ _ hk _ => heap0_wr hk⟩
  · simp only [heap0] at hb ⊢
    rw [if_neg (by omega), List.getElem?_eq_none (by omega)]; rfl
  · exact ⟨0, by simp only [rho0]; rw [if_pos (by omega)]⟩
  · rcases rho0_some hb with ⟨h1, rfl, _, _⟩ | ⟨_, cs, h2, _, h4⟩
    · exact h1
    · cases cs with
      | nil => exact absurd rfl h4
      | cons a cs =>
        obtain ⟨_, v, hv, _⟩ := h _ (List.mem_of_getElem? h2) 0 a rfl
        exact cell_lt hv
  · simp only [heap0] at hk
    rcases rho0_some hb with ⟨h1, rfl, _, _⟩ | ⟨h1, cs, h2, h3, h4⟩
    · rw [if_pos h1] at hk; cases hk
    · rw [if_neg h1, h2] at hk
      cases hk
      exact ⟨Nat.le_of_eq h3, h _ (List.mem_of_getElem? h2)⟩
  · rw [heap0_wr hk] at hw; cases hw

theorem lift {P : Program} {NG : Nat} {C : FuncId → Option AFn} {f : FuncId} (hC : Fits P NG C) (hmix : P.follows .mixedOrders = true) {w : World} (hNG : NG ≤ w.heap.size) {bs : Bs} (h : Lies w bs)
    {args : List AV} {cargs : Array Value} (ha : VRs (rho0 w.heap.size bs) args cargs.toList) (K : CallK C f args (heap0 w.heap.size bs) fun v _ => v = .b true) :
    Calls P f cargs w fun e w' => e = .returned (.bool true) ∧ Below w.heap.size w w' := by
  obtain ⟨v, H', hg, rfl⟩ := K
  have s := sound hC hmix hg (rho0 w.heap.size bs) cargs w ha (relH0 hNG h) (fun b hb _ => by
    simp only [heap0] at hb
    simp only [rho0]
    rw [if_neg (by omega), List.getElem?_eq_none (by omega)]; rfl)
  refine s.mono ?_
  rintro e w' ⟨ρ', cv, rfl, hadv, _, hv⟩
  cases hv
  exact ⟨rfl, hadv.fr.os, hadv.fr.tape, hadv.fr.output, hadv.fr.size, fun k hk => hadv.fr.heap k hk fun b o x kk _ hb => heap0_wr hb⟩

def IsRow (k : IntKind) (w : World) (a : Option Addr) (len cap : Nat) (zs : List Int) : Prop :=
  (a = none ∧ len = 0 ∧ cap = 0 ∧ zs = []) ∨
  ∃ x, a = some x ∧ len ≤ cap ∧ cap ≤ maxLen ∧ zs.length = cap ∧ (∀ i, i < zs.length → w.cell? (x.add i) = some (.int k (zs.getD i 0))) ∧ ∀ n ∈ zs, (Lit.int k n).wf = true

def rowV (b : Nat) (a : Option Addr) (len cap : Nat) : AV := if a = none then .nils else if cap = 0 then .esl else .sl b 0 len .ro
def rowB (k : IntKind) (a : Option Addr) (zs : List Int) : Nat × Nat × List AV := ((a.map (·.block)).getD 0, (a.map (·.off)).getD 0, zs.map (.i k))

theorem row_spot {k w a len cap zs} (h : IsRow k w a len cap zs) (hc : cap ≠ 0) : ∃ x, a = some x ∧ x.spot = none ∧ len ≤ cap ∧ zs.length = cap ∧ (∀ i, i < zs.length → w.cell? ⟨x.block, x.off + i, none⟩ = some (.int k (zs.getD i 0))) := by
  rcases h with ⟨_, _, h, _⟩ | ⟨x, rfl, h1, _, h3, h4, _⟩
  · exact absurd h hc
  have hs : x.spot = none := by
    have := h4 0 (by omega)
    unfold Addr.add at this
    rw [if_pos rfl] at this
    unfold World.cell? at this
    cases hx : x.spot with
    | none => rfl
    | some q =>
      rw [hx] at this
      split at this
      · simp at this
      · cases this
  refine ⟨x, rfl, hs, h1, h3, fun i hi => ?_⟩
  have := h4 i hi
  unfold Addr.add at this
  split at this
  · subst i
    cases x; cases hs; exact this
  · exact this

theorem row_wf {k w a len cap zs} (h : IsRow k w a len cap zs) : ∀ n ∈ zs, (Lit.int k n).wf = true := by
  rcases h with ⟨_, _, _, rfl⟩ | ⟨x, rfl, h1, _, h3, h4, h5⟩
  · intro n hn; cases hn
  · exact h5

theorem row_lies {k w a len cap zs} {bs : Bs} (h : IsRow k w a len cap zs) : ∀ (i : Nat) x, (rowB k a zs).2.2[i]? = some x → x.flat = true ∧ ∃ v, w.cell? ⟨(rowB k a zs).1, (rowB k a zs).2.1 + i, none⟩ = some v ∧ VR (rho0 w.heap.size bs) x v := by
  intro i x hx
  simp only [rowB, List.getElem?_map, Option.map_eq_some_iff] at hx
  obtain ⟨n, hn, rfl⟩ := hx
  have hi := (List.getElem?_eq_some_iff.1 hn).1
  have hc : cap ≠ 0 := by
    rcases h with ⟨_, _, rfl, rfl⟩ | ⟨x, rfl, h1, _, h3, h4, _⟩
    · simp at hi
    · omega
  obtain ⟨x, rfl, hs, h1, h3, h4⟩ := row_spot h hc
  refine ⟨rfl, _, h4 i hi, ?_⟩
  have : zs.getD i 0 = n := by simp [List.getD, hn]
  rw [this]
  exact .i _ _

theorem row_v {k w a len cap zs} {bs : Bs} (h : IsRow k w a len cap zs) {j : Nat} (hj : bs[j]? = some (rowB k a zs)) : VR (rho0 w.heap.size bs) (rowV (w.heap.size + j) a len cap) (.slice a len cap) := by
  unfold rowV
  by_cases hc : cap = 0
  · rcases h with ⟨rfl, rfl, rfl, rfl⟩ | ⟨x, rfl, h1, _, h3, h4, _⟩
    · simp only [if_true]; exact .nils
    · subst hc
      have : len = 0 := by omega
      subst this
      simp only [reduceCtorEq, if_false, if_true]
      exact .esl x 0
  · obtain ⟨x, rfl, hs, h1, h3, h4⟩ := row_spot h hc
    simp only [reduceCtorEq, if_false, hc]
    have := @VR.slR (rho0 w.heap.size bs) (w.heap.size + j) 0 x.block x.off zs.length len cap (by
      simp only [rho0]
      rw [if_neg (by omega), Nat.add_sub_cancel_left, hj]
      simp only [rowB, Option.bind_some, List.length_map, Option.map_some, Option.getD_some]
      rw [if_neg (by omega)]) h1
    have e : x = ⟨x.block, x.off + 0, none⟩ := by cases x; cases hs; rfl
    rw [← e] at this
    exact this

def SlI (H : AH) (k : IntKind) (v : AV) (zs : List Int) : Prop :=
  (v = .nils ∧ zs = []) ∨ (v = .esl ∧ zs = []) ∨ ∃ b rest, b < H.n ∧ v = .sl b 0 zs.length .ro ∧ H.bk b = some ⟨(zs ++ rest).map (.i k), false⟩

theorem row_sees {k w a len cap zs} {bs : Bs} (h : IsRow k w a len cap zs) {j : Nat} (hj : bs[j]? = some (rowB k a zs)) :
    SlI (heap0 w.heap.size bs) k (rowV (w.heap.size + j) a len cap) (zs.take len) := by
  unfold rowV
  by_cases hc : cap = 0
  · rcases h with ⟨rfl, rfl, rfl, rfl⟩ | ⟨x, rfl, h1, _, h3, h4, _⟩
    · simp only [if_true]; exact .inl ⟨rfl, rfl⟩
    · subst hc
      have : len = 0 := by omega
      subst this
      simp only [reduceCtorEq, if_false, if_true]
      exact .inr (.inl ⟨rfl, rfl⟩)
  · obtain ⟨x, rfl, hs, h1, h3, h4⟩ := row_spot h hc
    simp only [reduceCtorEq, if_false, hc]
    refine .inr (.inr ⟨w.heap.size + j, zs.drop len, ?_, ?_, ?_⟩)
    · have := (List.getElem?_eq_some_iff.1 hj).1
      simp only [heap0]; omega
    · rw [List.length_take, Nat.min_eq_left (by omega)]
    · simp only [heap0]
      rw [if_neg (by omega), Nat.add_sub_cancel_left, hj, List.take_append_drop]
      rfl

end Go.Proofs.YtcibjklpaljadaaGreat.AM
namespace Go.Proofs.YtcibjklpaljadaaGreat.AM
set_option linter.unusedSimpArgs false
set_option linter.unusedVariables false
open Go

theorem CallK_eq {C : FuncId → Option AFn} {f fn args H} {K : AV → AH → Prop} (hf : C f = some fn) (hn : args.length = fn.np) : CallK C f args H K = W C fn.body (enterE 0 args) H (retK fn.res K) := by
  apply propext; constructor
  · rintro ⟨v, H', h, k⟩
    cases h with
    | enter hf' hn' h1 ho hr =>
      rw [hf] at hf'; cases hf'
      refine ⟨_, _, _, h1, ?_⟩
      rcases ho with rfl | rfl
      · exact ⟨_, hr, k⟩
      · exact ⟨_, hr, k⟩
  · exact CallK_enter hf hn

theorem CallF_eq {C : FuncId → Option AFn} {f np body res args H} {K : AV → AH → Prop} {w} (hf : C f = some ⟨np, body, res⟩) (hn : args.length = np) : CallF C f args H K w = bindE (enterE 0 args) fun e => W C body e H (retK res K) := CallK_eq hf hn
theorem W_loop_as {C : FuncId → Option AFn} {a b : AC} {e H Q} (h : a = b) : W C (.loop a) e H Q = W C b e H (loopK C a Q) := by rw [W_loop, h]
theorem Kb_fin {K : AV → AH → Prop} {x y : Bool} {H : AH} (h : x = true ↔ y = true) : K (.b x) H ↔ K (.b y) H := by
  rw [Bool.eq_iff_iff.2 h]
theorem Kb_false {K : AV → AH → Prop} {y : Bool} {H : AH} (h : y = false) : K (.b false) H ↔ K (.b y) H := by rw [h]
theorem Ki_fin {K : AV → AH → Prop} {k : IntKind} {x y : Int} {H : AH} (h : x = y) : K (.i k x) H ↔ K (.i k y) H := by rw [h]

theorem Ext_self {H : AH} : Ext H H = True := eq_true (Ext.refl H)
attribute [simp] Ext_self
theorem getE0 {x0 : AV} {l : List AV} : (x0 :: l)[0]? = some x0 := rfl
theorem getE1 {x0 x1 : AV} {l : List AV} : (x0 :: x1 :: l)[1]? = some x1 := rfl
theorem getE2 {x0 x1 x2 : AV} {l : List AV} : (x0 :: x1 :: x2 :: l)[2]? = some x2 := rfl
theorem getE3 {x0 x1 x2 x3 : AV} {l : List AV} : (x0 :: x1 :: x2 :: x3 :: l)[3]? = some x3 := rfl
theorem getE4 {x0 x1 x2 x3 x4 : AV} {l : List AV} : (x0 :: x1 :: x2 :: x3 :: x4 :: l)[4]? = some x4 := rfl
theorem getE5 {x0 x1 x2 x3 x4 x5 : AV} {l : List AV} : (x0 :: x1 :: x2 :: x3 :: x4 :: x5 :: l)[5]? = some x5 := rfl
theorem getE6 {x0 x1 x2 x3 x4 x5 x6 : AV} {l : List AV} : (x0 :: x1 :: x2 :: x3 :: x4 :: x5 :: x6 :: l)[6]? = some x6 := rfl
theorem getE7 {x0 x1 x2 x3 x4 x5 x6 x7 : AV} {l : List AV} : (x0 :: x1 :: x2 :: x3 :: x4 :: x5 :: x6 :: x7 :: l)[7]? = some x7 := rfl
theorem getE8 {x0 x1 x2 x3 x4 x5 x6 x7 x8 : AV} {l : List AV} : (x0 :: x1 :: x2 :: x3 :: x4 :: x5 :: x6 :: x7 :: x8 :: l)[8]? = some x8 := rfl
theorem getE9 {x0 x1 x2 x3 x4 x5 x6 x7 x8 x9 : AV} {l : List AV} : (x0 :: x1 :: x2 :: x3 :: x4 :: x5 :: x6 :: x7 :: x8 :: x9 :: l)[9]? = some x9 := rfl
theorem getE10 {x0 x1 x2 x3 x4 x5 x6 x7 x8 x9 x10 : AV} {l : List AV} : (x0 :: x1 :: x2 :: x3 :: x4 :: x5 :: x6 :: x7 :: x8 :: x9 :: x10 :: l)[10]? = some x10 := rfl
theorem getE11 {x0 x1 x2 x3 x4 x5 x6 x7 x8 x9 x10 x11 : AV} {l : List AV} : (x0 :: x1 :: x2 :: x3 :: x4 :: x5 :: x6 :: x7 :: x8 :: x9 :: x10 :: x11 :: l)[11]? = some x11 := rfl
theorem getE12 {x0 x1 x2 x3 x4 x5 x6 x7 x8 x9 x10 x11 x12 : AV} {l : List AV} : (x0 :: x1 :: x2 :: x3 :: x4 :: x5 :: x6 :: x7 :: x8 :: x9 :: x10 :: x11 :: x12 :: l)[12]? = some x12 := rfl
theorem getE13 {x0 x1 x2 x3 x4 x5 x6 x7 x8 x9 x10 x11 x12 x13 : AV} {l : List AV} : (x0 :: x1 :: x2 :: x3 :: x4 :: x5 :: x6 :: x7 :: x8 :: x9 :: x10 :: x11 :: x12 :: x13 :: l)[13]? = some x13 := rfl
attribute [simp high] getE0 getE1 getE2 getE3 getE4 getE5 getE6 getE7 getE8 getE9 getE10 getE11 getE12 getE13
theorem chk_true {i : Decidable True} : @chk True i = some () := by unfold chk; simp
theorem ares_one {e : Env} {H : AH} {n : Nat} : ares e H [.t n] = get e n := by
  simp only [ares, aress, ares1]; cases get e n <;> rfl
theorem ares_of {e : Env} {H : AH} {r : ARes} : ares e H [r] = ares1 e H r := by
  simp only [ares, aress]; cases ares1 e H r <;> rfl
theorem ares_c {e : Env} {H : AH} {n sz : Nat} : ares e H [.c n sz] = (get e n).bind fun p => (asPtr p).bind fun a => (H.loadN a.1 a.2 sz).map AV.agg := by
  rw [ares_of, ares1_c]
theorem ares_c1 {e : Env} {H : AH} {n : Nat} : ares e H [.c1 n] = (get e n).bind fun p => (asPtr p).bind fun a => H.load a.1 a.2 := by
  rw [ares_of, ares1_c1]
theorem ares_nil {e : Env} {H : AH} : ares e H [] = some (.tup []) := rfl
theorem ares_two {e : Env} {H : AH} {a b rs} : ares e H (a :: b :: rs) = (aress e H (a :: b :: rs)).map .tup := by
  unfold ares
  simp only [aress]
  cases ares1 e H a <;> cases ares1 e H b <;> cases aress e H rs <;> rfl
attribute [simp] ares_c ares_c1 ares_nil ares_two
attribute [simp] chk_true
attribute [simp] ares_one
end Go.Proofs.YtcibjklpaljadaaGreat.AM
