/-
  Soundness of the abstract machine: what it says of a call is what the loaded program does. No condition.
-/
import Derived.Test.YtdgmihohmkdpjaaDoorAMk
namespace Go.Proofs.YtdgmihohmkdpjaaDoor.AM
set_option linter.unusedSimpArgs false
set_option linter.unusedVariables false
open Go Go.RowKit

section
variable {P : Program} {NG : Nat}

theorem fitL_get {N : Nat} {ops : Array Oper} : ∀ {os : List Oper} {l : List AO}, fitL P NG N ops os l = true → os.length = l.length ∧ ∀ (i : Nat) (op : Oper) (o : AO), os[i]? = some op → l[i]? = some o → fitD N op.dst o.d = true ∧ fitG ops op.guard o.c = true ∧ fitOp P NG op.op o.op = true
  | [], [], _ => ⟨rfl, fun i op o h => by simp at h⟩
  | op :: os, o :: l, h => by
    simp only [fitL, Bool.and_eq_true] at h
    obtain ⟨⟨⟨h1, h2⟩, h3⟩, h4⟩ := h
    obtain ⟨e, ih⟩ := fitL_get h4
    refine ⟨by simp [e], fun i op' o' ho hl => ?_⟩
    cases i with
    | zero => simp at ho hl; subst ho; subst hl; exact ⟨h1, h2, h3⟩
    | succ i => exact ih i op' o' (by simpa using ho) (by simpa using hl)
  | [], _ :: _, h => by simp [fitL] at h
  | _ :: _, [], h => by simp [fitL] at h

theorem mem_dirs {o : Oper} {k : Nat} : k ∈ dirs o ↔ ∃ e ∈ o.after, Region.binds .any e = true ∧ e.on = k := by
  unfold dirs
  rw [List.mem_filterMap]
  constructor
  · rintro ⟨e, he, h⟩
    split at h
    · rename_i hb; exact ⟨e, by simpa using he, hb, by simpa using h⟩
    · cases h
  · rintro ⟨e, he, hb, rfl⟩
    exact ⟨e, by simpa using he, by rw [if_pos hb]⟩

theorem draw_sound {N : Nat} {ops : Array Oper} {l : List AO} {E : Nat → Env} {HH : Nat → AH} {vs : Nat → AV} (hs : Seq P NG l E HH vs) (hfl : fitL P NG N ops ops.toList l = true) (hok : drawOk ops l = true)
    {ρ0 : Rho} {a0 : Act} {w0 : World} (he0 : RelE ρ0 (E 0) a0.tmps) (hrel0 : RelH NG ρ0 (HH 0) w0) (hfr0 : Fresh ρ0 (HH 0).n (HH l.length).n) (hN : a0.tmps.size = N)
    {Q : Exit → Act → World → Prop} (hQ : ∀ a' w', Post NG ρ0 (HH 0) a0 w0 (E l.length) (HH l.length) a' w' → Q .normal a' w') :
    ∀ (fuel : Nat) (listed : Array Bool) (ρ : Rho) (a : Act) (w : World), listed.size = ops.size → (∃ s : List Nat, s.length ≤ fuel ∧ ∀ j, j < ops.size → listed.getD j false = false → j ∈ s) →
      (∀ j o, listed.getD j false = true → ops[j]? = some o → ∀ k ∈ dirs o, listed.getD k false = true) →
      Inv NG l HH vs (E 0) ρ0 w0 (fun j => listed.getD j false) ρ a.tmps w → a.defers = a0.defers → a.tmps.size = N → wpAny P .any ops Q fuel listed a w := by
  have h0 := hrel0.wf
  obtain ⟨hlen, hget⟩ := fitL_get hfl
  have hlen' : ops.size = l.length := by simpa using hlen
  simp only [drawOk, Bool.and_eq_true] at hok
  obtain ⟨hdok, hpok⟩ := hok
  have uniq : ∀ (s t : Nat) (a b : AO) (n : Nat), l[s]? = some a → l[t]? = some b → a.d = some n → b.d = some n → s = t := by
    intro s t a b n ha hb hda hdb
    rcases Nat.lt_trichotomy s t with h | h | h
    · exact absurd hdb ((pairsOk_spec hpok h ha hb).2 n hda)
    · exact h
    · exact absurd hda ((pairsOk_spec hpok h hb ha).2 n hdb)
  have outOf : ∀ (listed : Array Bool) j, listed.size = ops.size → listed.getD j false = true → j < ops.size := by
    intro listed j hsz hj
    rcases Nat.lt_or_ge j listed.size with h | h
    · omega
    · simp [Array.getD, Nat.not_lt.2 h] at hj
  -- all are listed once nothing is ready
  have full : ∀ (listed : Array Bool), listed.size = ops.size → Region.ready .any ops listed = [] → ∀ j, j < ops.size → listed.getD j false = true := by
    intro listed hsz hr j
    induction j using Nat.strongRecOn with
    | _ j ih =>
      intro hj
      cases hq : listed.getD j false with
      | true => rfl
      | false =>
        exfalso
        have ho : ops[j]? = some ops[j] := Array.getElem?_eq_getElem hj
        have hmem : j ∈ Region.ready .any ops listed := by
          rw [mem_ready]
          refine ⟨?_, _, ho, fun e he hb => ?_⟩
          · have : j < listed.size := by omega
            simp [Array.getD, this] at hq ⊢; exact hq
          · have hk : e.on ∈ dirs ops[j] := mem_dirs.2 ⟨e, he, hb, rfl⟩
            have h1 := List.all_eq_true.1 hdok j (List.mem_range.2 (by simpa using hj))
            have e1 : ops.toList[j]? = some ops[j] := by rw [Array.getElem?_toList]; exact ho
            simp only [e1] at h1
            have hlt : e.on < j := by simpa using List.all_eq_true.1 h1 _ hk
            exact ih e.on hlt (by omega)
        rw [hr] at hmem; cases hmem
  have fin : ∀ (listed : Array Bool) ρ (a : Act) w, listed.size = ops.size → (∀ j, j < ops.size → listed.getD j false = true) → Inv NG l HH vs (E 0) ρ0 w0 (fun j => listed.getD j false) ρ a.tmps w → a.defers = a0.defers → a.tmps.size = N → Q .normal a w := by
    intro listed ρ a w hsz hall hinv hd hsn
    have hp : pOf l (fun j => listed.getD j false) = l.length := by
      obtain ⟨p1, p2, _⟩ := pOf_spec l (fun j => listed.getD j false)
      rcases Nat.lt_or_ge (pOf l (fun j => listed.getD j false)) l.length with h | h
      · have := (p2 h).2
        rw [hall _ (by omega)] at this; cases this
      · omega
    have hheap : heapD l HH (fun j => listed.getD j false) = HH l.length := by
      have : (heapD l HH (fun j => listed.getD j false)).bk = (HH l.length).bk := by
        funext b
        show (HH (max (pOf l _) (btOf HH l.length b))).bk b = _
        rw [hp, Nat.max_eq_left (btOf_spec HH l.length b).1]
      show AH.mk (HH l.length).n (heapD l HH _).bk = _
      rw [this]
    refine hQ a w ⟨ρ, by rw [← hheap]; exact hinv.adv, ?_, by rw [← hheap]; exact hinv.rel, hd, by rw [hsn, hN]⟩
    intro t v hv
    refine hinv.env t v ?_
    by_cases hex : ∃ (j : Nat) (o : AO), l[j]? = some o ∧ o.d = some t
    · obtain ⟨j, o, ho, hdt⟩ := hex
      have hj : j < l.length := (List.getElem?_eq_some_iff.1 ho).1
      have hu : ∀ (j' : Nat) (o' : AO), l[j']? = some o' → o'.d = some t → j' = j := fun j' o' h1 h2 => uniq j' j o' o t h1 ho h2 hdt
      rw [hs.get_some ho hdt hu l.length (Nat.le_refl _) hj] at hv
      have := get_envOf_some (E 0) vs (fun j => listed.getD j false) t l 0 j o ho hdt (by simpa using hall j (by omega)) hu
      rw [this, ← hv]; simp
    · rw [hs.get_none l.length (Nat.le_refl _) (fun j o _ h1 h2 => hex ⟨j, o, h1, h2⟩)] at hv
      rw [get_envOf_none (E 0) vs _ t l 0 (fun j o h1 h2 => absurd ⟨j, o, h1, h2⟩ hex)]; exact hv
  intro fuel
  induction fuel with
  | zero =>
    intro listed ρ a w hsz ⟨s, hs0, hsm⟩ hcl hinv hd hsn
    have hnil : s = [] := List.eq_nil_of_length_eq_zero (by omega)
    subst hnil
    have hall : ∀ j, j < ops.size → listed.getD j false = true := by
      intro j hj
      cases hq : listed.getD j false with
      | true => rfl
      | false => exact absurd (hsm j hj hq) (by simp)
    refine ⟨?_, fin listed ρ a w hsz hall hinv hd hsn⟩
    cases hr : Region.ready .any ops listed with
    | nil => rfl
    | cons i rs =>
      have hmem : i ∈ Region.ready .any ops listed := by rw [hr]; simp
      rw [mem_ready] at hmem
      obtain ⟨h1, o, ho, _⟩ := hmem
      have hi : i < ops.size := (Array.getElem?_eq_some_iff.1 ho).1
      have := hall i hi
      have h2 : i < listed.size := by omega
      simp [Array.getD, h2] at this h1
      rw [this] at h1; cases h1
  | succ fuel ih =>
    intro listed ρ a w hsz ⟨s, hs0, hsm⟩ hcl hinv hd hsn
    refine ⟨fun hr => fin listed ρ a w hsz (full listed hsz hr) hinv hd hsn, fun i hi => ?_⟩
    rw [mem_ready] at hi
    obtain ⟨hnd, op, hop, hall⟩ := hi
    have hilt : i < ops.size := (Array.getElem?_eq_some_iff.1 hop).1
    have hilt2 : i < listed.size := by omega
    have hnd' : listed.getD i false = false := by simp [Array.getD, hilt2] at hnd ⊢; exact hnd
    have hill : i < l.length := by omega
    obtain ⟨o, ho⟩ : ∃ o, l[i]? = some o := ⟨l[i], List.getElem?_eq_getElem hill⟩
    obtain ⟨fd, fg, fo⟩ := hget i op o (by rw [Array.getElem?_toList]; exact hop) ho
    have hdirs : ∀ k ∈ dirs op, listed.getD k false = true := by
      intro k hk
      obtain ⟨e, he, hb, rfl⟩ := mem_dirs.1 hk
      exact hall e he hb
    have clos := closed (D := fun j => listed.getD j false) hdok hcl (fun j hj => outOf listed j hsz hj)
    have hready : Ready l (fun j => listed.getD j false) i := by
      refine ⟨hill, hnd', ?_, ?_, uniq⟩
      · intro t x y ht hD hx hy
        rcases (pairsOk_spec hpok ht hx hy).1 with h | h
        · have := clos i op hop hdirs t h
          rw [hD] at this; cases this
        · exact h
      · intro s' t x y hst hDs hDt hx hy
        rcases (pairsOk_spec hpok hst hx hy).1 with h | h
        · have htl := outOf listed t hsz hDt
          have ho' : ops[t]? = some ops[t] := Array.getElem?_eq_getElem htl
          have := clos t _ ho' (hcl t _ hDt ho') s' h
          rw [hDs] at this; cases this
        · exact h
    -- what is listed behind it
    have hwith : (fun j => (listed.setIfInBounds i true).getD j false) = with_ (fun j => listed.getD j false) i := by
      funext j
      by_cases h : j = i
      · subst h; rw [with_same]; simp [Array.getD, hilt2]
      · rw [with_ne _ h]; exact getD_set_ne false (fun e => h e.symm)
    have next : ∀ (ρ' : Rho) (a' : Act) (w' : World), Inv NG l HH vs (E 0) ρ0 w0 (with_ (fun j => listed.getD j false) i) ρ' a'.tmps w' → a'.defers = a0.defers → a'.tmps.size = N → wpAny P .any ops Q fuel (listed.setIfInBounds i true) a' w' := by
      intro ρ' a' w' hinv' hd' hsn'
      refine ih _ ρ' a' w' (by simpa using hsz) ⟨s.erase i, ?_, ?_⟩ ?_ (by rw [hwith]; exact hinv') hd' hsn'
      · have hmem := hsm i hilt hnd'
        rw [List.length_erase_of_mem hmem]; omega
      · intro j hj hq
        have hji : j ≠ i := by
          intro e; subst e
          simp [Array.getD, hilt2] at hq
        rw [getD_set_ne false (fun e => hji e.symm)] at hq
        exact (List.mem_erase_of_ne hji).2 (hsm j hj hq)
      · intro j o' hj ho' k hk
        have hkk : listed.getD k false = true := by
          by_cases h : j = i
          · subst h; rw [hop] at ho'; cases ho'; exact hdirs k hk
          · rw [getD_set_ne false (fun e => h e.symm)] at hj
            exact hcl j o' hj ho' k hk
        by_cases h : k = i
        · subst h; rw [hkk] at hnd'; cases hnd'
        · rw [getD_set_ne false (fun e => h e.symm)]; exact hkk
    have hdt : ∀ t, o.d = some t → t < a.tmps.size := fun t ht => by rw [hsn]; exact (fitD_lt fd).2 ht
    have hdst : op.dst = o.d := (fitD_lt (t := 0) fd).1
    have hwant := hready.want hs ho
    unfold wpOp
    rw [hop]
    rcases hs.step i o ho with ⟨hw, hv, hh⟩ | ⟨hw, hsim, hmon, hgd, hq, haop⟩
    · -- it is passed over
      simp only [wanted_of hinv.env fg (hwant.trans hw), Bool.false_eq_true, if_false]
      have hpf := put_facts a op.dst undef
      refine next ρ _ w ?_ (hpf.1.trans hd) (hpf.2.trans hsn)
      have hrun : ∀ H1 H1', Step1 NG l HH (fun j => listed.getD j false) i ρ w H1 H1' → H1' = H1 → Inv NG l HH vs (E 0) ρ0 w0 (with_ (fun j => listed.getD j false) i) ρ (a.put op.dst undef).tmps w := by
        intro H1 H1' h1 e
        subst e
        exact h1.go hs h0 hready ho rfl hinv hrel0 hfr0 (Adv.refl _ _ _) h1.rel (by rw [hv]; exact .tup rfl (fun i x v h => by simp at h)) hdst hdt
      cases hT : isT o with
      | true =>
        have h1 := step1_t hs h0 hready ho hT hinv.rel
        exact hrun _ _ h1 hh
      | false =>
        have h1 := step1_p hs h0 hready ho hT hinv.rel ⟨(HH i).n, fun b => if b < (HH i).n then (heapD l HH (fun j => listed.getD j false)).bk b else none⟩ (by rw [hh]) (fun b hb => by simp only; rw [if_pos hb]) (fun b h1 h2 => by rw [hh] at h2; omega)
        exact hrun _ _ h1 rfl
    · simp only [wanted_of hinv.env fg (hwant.trans hw), if_true]
      left
      have hev := hready.ev hs ho
      -- from a step of a part to the rest
      have go : ∀ (H1 H1' : AH), Step1 NG l HH (fun j => listed.getD j false) i ρ w H1 H1' → StepSim P NG o (E i) H1 (vs i) H1' → op.wp P a w (wpAny P .any ops Q fuel (listed.setIfInBounds i true)) Q := by
        intro H1 H1' h1 hsim'
        have hfr1 : Fresh ρ H1.n H1'.n := by
          rw [h1.n, h1.n']
          intro b hb1 hb2
          cases hqr : ρ b with
          | none => rfl
          | some r =>
            rcases hinv.dom b r hqr with h | ⟨j, hj, hjl, hj1, hj2⟩
            · have := hfr0 b (Nat.le_trans (hs.mon (Nat.zero_le _) (Nat.le_of_lt hready.lt)).n hb1) (Nat.lt_of_lt_of_le hb2 (hs.mon hready.lt (Nat.le_refl _)).n)
              rw [this] at h; cases h
            · have hne : j ≠ i := fun e => by subst e; rw [hnd'] at hj; cases hj
              rcases Nat.lt_or_ge j i with q | q
              · have := (hs.mon (show j + 1 ≤ i from q) (Nat.le_of_lt hready.lt)).n; omega
              · have := (hs.mon (show i + 1 ≤ j by omega) (Nat.le_of_lt hjl)).n; omega
        refine hsim' op fo _ ρ a w hev hinv.env h1.rel hfr1 _ _ ?_
        intro ρ' cv w' hadv hrel' hvr
        have hpf := put_facts a op.dst cv
        exact next ρ' _ w' (h1.go hs h0 hready ho rfl hinv hrel0 hfr0 hadv hrel' hvr hdst hdt) (hpf.1.trans hd) (hpf.2.trans hsn)
      cases hT : isT o with
      | true => exact go _ _ (step1_t hs h0 hready ho hT hinv.rel) hsim
      | false =>
        by_cases hcq : clsOf o = .q
        · exact go _ _ (step1_q hs h0 hready ho hcq hinv.rel) hsim
        cases hcall : isCall o.op with
        | true =>
          exfalso
          cases hqq : o.q with
          | true =>
            apply hcq
            unfold clsOf
            cases hop2 : o.op <;> simp [hop2, isCall] at hcall <;> simp [hqq]
          | false =>
            unfold isT clsOf at hT
            cases hop2 : o.op <;> simp [hop2, isCall, hqq] at hT hcall
        | false =>
          have hao := haop hcall
          have hloc := aop_local hcall hao
          have hcls : clsOf ⟨none, none, [], false, o.op⟩ = clsOf o := by
            cases hqq : o.q with
            | true =>
              unfold clsOf at hcq ⊢
              cases hop2 : o.op <;> rw [hop2] at hcall hcq <;> first | (cases hcall; done) | rfl | (exfalso; apply hcq; simp [hqq]; done)
            | false =>
              unfold clsOf
              cases hop2 : o.op <;> rw [hop2] at hcall <;> first | (cases hcall; done) | rfl | (simp [hqq]; done)
          rw [hcls] at hloc
          have hold : ∀ b, b < (HH i).n → (⟨(HH i).n, fun b => if b < (HH i).n then (heapD l HH (fun j => listed.getD j false)).bk b else none⟩ : AH).bk b = (heapD l HH (fun j => listed.getD j false)).bk b := fun b hb => by simp only; rw [if_pos hb]
          cases hc : clsOf o with
          | p =>
            rw [hc] at hloc
            obtain ⟨hh, hall'⟩ := hloc
            exact go _ _ (step1_p hs h0 hready ho hT hinv.rel _ (by rw [hh]) hold (fun b h1 h2 => by rw [hh] at h2; omega)) (stepSim_op hcall (hall' _))
          | l x =>
            rw [hc] at hloc
            obtain ⟨hh, b, ob, hx, hsome, hall'⟩ := hloc
            have hb : b < (HH i).n := by
              rcases Nat.lt_or_ge b (HH i).n with q | q
              · exact q
              · rw [(hs.mon (Nat.zero_le _) (Nat.le_of_lt hill)).wf h0 b q] at hsome; cases hsome
            have hxs : x ∈ xsOf o.op := by
              unfold clsOf at hc
              cases hop2 : o.op <;> rw [hop2] at hc <;> simp at hc
              · rw [hc]; simp [xsOf]
              · rw [hc]; simp [xsOf]
              all_goals (split at hc <;> cases hc)
            have hld := hready.load hs ho hc hxs hx hb
            exact go _ _ (step1_p hs h0 hready ho hT hinv.rel _ (by rw [hh]) hold (fun b h1 h2 => by rw [hh] at h2; omega)) (stepSim_op hcall (hall' _ (by simp only; rw [if_pos hb, hld])))
          | a =>
            rw [hc] at hloc
            obtain ⟨cs, hh, ⟨oo, hvv⟩, hall'⟩ := hloc
            have hn1 : (HH (i + 1)).n = (HH i).n + 1 := by rw [hh]; rfl
            refine go _ _ (step1_p hs h0 hready ho hT hinv.rel (AH.push ⟨(HH i).n, fun b => if b < (HH i).n then (heapD l HH (fun j => listed.getD j false)).bk b else none⟩ cs) (by rw [hn1]; rfl) ?_ ?_) (stepSim_op hcall (hall' _ rfl))
            · intro b hb
              show (if b = (HH i).n then some (⟨cs, true⟩ : Blk) else _) = _
              rw [if_neg (by omega)]; exact hold b hb
            · intro b h1 h2
              have hb : b = (HH i).n := by omega
              subst hb
              show _ = (if (HH i).n = (HH i).n then some (⟨cs, true⟩ : Blk) else _)
              rw [if_pos rfl]
              have hnew : (HH (i + 1)).bk (HH i).n = some ⟨cs, true⟩ := by rw [hh]; simp [AH.push]
              show (HH (max (pOf l _) (btOf HH l.length (HH i).n))).bk (HH i).n = _
              rw [bt_new hs hill (Nat.le_refl _) h2]
              rcases Nat.lt_or_ge (i + 1) (pOf l (fun j => listed.getD j false)) with hp | hp
              · rw [Nat.max_eq_left (Nat.le_of_lt hp), ← hnew]
                refine stays (Nat.le_of_lt hp) fun t k1 k2 => ?_
                have hple := (pOf_spec l (fun j => listed.getD j false)).1
                have htl : t < l.length := Nat.lt_of_lt_of_le k2 hple
                have ha' : l[t]? = some l[t] := List.getElem?_eq_getElem htl
                cases hTt : isTat l t with
                | false => exact hs.keeps_at htl hTt (Nat.lt_of_lt_of_le h2 (hs.mon k1 (Nat.le_of_lt htl)).n)
                | true =>
                  have hDt := (pOf_spec l (fun j => listed.getD j false)).2.2 t k2 hTt
                  have hf := free_cls (hready.behind i t o _ (by omega) hready.nd hDt ho ha')
                  rw [isTat_eq ha'] at hTt
                  have hTc : clsOf l[t] = .t := by unfold isT at hTt; split at hTt <;> first | assumption | cases hTt
                  rw [hc, hTc] at hf
                  obtain ⟨n, hn, hg⟩ := hf
                  obtain ⟨y, hy, hxy⟩ := List.any_eq_true.1 hg
                  have := axEq_eq hxy; subst this
                  rcases hs.step t _ ha' with ⟨_, _, hh'⟩ | ⟨_, _, _, hgd', _, _⟩
                  · rw [hh']
                  · have hgs := hs.get_some ho hn (fun j' o' q1 q2 => uniq j' i o' o n q1 ho q2 hn) t (Nat.le_of_lt htl) (by omega)
                    refine guards_mem hgd' _ hy (HH i).n ?_
                    simp only [ev, hgs]
                    rcases hvv with hvv | ⟨nn, cc, hvv⟩
                    · exact .inl ⟨oo, by rw [hvv]⟩
                    · exact .inr ⟨oo, nn, cc, by rw [hvv]⟩
              · rw [Nat.max_eq_right hp, hnew]
          | q => 
            exact absurd hc hcq
          | t =>
            exfalso
            unfold isT at hT; rw [hc] at hT; cases hT


/-! ### Code, and calls -/
/-- The two machines' ways out of a piece of code. -/
def sameOut : Out → Exit → Prop
  | .norm, .normal => True
  | .brk i, .exit j => i = j
  | .ret, .ret => True
  | _, _ => False

def CodeSim (P : Program) (NG : Nat) (c : AC) (e : Env) (H : AH) (o : Out) (e' : Env) (H' : AH) : Prop :=
  ∀ (N : Nat) (cm : Code), fitC P NG N c cm = true → ∀ (ρ : Rho) (a : Act) (w : World), RelE ρ e a.tmps → RelH NG ρ H w → Fresh ρ H.n H'.n → a.tmps.size = N →
    cm.wp P (fun x a' w' => sameOut o x ∧ Post NG ρ H a w e' H' a' w') a w

theorem Post.trans {ρ : Rho} {H : AH} {a : Act} {w : World} {H1 : AH} {a1 : Act} {w1 : World} {e2 : Env} {H2 : AH} {a2 : Act} {w2 : World} (hH : RelH NG ρ H w) {ρ1 : Rho} (hfr : Fresh ρ H.n H1.n) (ha : Adv ρ H w ρ1 H1 w1) (hd : a1.defers = a.defers) (hs : a1.tmps.size = a.tmps.size) (k : Post NG ρ1 H1 a1 w1 e2 H2 a2 w2) : Post NG ρ H a w e2 H2 a2 w2 := by
  obtain ⟨ρ2, k1, k2, k3, k4, k5⟩ := k
  exact ⟨ρ2, ha.trans hH hfr k1, k2, k3, k4.trans hd, k5.trans hs⟩

theorem wp_then {P : Program} {x y : Code} {Q : Exit → Act → World → Prop} {a : Act} {w : World} {R : Exit → Act → World → Prop} (hx : x.wp P R a w) (hn : ∀ a' w', R .normal a' w' → y.wp P Q a' w') (ho : ∀ e a' w', e ≠ .normal → R e a' w' → Q e a' w') : (Code.seq x y).wp P Q a w := by
  refine wp_seq (wp_mono hx ?_)
  intro e a' w' h
  cases e with
  | normal => exact hn _ _ h
  | _ => exact ho _ _ _ (by simp) h

/-- Of a loop: from a round's begin on. -/
def LoopSim (P : Program) (NG : Nat) : AC → Env → AH → Out → Env → AH → Prop
  | .loop c, e, H, o, e', H' => ∀ (N : Nat) (s : Code), fitC P NG N c s = true → ∀ (ρ : Rho) (a : Act) (w : World), RelE ρ e a.tmps → RelH NG ρ H w → Fresh ρ H.n H'.n → a.tmps.size = N →
      ∀ (b : Frame) (k : List Item) (cs : List Frame), ∃ x a' w', (sameOut o x ∧ Post NG ρ H a w e' H' a' w') ∧ Arrives P (lone (b.at a (.code s :: .inLoop s :: k)) cs w) b k cs x a' w'
  | _, _, _, _, _, _ => True
theorem LoopSim.code {c : AC} {e : Env} {H : AH} {o : Out} {e' : Env} {H' : AH} (h : LoopSim P NG (.loop c) e H o e' H') : CodeSim P NG (.loop c) e H o e' H' := by
  intro N cm hf ρ act w he hH hfr hN
  cases cm <;> simp [fitC] at hf
  rename_i s
  intro b k cs
  obtain ⟨x, a', w', hp, harr⟩ := h N s hf ρ act w he hH hfr hN b k cs
  exact ⟨x, a', w', hp, .of_steps (.one step_loop) harr⟩

/-- What is to be shown of each kind of configuration. -/
def Said (P : Program) (NG : Nat) : Cfg → Res → Prop
  | .code c e H, .out o e' H' => CodeSim P NG c e H o e' H' ∧ LoopSim P NG c e H o e' H'
  | .ops l e H, .ops e' H' => Tr P NG l e H e' H'
  | .call f args H, .val v H' => CallSim P NG f args H v H'
  | _, _ => True

theorem fitC_seq {N : Nat} {a b : AC} {cm : Code} (h : fitC P NG N (.seq a b) cm = true) :
    (∃ ks, a = .keep ks ∧ fitC P NG N b cm = true) ∨ (∃ ks, b = .keep ks ∧ fitC P NG N a cm = true) ∨ (∃ s t, cm = .seq s t ∧ fitC P NG N a s = true ∧ fitC P NG N b t = true) := by
  unfold fitC at h
  split at h
  · exact .inl ⟨_, rfl, h⟩
  · exact .inr (.inl ⟨_, rfl, h⟩)
  · split at h
    · simp only [Bool.and_eq_true] at h
      exact .inr (.inr ⟨_, _, rfl, h.1, h.2⟩)
    · cases h

theorem results_run {ρ : Rho} {H : AH} {w : World} {e : Env} {tm : Array Value} (he : RelE ρ e tm) (hH : RelH NG ρ H w) : ∀ (rs : List ResultVar) (qs : List ARes) (vs : List AV), fitR P rs qs = true → aress e H qs = some vs →
    ∃ us : List Value, (rs.mapM (fun r => match r with
      | .tmp t => pure (tm.getD t undef)
      | .cell a t => do loadVar t (← asAddr (tm.getD a undef)) : ResultVar → Sem Value)).run P w = .ok us w ∧ VRs ρ vs us
  | [], [], vs, _, h => by
    simp only [aress, Option.some.injEq] at h; subst h
    exact ⟨[], rfl, VRs.nil ρ⟩
  | r :: rs, q :: qs, vs, hf, h => by
    simp only [aress] at h
    split at h
    · rename_i v hv
      obtain ⟨vs', hvs, e2⟩ := map_some h
      subst e2
      have key : fitR P rs qs = true ∧ ∃ u, ((match r with
          | .tmp t => pure (tm.getD t undef)
          | .cell a t => do loadVar t (← asAddr (tm.getD a undef))) : Sem Value).run P w = .ok u w ∧ VR ρ v u := by
        cases r with
        | tmp t =>
          cases q <;> simp only [fitR, Bool.and_eq_true, beq_iff_eq] at hf <;> first | (cases hf; done) | skip
          obtain ⟨rfl, hf⟩ := hf
          obtain ⟨u, hu, hr⟩ := he _ _ hv
          exact ⟨hf, u, by simp only [Array.getD_eq_getD_getElem?, hu, Option.getD_some]; rfl, hr⟩
        | cell t ty =>
          cases q <;> simp only [fitR, Bool.and_eq_true, beq_iff_eq] at hf <;> first | (cases hf; done) | skip
          · rename_i n sz
            obtain ⟨⟨⟨rfl, hagg⟩, hsz⟩, hf⟩ := hf
            refine ⟨hf, ?_⟩
            simp only [ares1] at hv
            split at hv
            · rename_i b ob hb
              obtain ⟨cs, hcs, rfl⟩ := map_some hv
              have hp := he _ _ hb
              obtain ⟨u, hu, hup⟩ := hp
              obtain ⟨B, o0, x0, hρ, rfl⟩ := hup.ptr_inv
              have hx2 := sim_loadN_run (P := P) hH hρ hcs hagg hsz
              obtain ⟨cv, hr, hv3⟩ := hx2
              exact ⟨cv, by simp [Array.getD_eq_getD_getElem?, hu, asAddr, hr], hv3⟩
            · cases hv
          · rename_i n
            obtain ⟨⟨rfl, hagg⟩, hf⟩ := hf
            refine ⟨hf, ?_⟩
            simp only [ares1] at hv
            split at hv
            · rename_i b ob hb
              obtain ⟨u, hu, hup⟩ := he _ _ hb
              obtain ⟨B, o0, x0, hρ, rfl⟩ := hup.ptr_inv
              obtain ⟨cv, hr, hv3⟩ := sim_load_run (P := P) hH hρ hv hagg
              exact ⟨cv, by simp [Array.getD_eq_getD_getElem?, hu, asAddr, hr], hv3⟩
            · cases hv
      obtain ⟨hf', u, hu, hr⟩ := key
      obtain ⟨us, hus, hvr⟩ := results_run he hH rs qs vs' hf' hvs
      refine ⟨u :: us, ?_, VRs.cons hr hvr⟩
      rw [List.mapM_cons, Sem.run_bind, hu, Result.andThen_ok, Sem.run_bind, hus]
      rfl
    · cases h
  | [], _ :: _, _, hf, _ => by simp [fitR] at hf
  | _ :: _, [], _, hf, _ => by simp [fitR] at hf


theorem nth_results {F : Func} {tm : Array Value} {us : List Value} {w : World} (h : (F.results.toList.mapM (fun r => match r with
      | .tmp t => pure (tm.getD t undef)
      | .cell a t => do loadVar t (← asAddr (tm.getD a undef)) : ResultVar → Sem Value)).run P w = .ok us w) : (results F tm).run P w = .ok (if h : us.toArray.size = 1 then us.toArray[0] else .tuple us.toArray) w := by
  have : (F.results.mapM (fun r => match r with
      | .tmp t => pure (tm.getD t undef)
      | .cell a t => do loadVar t (← asAddr (tm.getD a undef)) : ResultVar → Sem Value)).run P w = .ok us.toArray w := by
    rw [Array.mapM_eq_mapM_toList, Sem.run_map, h]; rfl
  have e : results F tm = ((F.results.mapM (fun r => match r with
      | .tmp t => pure (tm.getD t undef)
      | .cell a t => do loadVar t (← asAddr (tm.getD a undef)) : ResultVar → Sem Value)) >>= fun vs => pure (if h : vs.size = 1 then vs[0] else .tuple vs)) := rfl
  rw [e, Sem.run_bind, this]
  rfl

theorem enterE_get : ∀ (vs : List AV) (k t : Nat) (v : AV), get (enterE k vs) t = some v → k ≤ t ∧ vs[t - k]? = some v
  | [], k, t, v, h => by simp [enterE, get] at h
  | x :: vs, k, t, v, h => by
    simp only [enterE, get] at h
    split at h
    · rename_i e; subst e; simp at h; subst h; simp
    · rename_i e
      obtain ⟨h1, h2⟩ := enterE_get vs (k + 1) t v h
      refine ⟨by omega, ?_⟩
      rw [show t - k = (t - (k + 1)) + 1 by omega]; simpa using h2

theorem sound {C : FuncId → Option AFn} (hC : Fits P NG C) (hmix : P.follows .mixedOrders = true) {c : Cfg} {r : Res} (h : E C c r) : Said P NG c r := by
  induction h with
  | @skip e H =>
    refine ⟨?_, trivial⟩
    intro N cm hf ρ a w he hH _ hN
    cases cm <;> simp [fitC] at hf
    exact wp_skip ⟨trivial, ρ, Adv.refl _ _ _, he, hH, rfl, rfl⟩
  | @keep ks e H =>
    refine ⟨?_, trivial⟩
    intro N cm hf
    simp [fitC] at hf
  | @exit id e H =>
    refine ⟨?_, trivial⟩
    intro N cm hf ρ a w he hH _ hN
    cases cm <;> simp [fitC] at hf
    subst hf
    exact wp_exit ⟨rfl, ρ, Adv.refl _ _ _, he, hH, rfl, rfl⟩
  | @ret e H =>
    refine ⟨?_, trivial⟩
    intro N cm hf ρ a w he hH _ hN
    cases cm <;> simp [fitC] at hf
    exact wp_ret ⟨trivial, ρ, Adv.refl _ _ _, he, hH, rfl, rfl⟩
  | @ops l e H e' H' _ ih =>
    refine ⟨?_, trivial⟩
    intro N cm hf ρ a w he hH hfr hN
    have ih : Tr P NG l e H e' H' := ih
    cases cm with
    | region id ops draw =>
      simp only [fitC, Bool.and_eq_true, Bool.or_eq_true, Bool.not_eq_true'] at hf
      obtain ⟨hfl, hd⟩ := hf
      cases draw with
      | false =>
        apply wp_region
        have := tr_text (P := P) (N := N) (ops := ops) ih 0 ops.toList rfl hfl ρ a w he hH hfr hN (fun x a' w' => sameOut .norm x ∧ Post NG ρ H a w e' H' a' w') (fun a' w' hp => ⟨trivial, hp⟩)
        simpa using this
      | true =>
        have hok : drawOk ops l = true := by simpa using hd
        obtain ⟨E', HH, vs, hs, e0, h0, e1, h1⟩ := ih.seq
        obtain ⟨hlen, _⟩ := fitL_get hfl
        have hlen' : ops.size = l.length := by simpa using hlen
        refine wp_region_any hmix ?_
        subst e0 h0 e1 h1
        have hH' : RelH NG ρ (HH 0) { w with drawn := w.drawn + 1 } := hH.heap_eq rfl
        refine draw_sound (P := P) (NG := NG) hs hfl hok (ρ0 := ρ) (a0 := a) (w0 := { w with drawn := w.drawn + 1 }) he hH' hfr hN (Q := fun x a' w' => sameOut .norm x ∧ Post NG ρ (HH 0) a w (E' l.length) (HH l.length) a' w') ?_ ops.size _ ρ a _ (by simp) ⟨List.range ops.size, by simp, fun j hj _ => List.mem_range.2 hj⟩ ?_ ?_ rfl hN
        · rintro a' w' ⟨ρ', k1, k2, k3, k4, k5⟩
          exact ⟨trivial, ρ', ⟨k1.sub, k1.new, k1.mon, ⟨k1.fr.os, k1.fr.tape, k1.fr.output, k1.fr.size, k1.fr.heap⟩⟩, k2, k3, k4, k5⟩
        · intro j o hj
          simp [Array.getD] at hj
        · have hD : (fun j => (Array.replicate ops.size false).getD j false) = fun _ => false := by
            funext j; simp [Array.getD]
          rw [hD]
          have hgen : ∀ (l' : List AO) (k : Nat), envOf (E' 0) vs (fun _ => false) l' k = E' 0 := by
            intro l'
            induction l' with
            | nil => intro k; rfl
            | cons o l' ih => intro k; simp only [envOf, Bool.false_eq_true, if_false]; exact ih _
          have hwf := hH.wf
          -- nothing is done: the heap is the first, as far as the relation looks
          have hag : ∀ b r, ρ b = some r → b < (HH l.length).n → (heapD l HH (fun _ => false)).bk b = (HH 0).bk b := by
            intro b r hb hlt
            have hb0 : b < (HH 0).n := by
              rcases Nat.lt_or_ge b (HH 0).n with q | q
              · exact q
              · rw [hfr b q hlt] at hb; cases hb
            show (HH (max (pOf l _) (btOf HH l.length b))).bk b = _
            have hbt := bt_old hs (Nat.zero_le _) hb0
            rw [Nat.max_eq_left (by omega)]
            obtain ⟨p1, p2, p3⟩ := pOf_spec l (fun _ => false)
            exact hs.flat (Nat.zero_le _) p1 (fun t _ ht => by
              cases hq : isTat l t with
              | false => rfl
              | true => exact absurd (p3 t ht hq) (by simp)) hb0
          refine ⟨by rw [hgen]; exact he, ?_, fun b r hb => .inl hb, ⟨Sub.refl _, NewB.refl _ _ _ _, heapD_mon hs hwf _, Fr.refl _ _ _⟩⟩
          refine hH'.view (heapD_wf hs hwf _) (fun b r hb hlt => hag b r hb hlt)
    | _ => simp [fitC] at hf
  | @seqN a b e H e' H' r h1 h2 i1 i2 =>
    cases r with
    | ops => trivial
    | val => trivial
    | out o e2 H2 =>
      refine ⟨?_, trivial⟩
      intro N cm hf ρ act w he hH hfr hN
      have i1 : CodeSim P NG a e H .norm e' H' := i1.1
      have i2 : CodeSim P NG b e' H' o e2 H2 := i2.1
      have m1 : Mon H H' := E_mon h1
      have m2 : Mon H' H2 := E_mon h2
      rcases fitC_seq hf with ⟨ks, rfl, hf2⟩ | ⟨ks, rfl, hf2⟩ | ⟨s, t, rfl, hfa, hfb⟩
      · cases h1
        exact i2 N cm hf2 ρ act w (he.keep ks) hH hfr hN
      · cases h2
        refine wp_mono (i1 N cm hf2 ρ act w he hH hfr hN) ?_
        rintro x a' w' ⟨hs, ρ', k1, k2, k3⟩
        exact ⟨hs, ρ', k1, k2.keep ks, k3⟩
      · refine wp_then (i1 N s hfa ρ act w he hH (hfr.sub m2.n) hN) ?_ ?_
        · rintro a' w' ⟨_, ρ', k1, k2, k3, k4, k5⟩
          refine wp_mono (i2 N t hfb ρ' a' w' k2 k3 (k1.fresh hfr m2.n) (k5.trans hN)) ?_
          rintro x a2 w2 ⟨hs, hp⟩
          exact ⟨hs, hp.trans hH (hfr.sub m2.n) k1 k4 k5⟩
        · rintro x a' w' hne ⟨hs, _⟩
          cases x <;> first | exact absurd rfl hne | exact hs.elim
  | @seqX a b e H o e' H' h1 hne i1 =>
    refine ⟨?_, trivial⟩
    intro N cm hf ρ act w he hH hfr hN
    have i1 : CodeSim P NG a e H o e' H' := i1.1
    rcases fitC_seq hf with ⟨ks, rfl, hf2⟩ | ⟨ks, rfl, hf2⟩ | ⟨s, t, rfl, hfa, hfb⟩
    · cases h1; exact absurd rfl hne
    · exact i1 N cm hf2 ρ act w he hH hfr hN
    · refine wp_then (i1 N s hfa ρ act w he hH hfr hN) ?_ ?_
      · rintro a' w' ⟨hs, _⟩
        cases o <;> first | exact absurd rfl hne | exact hs.elim
      · rintro x a' w' _ h; exact h
  | @cond x a b e H t r hx h1 ih =>
    cases r with
    | ops => trivial
    | val => trivial
    | out o e2 H2 =>
      refine ⟨?_, trivial⟩
      intro N cm hf ρ act w he hH hfr hN
      have ih : CodeSim P NG (if t = true then a else b) e H o e2 H2 := ih.1
      cases cm <;> simp [fitC] at hf
      rename_i y s u
      obtain ⟨⟨hy, hs⟩, hu⟩ := hf
      have hv := (ev_VR hH.glob he hy hx).b_inv
      refine wp_cond hv ?_
      cases t
      · exact ih N u hu ρ act w he hH hfr hN
      · exact ih N s hs ρ act w he hH hfr hN
  | @blockX id a e H o e' H' h1 hne ih =>
    refine ⟨?_, trivial⟩
    intro N cm hf ρ act w he hH hfr hN
    have ih : CodeSim P NG a e H o e' H' := ih.1
    cases cm <;> simp [fitC] at hf
    rename_i j s
    obtain ⟨rfl, hs⟩ := hf
    apply wp_block
    refine wp_mono (ih N s hs ρ act w he hH hfr hN) ?_
    rintro x a' w' ⟨hso, hp⟩
    cases x with
    | exit id' =>
      simp only [Exit.inBlock]
      cases o with
      | brk k =>
        have hk : k = id' := hso
        subst hk
        rw [if_neg (fun e => hne (by rw [e]))]
        exact ⟨rfl, hp⟩
      | norm => exact hso.elim
      | ret => exact hso.elim
    | _ => exact ⟨hso, hp⟩
  | @blockB id a e H e' H' h1 ih =>
    refine ⟨?_, trivial⟩
    intro N cm hf ρ act w he hH hfr hN
    have ih : CodeSim P NG a e H (.brk id) e' H' := ih.1
    cases cm <;> simp [fitC] at hf
    rename_i j s
    obtain ⟨rfl, hs⟩ := hf
    apply wp_block
    refine wp_mono (ih N s hs ρ act w he hH hfr hN) ?_
    rintro x a' w' ⟨hso, hp⟩
    cases x with
    | exit id' =>
      have hk : id = id' := hso
      subst hk
      simp only [Exit.inBlock, if_true]
      exact ⟨trivial, hp⟩
    | _ => exact hso.elim
  | @loopN a e H e' H' r h1 h2 i1 i2 =>
    cases r with
    | ops => trivial
    | val => trivial
    | out o e2 H2 =>
      have i1 : CodeSim P NG a e H .norm e' H' := i1.1
      have i2 : LoopSim P NG (.loop a) e' H' o e2 H2 := i2.2
      have m2 : Mon H' H2 := E_mon h2
      have key : LoopSim P NG (.loop a) e H o e2 H2 := by
        intro N s hf ρ act w he hH hfr hN b k cs
        obtain ⟨x, a1, w1, ⟨hs1, ρ', k1, k2, k3, k4, k5⟩, harr⟩ := i1 N s hf ρ act w he hH (hfr.sub m2.n) hN b (.inLoop s :: k) cs
        cases x <;> first | exact hs1.elim | skip
        obtain ⟨x2, a2, w2, ⟨hs2, hp2⟩, harr2⟩ := i2 N s hf ρ' a1 w1 k2 k3 (k1.fresh hfr m2.n) (k5.trans hN) b k cs
        refine ⟨x2, a2, w2, ⟨hs2, hp2.trans hH (hfr.sub m2.n) k1 k4 k5⟩, ?_⟩
        have harr1 : Steps P (lone (b.at act (.code s :: .inLoop s :: k)) cs w) (lone (b.at a1 (.inLoop s :: k)) cs w1) := harr
        exact .of_steps (Steps.trans harr1 (.one step_inLoop)) harr2
      exact ⟨key.code, key⟩
  | @loopX a e H o e' H' h1 hne ih =>
    have ih : CodeSim P NG a e H o e' H' := ih.1
    have key : LoopSim P NG (.loop a) e H o e' H' := by
      intro N s hf ρ act w he hH hfr hN b k cs
      obtain ⟨x, a1, w1, ⟨hs1, hp⟩, harr⟩ := ih N s hf ρ act w he hH hfr hN b (.inLoop s :: k) cs
      refine ⟨x, a1, w1, ⟨hs1, hp⟩, ?_⟩
      cases x with
      | normal => cases o <;> first | exact absurd rfl hne | exact hs1.elim
      | exit id => exact .pass (x := .inLoop s) rfl (fun _ _ => .inl (by simp)) harr
      | goto l => exact .pass (x := .inLoop s) rfl (fun _ _ => .inl (by simp)) harr
      | ret => exact .pass (x := .inLoop s) rfl (fun _ _ => .inl (by simp)) harr
      | panic ch => exact .pass (x := .inLoop s) rfl (fun _ _ => .inl (by simp)) harr
      | outgrown => exact .pass (x := .inLoop s) rfl (fun _ _ => .inl (by simp)) harr
    exact ⟨key.code, key⟩
  | @nil e H => exact Tr.nil
  | @pass o l e H r hw h1 ih =>
    cases r with
    | out => trivial
    | val => trivial
    | ops e' H' => exact Tr.pass hw ih
  | @op o l e H v H' r hw hc ho hg hq h1 ih =>
    cases r with
    | out => trivial
    | val => trivial
    | ops e' H2 => exact Tr.step hw (stepSim_op hc ho) (Mon.aop ho) hg hq (fun _ => ho) ih
  | @call o l e H f args v H' r hw ht h1 hg hq h2 i1 i2 =>
    cases r with
    | out => trivial
    | val => trivial
    | ops e' H2 =>
      have hfn : ∃ fn, C f = some fn := by cases h1 with | enter hf _ _ _ _ => exact ⟨_, hf⟩
      exact Tr.step hw (stepSim_call hC ht hfn i1) (E_mon h1) hg hq (fun h => by rw [isCall_target ht] at h; cases h) i2
  | @enter f args H fn o e H' v hf hn h1 ho hr ih =>
    intro ρ cargs w hv hH hfr
    have ih : CodeSim P NG fn.body (enterE 0 args) H o e H' := ih.1
    obtain ⟨F, hF, hfit⟩ := hC f fn hf
    simp only [fitF, Bool.and_eq_true, bne_iff_ne, decide_eq_true_eq] at hfit
    obtain ⟨⟨⟨_, hnp⟩, hres⟩, hbody⟩ := hfit
    cases hb : F.body with
    | none => rw [hb] at hbody; cases hbody
    | some cm =>
      rw [hb] at hbody
      have hsz : cargs.size = args.length := by rw [hv.1]; simp
      refine calls_of_wp hF hb ?_
      have he : RelE ρ (enterE 0 args) (cargs ++ Array.replicate (F.ntmps - cargs.size) undef) := by
        intro t x hx
        obtain ⟨_, hx⟩ := enterE_get args 0 t x hx
        obtain ⟨u, hu, hr⟩ := hv.get hx
        have ht : t < cargs.size := by have := (List.getElem?_eq_some_iff.1 hu).1; simpa using this
        exact ⟨u, by rw [Array.getElem?_append_left ht, ← Array.getElem?_toList]; simpa using hu, hr⟩
      refine wp_mono (ih F.ntmps cm hbody ρ _ w he hH hfr (by simp; omega)) ?_
      rintro x a' w' ⟨hs, ρ', k1, k2, k3, k4, k5⟩
      -- the results
      have fin : ∃ cv, (results F a'.tmps).run P w' = .ok cv w' ∧ VR ρ' v cv := by
        unfold ares at hr
        cases hq : aress e H' fn.res with
        | none => rw [hq] at hr; cases hr
        | some vs =>
          rw [hq] at hr
          obtain ⟨us, hus, hvr⟩ := results_run (P := P) k2 k3 _ _ vs hres hq
          have := nth_results hus
          refine ⟨_, this, ?_⟩
          cases vs with
          | nil =>
            have := hvr.nil_inv; subst this
            cases hr
            simp only [List.size_toArray, List.length_nil]
            exact .tup rfl (fun i x v h => by simp at h)
          | cons x vs =>
            cases vs with
            | nil =>
              obtain ⟨u, us', rfl, hxu, hrest⟩ := hvr.cons_inv
              have := hrest.nil_inv; subst this
              cases hr
              simpa using hxu
            | cons y vs =>
              cases hr
              have hlen : us.length = vs.length + 2 := by rw [← hvr.1]; simp
              rw [dif_neg (by simp; omega)]
              exact .tup (by simpa using hvr.1) hvr.2
      obtain ⟨cv, hrun, hcv⟩ := fin
      have hdef : a'.defers = [] := k4
      rcases ho with rfl | rfl
      · cases x <;> first | exact hs.elim | skip
        exact ⟨hdef, cv, hrun, ρ', cv, rfl, k1, k3, hcv⟩
      · cases x <;> first | exact hs.elim | skip
        exact ⟨hdef, cv, hrun, ρ', cv, rfl, k1, k3, hcv⟩

end
end Go.Proofs.YtdgmihohmkdpjaaDoor.AM
