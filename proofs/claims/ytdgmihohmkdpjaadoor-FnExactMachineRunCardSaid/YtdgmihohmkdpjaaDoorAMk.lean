/-
  Soundness of the abstract machine, last part: a region that draws its order; code; calls. No condition.
-/
import Derived.Test.YtdgmihohmkdpjaaDoorAMj
namespace Go.Proofs.YtdgmihohmkdpjaaDoor.AM
set_option linter.unusedSimpArgs false
set_option linter.unusedVariables false
open Go Go.RowKit

section
variable {P : Program} {NG : Nat} {l : List AO} {E : Nat → Env} {HH : Nat → AH} {vs : Nat → AV}

/-- The state of a region of which just the operations D are done. -/
structure Inv (NG : Nat) (l : List AO) (HH : Nat → AH) (vs : Nat → AV) (e0 : Env) (ρ0 : Rho) (w0 : World) (D : Nat → Bool) (ρ : Rho) (tm : Array Value) (w : World) : Prop where
  env : RelE ρ (envOf e0 vs D l 0) tm
  rel : RelH NG ρ (heapD l HH D) w
  dom : ∀ b r, ρ b = some r → ρ0 b = some r ∨ ∃ j, D j = true ∧ j < l.length ∧ (HH j).n ≤ b ∧ b < (HH (j + 1)).n
  adv : Adv ρ0 (HH 0) w0 ρ (heapD l HH D) w

/-- What the check of a region says of an operation that is ready. -/
structure Ready (l : List AO) (D : Nat → Bool) (i : Nat) : Prop where
  lt : i < l.length
  nd : D i = false
  /-- an earlier one that is not done may come later -/
  ahead : ∀ (t : Nat) (a b : AO), t < i → D t = false → l[t]? = some a → l[i]? = some b → free ((l.drop (t + 1)).take (i - t - 1)) a b = true
  /-- one that is done may come ahead of an earlier one that is not -/
  behind : ∀ (s t : Nat) (a b : AO), s < t → D s = false → D t = true → l[s]? = some a → l[t]? = some b → free ((l.drop (s + 1)).take (t - s - 1)) a b = true
  uniq : ∀ (s t : Nat) (a b : AO) (n : Nat), l[s]? = some a → l[t]? = some b → a.d = some n → b.d = some n → s = t

theorem free_names {mid : List AO} {a b : AO} (h : free mid a b = true) : (∀ n, a.d = some n → n ∉ tmpsOf b) ∧ (∀ n, b.d = some n → n ∉ tmpsOf a) := by
  unfold free at h
  simp only [Bool.and_eq_true] at h
  refine ⟨fun n hn => ?_, fun n hn => ?_⟩
  · have := h.1.1; rw [hn] at this; simpa using this
  · have := h.1.2; rw [hn] at this; simpa using this

/-- The names that a ready operation reads have the values that they have in the text's order. -/
theorem Ready.get {D : Nat → Bool} {i : Nat} (hr : Ready l D i) (hs : Seq P NG l E HH vs) {o : AO} (ho : l[i]? = some o) {n : Nat} (hn : n ∈ tmpsOf o) : get (envOf (E 0) vs D l 0) n = get (E i) n := by
  by_cases hex : ∃ (j : Nat) (a : AO), l[j]? = some a ∧ a.d = some n
  · obtain ⟨j, a, ha, hd⟩ := hex
    have hu : ∀ (j' : Nat) (o' : AO), l[j']? = some o' → o'.d = some n → j' = j := fun j' o' h1 h2 => hr.uniq j' j o' a n h1 ha h2 hd
    rcases Nat.lt_trichotomy j i with h | h | h
    · have hD : D j = true := by
        cases hq : D j with
        | true => rfl
        | false => exact absurd hn ((free_names (hr.ahead j a o h hq ha ho)).1 n hd)
      rw [hs.get_some ha hd hu i (Nat.le_of_lt hr.lt) h]
      have := get_envOf_some (E 0) vs D n l 0 j a ha hd (by simpa using hD) (fun j' o' h1 h2 => hu j' o' h1 h2)
      simpa using this
    · subst h
      rw [hs.get_none j (Nat.le_of_lt hr.lt) (fun j' o' hj h1 h2 => by have := hu j' o' h1 h2; omega)]
      exact get_envOf_none (E 0) vs D n l 0 (fun j' o' h1 h2 => by rw [hu j' o' h1 h2]; simpa using hr.nd)
    · have hD : D j = false := by
        cases hq : D j with
        | false => rfl
        | true => exact absurd hn ((free_names (hr.behind i j o a h hr.nd hq ho ha)).2 n hd)
      rw [hs.get_none i (Nat.le_of_lt hr.lt) (fun j' o' hj h1 h2 => by have := hu j' o' h1 h2; omega)]
      exact get_envOf_none (E 0) vs D n l 0 (fun j' o' h1 h2 => by rw [hu j' o' h1 h2]; simpa using hD)
  · rw [hs.get_none i (Nat.le_of_lt hr.lt) (fun j' o' _ h1 h2 => hex ⟨j', o', h1, h2⟩)]
    exact get_envOf_none (E 0) vs D n l 0 (fun j' o' h1 h2 => absurd ⟨j', o', h1, h2⟩ hex)

theorem Ready.ev {D : Nat → Bool} {i : Nat} (hr : Ready l D i) (hs : Seq P NG l E HH vs) {o : AO} (ho : l[i]? = some o) : ∀ x ∈ xsOf o.op, AM.ev (envOf (E 0) vs D l 0) x = AM.ev (E i) x := by
  intro x hx
  cases x with
  | t n => exact hr.get hs ho (by unfold tmpsOf; rw [List.mem_append]; left; rw [List.mem_filterMap]; exact ⟨_, hx, rfl⟩)
  | c v => rfl
  | g n => rfl
theorem Ready.want {D : Nat → Bool} {i : Nat} (hr : Ready l D i) (hs : Seq P NG l E HH vs) {o : AO} (ho : l[i]? = some o) : AM.want (envOf (E 0) vs D l 0) o.c = AM.want (E i) o.c := by
  cases hc : o.c with
  | none => rfl
  | some q =>
    obtain ⟨t, b⟩ := q
    simp only [AM.want]
    rw [hr.get hs ho (by unfold tmpsOf; rw [List.mem_append]; right; rw [hc]; simp)]

theorem isTat_eq {i : Nat} {o : AO} (ho : l[i]? = some o) : isTat l i = isT o := by unfold isTat; rw [ho]

/-- D and i -/
def with_ (D : Nat → Bool) (i : Nat) : Nat → Bool := fun j => if j = i then true else D j
theorem with_same (D : Nat → Bool) (i : Nat) : with_ D i i = true := by simp [with_]
theorem with_ne (D : Nat → Bool) {i j : Nat} (h : j ≠ i) : with_ D i j = D j := by simp [with_, h]

/-- Where the check forbids two orders. -/
theorem free_cls {mid : List AO} {a b : AO} (h : free mid a b = true) :
    (match clsOf a, clsOf b with
     | .t, .t | .t, .q | .q, .t | .t, .l _ => False
     | .a, .t => ∃ n, a.d = some n ∧ b.gd.any (axEq (.t n)) = true
     | .l x, .t => b.gd.any (axEq x) = true ∧ (∀ n, x = .t n → mid.all (fun o => o.d != some n) = true ∧ a.d ≠ some n)
     | _, _ => True) := by
  unfold free at h
  simp only [Bool.and_eq_true] at h
  have h := h.2
  cases ha : clsOf a <;> cases hb : clsOf b <;> rw [ha, hb] at h <;> simp only at h ⊢ <;> first | trivial | (cases h; done) | skip
  · split at h
    · rename_i n hn; exact ⟨n, hn, h⟩
    · cases h
  · rename_i x
    simp only [Bool.and_eq_true] at h
    refine ⟨h.1, fun n hx => ?_⟩
    subst hx
    have h2 := h.2
    simp only [Bool.and_eq_true, bne_iff_ne] at h2
    exact h2

theorem guards_mem {e : Env} {H H' : AH} : ∀ {gd : List AX}, Guards e H H' gd → ∀ x ∈ gd, ∀ b, ((∃ o, ev e x = some (.ptr b o)) ∨ ∃ o n c, ev e x = some (.sl b o n c)) → H'.bk b = H.bk b
  | [], _, x, hx, _, _ => by cases hx
  | y :: gd, h, x, hx, b, hb => by
    rcases List.mem_cons.1 hx with rfl | hx
    · have h1 := h.1
      rcases hb with ⟨o, hb⟩ | ⟨o, n, c, hb⟩ <;> rw [hb] at h1 <;> exact h1
    · exact guards_mem h.2 x hx b hb
theorem axEq_eq {x y : AX} (h : axEq x y = true) : x = y := by
  unfold axEq at h
  split at h <;> first | (simp only [beq_iff_eq] at h; rw [h]) | cases h

/-- The first of those that may change memory, not done yet: it is i, if i is one. -/
theorem Ready.p_t {D : Nat → Bool} {i : Nat} (hr : Ready l D i) {o : AO} (ho : l[i]? = some o) (hT : isT o = true) : pOf l D = i := by
  obtain ⟨h1, h2, h3⟩ := pOf_spec l D
  rcases Nat.lt_trichotomy (pOf l D) i with h | h | h
  · obtain ⟨k1, k2⟩ := h2 (Nat.lt_trans h hr.lt)
    have hlen : pOf l D < l.length := Nat.lt_trans h hr.lt
    have ha : l[pOf l D]? = some l[pOf l D] := List.getElem?_eq_getElem hlen
    have hf := free_cls (hr.ahead _ _ o h k2 ha ho)
    rw [isTat_eq ha] at k1
    unfold isT at k1 hT
    split at k1
    · rename_i e1
      split at hT
      · rename_i e2
        rw [e1, e2] at hf; exact hf.elim
      · cases hT
    · cases k1
  · exact h
  · have := h3 i h (by rw [isTat_eq ho]; exact hT)
    rw [hr.nd] at this; cases this

theorem pOf_with_t {D : Nat → Bool} {i : Nat} (hp : pOf l D = i) (hi : i < l.length) : i < pOf l (with_ D i) ∧ ∀ t, i < t → t < pOf l (with_ D i) → isTat l t = true → D t = true := by
  obtain ⟨h1, h2, h3⟩ := pOf_spec l (with_ D i)
  obtain ⟨g1, g2, g3⟩ := pOf_spec l D
  refine ⟨?_, fun t ht1 ht2 hT => ?_⟩
  · rcases Nat.lt_trichotomy (pOf l (with_ D i)) i with h | h | h
    · obtain ⟨k1, k2⟩ := h2 (by omega)
      have := g3 (pOf l (with_ D i)) (by omega) k1
      rw [with_ne D (by omega)] at k2; rw [k2] at this; cases this
    · obtain ⟨k1, k2⟩ := h2 (by omega)
      rw [h, with_same] at k2; cases k2
    · exact h
  · have := h3 t ht2 hT
    rw [with_ne D (by omega)] at this; exact this

theorem pOf_with {D : Nat → Bool} {i : Nat} (hT : isTat l i = false) : pOf l (with_ D i) = pOf l D := by
  unfold pOf
  congr 2
  funext t
  by_cases h : t = i
  · subst h; rw [hT]; rfl
  · rw [with_ne D h]

theorem bt_new (hs : Seq P NG l E HH vs) {i b : Nat} (hi : i < l.length) (h1 : (HH i).n ≤ b) (h2 : b < (HH (i + 1)).n) : btOf HH l.length b = i + 1 := by
  obtain ⟨k1, k2, k3⟩ := btOf_spec HH l.length b
  have h3 := k3 (i + 1) hi h2
  rcases Nat.lt_or_ge (btOf HH l.length b) (i + 1) with h | h
  · have hb := k2 (Nat.lt_of_lt_of_le h2 (hs.mon hi (Nat.le_refl _)).n)
    have := (hs.mon (show btOf HH l.length b ≤ i by omega) (Nat.le_of_lt hi)).n
    omega
  · omega

theorem bt_old (hs : Seq P NG l E HH vs) {i b : Nat} (hi : i ≤ l.length) (h : b < (HH i).n) : btOf HH l.length b ≤ i := (btOf_spec HH l.length b).2.2 i hi h
theorem bt_lt (hs : Seq P NG l E HH vs) {b : Nat} (h : b < (HH l.length).n) : b < (HH (btOf HH l.length b)).n := (btOf_spec HH l.length b).2.1 h
theorem bt_ge (hs : Seq P NG l E HH vs) {i b : Nat} (hi : i ≤ l.length) (h1 : (HH i).n ≤ b) (h : b < (HH l.length).n) : i < btOf HH l.length b := by
  rcases Nat.lt_or_ge i (btOf HH l.length b) with q | q
  · exact q
  · have := bt_lt hs h
    have := (hs.mon q hi).n
    omega

/-- No operation that may change memory stands between i and the first such that is not done. -/
theorem Ready.between {D : Nat → Bool} {i : Nat} (hr : Ready l D i) {o : AO} (ho : l[i]? = some o) (hq : match clsOf o with | .q => True | _ => False) : i < pOf l D ∧ ∀ t, i ≤ t → t < pOf l D → isTat l t = false := by
  obtain ⟨h1, h2, h3⟩ := pOf_spec l D
  have hcq : clsOf o = .q := by
    cases hc : clsOf o <;> rw [hc] at hq <;> first | rfl | exact hq.elim
  have hlt : i < pOf l D := by
    rcases Nat.lt_trichotomy (pOf l D) i with h | h | h
    · obtain ⟨k1, k2⟩ := h2 (Nat.lt_trans h hr.lt)
      have hlen : pOf l D < l.length := Nat.lt_trans h hr.lt
      have ha : l[pOf l D]? = some l[pOf l D] := List.getElem?_eq_getElem hlen
      have hf := free_cls (hr.ahead _ _ o h k2 ha ho)
      rw [isTat_eq ha] at k1
      unfold isT at k1
      split at k1
      · rename_i e1
        rw [e1, hcq] at hf; exact hf.elim
      · cases k1
    · obtain ⟨k1, _⟩ := h2 (by rw [h]; exact hr.lt)
      rw [h, isTat_eq ho] at k1
      unfold isT at k1; rw [hcq] at k1; cases k1
    · exact h
  refine ⟨hlt, fun t ht1 ht2 => ?_⟩
  cases hT : isTat l t with
  | false => rfl
  | true =>
    have hD := h3 t ht2 hT
    rcases Nat.lt_or_ge i t with q | q
    · have hlen : t < l.length := by omega
      have ha : l[t]? = some l[t] := List.getElem?_eq_getElem hlen
      have hf := free_cls (hr.behind i t o _ q hr.nd hD ho ha)
      rw [isTat_eq ha] at hT
      unfold isT at hT
      split at hT
      · rename_i e1
        rw [hcq, e1] at hf; exact hf.elim
      · cases hT
    · have : t = i := by omega
      subst this
      rw [isTat_eq ho] at hT
      unfold isT at hT; rw [hcq] at hT; cases hT


/-- The heap of D at a block that is there when i comes, where i changes or reads all memory. -/
theorem heapD_t (hs : Seq P NG l E HH vs) {D : Nat → Bool} {i : Nat} (hi : i < l.length) (hp : pOf l D = i) {b : Nat} (hb : b < (HH i).n) : (heapD l HH D).bk b = (HH i).bk b := by
  show (HH (max (pOf l D) (btOf HH l.length b))).bk b = _
  have := bt_old hs (Nat.le_of_lt hi) hb
  rw [hp, Nat.max_eq_left this]

theorem heapD_q (hs : Seq P NG l E HH vs) {D : Nat → Bool} {i : Nat} (hi : i < l.length) (hp : i < pOf l D) (hT : ∀ t, i ≤ t → t < pOf l D → isTat l t = false) {b : Nat} (hb : b < (HH i).n) : (heapD l HH D).bk b = (HH i).bk b := by
  show (HH (max (pOf l D) (btOf HH l.length b))).bk b = _
  have := bt_old hs (Nat.le_of_lt hi) hb
  rw [Nat.max_eq_left (by omega)]
  exact hs.flat (Nat.le_of_lt hp) (pOf_spec l D).1 hT hb

theorem heapD_wf (hs : Seq P NG l E HH vs) (h0 : Wf (HH 0)) (D : Nat → Bool) : Wf (heapD l HH D) := by
  intro b hb
  have hb' : (HH l.length).n ≤ b := hb
  have hmax : max (pOf l D) (btOf HH l.length b) ≤ l.length := by
    have := (pOf_spec l D).1; have := (btOf_spec HH l.length b).1; omega
  have hm := hs.mon (Nat.zero_le _) hmax
  exact hm.wf h0 b (Nat.le_trans (hs.mon hmax (Nat.le_refl _)).n hb')

theorem heapD_mon (hs : Seq P NG l E HH vs) (h0 : Wf (HH 0)) (D : Nat → Bool) : Mon (HH 0) (heapD l HH D) := by
  refine ⟨(hs.mon (Nat.zero_le _) (Nat.le_refl _)).n, fun b hb k hk => ?_, fun _ => heapD_wf hs h0 D⟩
  have hmax : max (pOf l D) (btOf HH l.length b) ≤ l.length := by
    have := (pOf_spec l D).1; have := (btOf_spec HH l.length b).1; omega
  exact (hs.mon (Nat.zero_le _) hmax).old b hb k hk

/-- What stands between two states of a region: the operation i is done, too. -/
structure Step1 (NG : Nat) (l : List AO) (HH : Nat → AH) (D : Nat → Bool) (i : Nat) (ρ : Rho) (w : World) (H1 H1' : AH) : Prop where
  n : H1.n = (HH i).n
  n' : H1'.n = (HH (i + 1)).n
  rel : RelH NG ρ H1 w
  agree : ∀ b, b < (HH i).n → H1.bk b = (heapD l HH D).bk b
  new : ∀ b, b < (HH (i + 1)).n → (heapD l HH (with_ D i)).bk b = H1'.bk b
  rest : ∀ b, (HH (i + 1)).n ≤ b → b < (HH l.length).n → (heapD l HH (with_ D i)).bk b = (heapD l HH D).bk b

/-- An operation that may change memory, or a call that may read all of it. -/
theorem step1_t (hs : Seq P NG l E HH vs) (h0 : Wf (HH 0)) {D : Nat → Bool} {i : Nat} (hr : Ready l D i) {o : AO} (ho : l[i]? = some o) (hT : isT o = true) {ρ : Rho} {w : World} (hrel : RelH NG ρ (heapD l HH D) w) : Step1 NG l HH D i ρ w (HH i) (HH (i + 1)) := by
  have hp := hr.p_t ho hT
  have hag : ∀ b, b < (HH i).n → (HH i).bk b = (heapD l HH D).bk b := fun b hb => (heapD_t hs hr.lt hp hb).symm
  obtain ⟨q1, q2⟩ := pOf_with_t hp hr.lt
  have hnT : ∀ t, i < t → t < pOf l (with_ D i) → isTat l t = false := by
    intro t h1 h2
    cases hq : isTat l t with
    | false => rfl
    | true =>
      have hD := q2 t h1 h2 hq
      have hlen : t < l.length := Nat.lt_of_lt_of_le h2 (pOf_spec l (with_ D i)).1
      have ha : l[t]? = some l[t] := List.getElem?_eq_getElem hlen
      have hf := free_cls (hr.behind i t o _ h1 hr.nd hD ho ha)
      rw [isTat_eq ha] at hq
      unfold isT at hq hT
      split at hq
      · rename_i e1
        split at hT
        · rename_i e2
          rw [e1, e2] at hf; exact hf.elim
        · cases hT
      · cases hq
  have hple := (pOf_spec l (with_ D i)).1
  refine ⟨rfl, rfl, hrel.view ((hs.mon (Nat.zero_le _) (Nat.le_of_lt hr.lt)).wf h0) (fun b r _ hb => hag b hb), hag, ?_, ?_⟩
  · intro b hb
    show (HH (max (pOf l (with_ D i)) (btOf HH l.length b))).bk b = _
    have hbt := bt_old hs hr.lt hb
    rw [Nat.max_eq_left (by omega)]
    exact hs.flat q1 hple (fun t h1 h2 => hnT t h1 h2) hb
  · intro b hb1 hb2
    show (HH (max (pOf l (with_ D i)) (btOf HH l.length b))).bk b = (HH (max (pOf l D) (btOf HH l.length b))).bk b
    have hbt := bt_ge hs hr.lt hb1 hb2
    rw [hp, Nat.max_eq_right (show i ≤ btOf HH l.length b by omega)]
    rcases Nat.lt_or_ge (btOf HH l.length b) (pOf l (with_ D i)) with h | h
    · rw [Nat.max_eq_left (by omega)]
      exact hs.flat (by omega) hple (fun t h1 h2 => hnT t (by omega) h2) (bt_lt hs hb2)
    · rw [Nat.max_eq_right h]

theorem step1_q (hs : Seq P NG l E HH vs) (h0 : Wf (HH 0)) {D : Nat → Bool} {i : Nat} (hr : Ready l D i) {o : AO} (ho : l[i]? = some o) (hq : clsOf o = .q) {ρ : Rho} {w : World} (hrel : RelH NG ρ (heapD l HH D) w) : Step1 NG l HH D i ρ w (HH i) (HH (i + 1)) := by
  obtain ⟨hp, hT⟩ := hr.between ho (by rw [hq]; trivial)
  have hag : ∀ b, b < (HH i).n → (HH i).bk b = (heapD l HH D).bk b := fun b hb => (heapD_q hs hr.lt hp hT hb).symm
  have hTi : isTat l i = false := hT i (Nat.le_refl _) hp
  have hw := pOf_with (l := l) (D := D) hTi
  refine ⟨rfl, rfl, hrel.view ((hs.mon (Nat.zero_le _) (Nat.le_of_lt hr.lt)).wf h0) (fun b r _ hb => hag b hb), hag, ?_, ?_⟩
  · intro b hb
    show (HH (max (pOf l (with_ D i)) (btOf HH l.length b))).bk b = _
    have hbt := bt_old hs hr.lt hb
    rw [hw, Nat.max_eq_left (by omega)]
    exact hs.flat hp (pOf_spec l D).1 (fun t h1 h2 => hT t (by omega) h2) hb
  · intro b hb1 hb2
    show (HH (max (pOf l (with_ D i)) (btOf HH l.length b))).bk b = (HH (max (pOf l D) (btOf HH l.length b))).bk b
    rw [hw]

/-- Another one: it makes nothing, or one block. -/
theorem step1_p (hs : Seq P NG l E HH vs) (h0 : Wf (HH 0)) {D : Nat → Bool} {i : Nat} (hr : Ready l D i) {o : AO} (ho : l[i]? = some o) (hT : isT o = false) {ρ : Rho} {w : World} (hrel : RelH NG ρ (heapD l HH D) w) (H1' : AH)
    (hn : H1'.n = (HH (i + 1)).n) (hold : ∀ b, b < (HH i).n → H1'.bk b = (heapD l HH D).bk b) (hnew : ∀ b, (HH i).n ≤ b → b < (HH (i + 1)).n → (heapD l HH D).bk b = H1'.bk b) :
    Step1 NG l HH D i ρ w ⟨(HH i).n, fun b => if b < (HH i).n then (heapD l HH D).bk b else none⟩ H1' := by
  have hTi : isTat l i = false := by rw [isTat_eq ho]; exact hT
  have hw := pOf_with (l := l) (D := D) hTi
  have heq : ∀ b, (heapD l HH (with_ D i)).bk b = (heapD l HH D).bk b := by
    intro b
    show (HH (max (pOf l (with_ D i)) (btOf HH l.length b))).bk b = (HH (max (pOf l D) (btOf HH l.length b))).bk b
    rw [hw]
  refine ⟨rfl, hn, hrel.view ?_ ?_, ?_, ?_, fun b _ _ => heq b⟩
  · intro b hb
    have hb' : (HH i).n ≤ b := hb
    simp only; rw [if_neg (by omega)]
  · intro b r _ hb
    have hb' : b < (HH i).n := hb
    simp only; rw [if_pos hb']
  · intro b hb
    simp only; rw [if_pos hb]
  · intro b hb
    rw [heq]
    rcases Nat.lt_or_ge b (HH i).n with h | h
    · exact (hold b h).symm
    · exact hnew b h hb

/-- A load finds what it finds in the text's order. -/
theorem Ready.load (hs : Seq P NG l E HH vs) {D : Nat → Bool} {i : Nat} (hr : Ready l D i) {o : AO} (ho : l[i]? = some o) {x : AX} (hx : clsOf o = .l x) (hxs : x ∈ xsOf o.op) {b ob : Nat} (hv : AM.ev (E i) x = some (.ptr b ob)) (hb : b < (HH i).n) :
    (heapD l HH D).bk b = (HH i).bk b := by
  show (HH (max (pOf l D) (btOf HH l.length b))).bk b = _
  have hbt := bt_old hs (Nat.le_of_lt hr.lt) hb
  have hbt' : b < (HH (btOf HH l.length b)).n := bt_lt hs (Nat.lt_of_lt_of_le hb (hs.mon (Nat.le_of_lt hr.lt) (Nat.le_refl _)).n)
  obtain ⟨p1, p2, p3⟩ := pOf_spec l D
  rcases Nat.lt_or_ge i (pOf l D) with hp | hp
  · rw [Nat.max_eq_left (by omega)]
    refine stays (Nat.le_of_lt hp) fun t h1 h2 => ?_
    cases hT : isTat l t with
    | false => exact hs.keeps_at (by omega) hT (Nat.lt_of_lt_of_le hb (hs.mon h1 (by omega)).n)
    | true =>
      have hlen : t < l.length := by omega
      have ha : l[t]? = some l[t] := List.getElem?_eq_getElem hlen
      have hne : t ≠ i := by
        intro e; subst e
        rw [isTat_eq ho] at hT
        unfold isT at hT; rw [hx] at hT; cases hT
      have hD := p3 t h2 hT
      have hf := free_cls (hr.behind i t o _ (by omega) hr.nd hD ho ha)
      rw [isTat_eq ha] at hT
      have hTt : clsOf l[t] = .t := by unfold isT at hT; split at hT <;> first | assumption | cases hT
      rw [hx, hTt] at hf
      obtain ⟨hg, hmid⟩ := hf
      obtain ⟨y, hy, hxy⟩ := List.any_eq_true.1 hg
      have := axEq_eq hxy; subst this
      rcases hs.step t _ ha with ⟨_, _, hh⟩ | ⟨_, _, _, hgd, _, _⟩
      · rw [hh]
      · refine guards_mem hgd x hy b (.inl ⟨ob, ?_⟩)
        rw [← hv]
        cases x with
        | c v => rfl
        | g n => rfl
        | t n =>
          obtain ⟨m1, m2⟩ := hmid n rfl
          -- nobody writes n between i and t
          have : ∀ k, i ≤ k → k ≤ t → AM.get (E k) n = AM.get (E i) n := by
            intro k hk1 hk2
            induction k with
            | zero => have : i = 0 := by omega
                      subst this; rfl
            | succ k ih =>
              by_cases e : i = k + 1
              · subst e; rfl
              · have hkl : k < l.length := by omega
                have hk : l[k]? = some l[k] := List.getElem?_eq_getElem hkl
                rw [hs.upd k _ hk, get_upd, ih (by omega) (by omega)]
                rw [if_neg]
                by_cases e2 : k = i
                · subst e2; rw [ho] at hk; cases hk; exact m2
                · have hmem : l[k] ∈ (l.drop (i + 1)).take (t - i - 1) := by
                    rw [List.mem_iff_getElem?]
                    refine ⟨k - (i + 1), ?_⟩
                    rw [List.getElem?_take, if_pos (by omega), List.getElem?_drop, ← hk]
                    congr 1; omega
                  simpa using List.all_eq_true.1 m1 _ hmem
          exact this t (by omega) (Nat.le_refl _)
  · have hq : max (pOf l D) (btOf HH l.length b) ≤ i := Nat.max_le.2 ⟨hp, hbt⟩
    refine (hs.flat hq (Nat.le_of_lt hr.lt) (fun t h1 h2 => ?_) (Nat.lt_of_lt_of_le hbt' (hs.mon (Nat.le_max_right _ _) (Nat.le_trans hq (Nat.le_of_lt hr.lt))).n)).symm
    cases hT : isTat l t with
    | false => rfl
    | true =>
      have hlen : t < l.length := Nat.lt_trans h2 hr.lt
      have ha : l[t]? = some l[t] := List.getElem?_eq_getElem hlen
      have hD : D t = false := by
        cases hD : D t with
        | false => rfl
        | true =>
          -- those that may change memory are done in order
          exfalso
          have hpt : pOf l D ≤ t := Nat.le_trans (Nat.le_max_left _ _) h1
          have hpl : pOf l D < l.length := by omega
          obtain ⟨k1, k2⟩ := p2 hpl
          have hne : pOf l D ≠ t := fun e => by rw [e, hD] at k2; cases k2
          have hpa : l[pOf l D]? = some l[pOf l D] := List.getElem?_eq_getElem hpl
          have hf := free_cls (hr.behind (pOf l D) t _ _ (by omega) k2 hD hpa ha)
          rw [isTat_eq hpa] at k1
          rw [isTat_eq ha] at hT
          unfold isT at k1 hT
          split at k1
          · rename_i e1
            split at hT
            · rename_i e2
              rw [e1, e2] at hf; exact hf
            · cases hT
          · cases k1
      have hf := free_cls (hr.ahead t _ o h2 hD ha ho)
      rw [isTat_eq ha] at hT
      have hTt : clsOf l[t] = .t := by unfold isT at hT; split at hT <;> first | assumption | cases hT
      rw [hx, hTt] at hf
      exact hf.elim


theorem Step1.go (hs : Seq P NG l E HH vs) (h0 : Wf (HH 0)) {D : Nat → Bool} {i : Nat} (hr : Ready l D i) {o : AO} (ho : l[i]? = some o) {e0 : Env} (he0 : E 0 = e0) {ρ0 ρ : Rho} {w0 w : World} {a : Act} {H1 H1' : AH}
    (hinv : Inv NG l HH vs e0 ρ0 w0 D ρ a.tmps w) (h0rel : RelH NG ρ0 (HH 0) w0) (h0fr : Fresh ρ0 (HH 0).n (HH l.length).n) (h1 : Step1 NG l HH D i ρ w H1 H1') {ρ' : Rho} {w' : World} {cv : Value} (ha : Adv ρ H1 w ρ' H1' w') (hrel' : RelH NG ρ' H1' w') (hv : VR ρ' (vs i) cv)
    {op : Oper} (hop : op.dst = o.d) (hdt : ∀ t, o.d = some t → t < a.tmps.size) : Inv NG l HH vs e0 ρ0 w0 (with_ D i) ρ' (a.put op.dst cv).tmps w' := by
  have hfr1 : Fresh ρ H1.n H1'.n := by
    rw [h1.n, h1.n']
    intro b hb1 hb2
    cases hq : ρ b with
    | none => rfl
    | some r =>
      rcases hinv.dom b r hq with h | ⟨j, hj, hjl, hj1, hj2⟩
      · have := h0fr b (Nat.le_trans (hs.mon (Nat.zero_le _) (Nat.le_of_lt hr.lt)).n hb1) (Nat.lt_of_lt_of_le hb2 (hs.mon hr.lt (Nat.le_refl _)).n)
        rw [this] at h; cases h
      · have hne : j ≠ i := fun e => by subst e; rw [hr.nd] at hj; cases hj
        rcases Nat.lt_or_ge j i with q | q
        · have := (hs.mon (show j + 1 ≤ i from q) (Nat.le_of_lt hr.lt)).n; omega
        · have := (hs.mon (show i + 1 ≤ j by omega) (Nat.le_of_lt hjl)).n; omega
  have hag : ∀ b r, ρ b = some r → b < H1.n → H1.bk b = (heapD l HH D).bk b := fun b r _ hb => h1.agree b (by rw [← h1.n]; exact hb)
  have hdom' : ∀ b r, ρ' b = some r → ρ b = some r ∨ ((HH i).n ≤ b ∧ b < (HH (i + 1)).n) := by
    intro b r hb
    obtain ⟨B, o', x⟩ := r
    rcases ha.new b B o' x hb with h | ⟨h2, h3, _⟩
    · exact .inl h
    · rw [h1.n] at h2; rw [h1.n'] at h3; exact .inr ⟨h2, h3⟩
  have hlen : ∀ b r, ρ b = some r → b < (HH l.length).n ∨ (ρ0 b = some r ∧ (HH l.length).n ≤ b) := by
    intro b r hb
    rcases hinv.dom b r hb with h | ⟨j, _, hjl, _, hj2⟩
    · rcases Nat.lt_or_ge b (HH l.length).n with q | q
      · exact .inl q
      · exact .inr ⟨h, q⟩
    · exact .inl (Nat.lt_of_lt_of_le hj2 (hs.mon hjl (Nat.le_refl _)).n)
  have hwf' := heapD_wf hs h0 (with_ D i)
  have hwfD := heapD_wf hs h0 D
  have hrel2 : RelH NG ρ' (heapD l HH (with_ D i)) w' := by
    refine hinv.rel.widen h1.rel hag ha hrel' hfr1 hwf' (fun b r _ hb => h1.new b (by rw [← h1.n']; exact hb)) (fun b r hb hb2 => ?_)
    rw [h1.n'] at hb2
    rcases hlen b r hb with h | ⟨_, h⟩
    · exact h1.rest b hb2 h
    · rw [hwf' b h, hwfD b h]
  have hfrw : Fr ρ (heapD l HH D) w w' := by
    refine ⟨ha.fr.os, ha.fr.tape, ha.fr.output, ha.fr.size, fun B hB hqt => ha.fr.heap B hB fun b3 o3 x3 k3 hb3 hk3 => ?_⟩
    have hlt3 : b3 < H1.n := by
      rcases Nat.lt_or_ge b3 H1.n with q3 | q3
      · exact q3
      · rw [h1.rel.wf b3 q3] at hk3; cases hk3
    rw [hag b3 _ hb3 hlt3] at hk3
    exact hqt b3 o3 x3 k3 hb3 hk3
  have hadv' : Adv ρ0 (HH 0) w0 ρ' (heapD l HH (with_ D i)) w' := by
    refine ⟨hinv.adv.sub.trans ha.sub, ?_, heapD_mon hs h0 _, ?_⟩
    · intro b B o' x hb
      rcases hdom' b _ hb with h | ⟨h2, h3⟩
      · rcases hinv.adv.new b B o' x h with h4 | h4
        · exact .inl h4
        · exact .inr h4
      · refine .inr ⟨Nat.le_trans (hs.mon (Nat.zero_le _) (Nat.le_of_lt hr.lt)).n h2, Nat.lt_of_lt_of_le h3 (hs.mon hr.lt (Nat.le_refl _)).n, ?_⟩
        rcases ha.new b B o' x hb with h4 | ⟨_, _, h4⟩
        · have := hfr1 b (by rw [h1.n]; exact h2) (by rw [h1.n']; exact h3)
          rw [this] at h4; cases h4
        · rcases Nat.lt_or_ge B w0.heap.size with hB | hB
          · right
            intro hqt
            rcases h4 with h4 | h4
            · have := hinv.adv.fr.size; omega
            · refine h4 fun b3 o3 x3 k3 hb3 hk3 => ?_
              have hlt3 : b3 < H1.n := by
                rcases Nat.lt_or_ge b3 H1.n with q3 | q3
                · exact q3
                · rw [h1.rel.wf b3 q3] at hk3; cases hk3
              rw [hag b3 _ hb3 hlt3] at hk3
              exact hinv.adv.quiet h0rel (show Fresh ρ0 (HH 0).n (heapD l HH D).n from h0fr) hB hqt b3 o3 x3 k3 hb3 hk3
          · exact .inl hB
    · refine ⟨hfrw.os.trans hinv.adv.fr.os, hfrw.tape.trans hinv.adv.fr.tape, hfrw.output.trans hinv.adv.fr.output, Nat.le_trans hinv.adv.fr.size hfrw.size, fun B hB hqt => ?_⟩
      rw [hfrw.heap B (Nat.lt_of_lt_of_le hB hinv.adv.fr.size) (hinv.adv.quiet h0rel (show Fresh ρ0 (HH 0).n (heapD l HH D).n from h0fr) hB hqt), hinv.adv.fr.heap B hB hqt]
  refine ⟨?_, hrel2, ?_, hadv'⟩
  · intro t x hx
    rw [hop]
    by_cases hd : o.d = some t
    · have hget := get_envOf_some e0 vs (with_ D i) t l 0 i o ho hd (by simp [with_same]) (fun j o' k1 k2 => hr.uniq j i o' o t k1 ho k2 hd)
      rw [hget] at hx
      simp only [Nat.zero_add, Option.some.injEq] at hx; subst hx
      refine ⟨cv, ?_, hv⟩
      rw [hd]; simp only [Act.put]
      rw [Array.getElem?_setIfInBounds_self, if_pos (hdt t hd)]
    · have hget := get_envOf_congr e0 vs (with_ D i) D t l 0 (fun j o' k1 k2 => by
        have : j ≠ i := fun e => by subst e; rw [ho] at k1; cases k1; exact hd k2
        rw [Nat.zero_add, with_ne D this])
      rw [hget] at hx
      obtain ⟨u, hu, hr'⟩ := hinv.env t x hx
      refine ⟨u, ?_, hr'.mono ha.sub⟩
      cases hd2 : o.d with
      | none => exact hu
      | some s =>
        simp only [Act.put]
        rw [Array.getElem?_setIfInBounds_ne (fun e => hd (by rw [hd2, e]))]; exact hu
  · intro b r hb
    rcases hdom' b r hb with h | ⟨h2, h3⟩
    · rcases hinv.dom b r h with h4 | ⟨j, hj, h5⟩
      · exact .inl h4
      · refine .inr ⟨j, ?_, h5⟩
        by_cases e : j = i
        · subst e; exact with_same D j
        · rw [with_ne D e]; exact hj
    · exact .inr ⟨i, with_same D i, hr.lt, h2, h3⟩

end
end Go.Proofs.YtdgmihohmkdpjaaDoor.AM
