/-
  Draws of whole machines. No condition.
-/
import Derived.Test.YtdgmihohmkdpjaaDoorAMza
namespace Go.Proofs.YtdgmihohmkdpjaaDoor.AM
set_option linter.unusedSimpArgs false
set_option linter.unusedVariables false
open Go

/-- All blocks up to now are as they were, but for those of a list. -/
def Only (bs : List Nat) (H H' : AH) : Prop := H.n ≤ H'.n ∧ ∀ b, b < H.n → b ∉ bs → H'.bk b = H.bk b
theorem Only.refl {bs H} : Only bs H H := ⟨Nat.le_refl _, fun _ _ _ => rfl⟩
theorem Only.trans {bs a b c} (h : Only bs a b) (k : Only bs b c) : Only bs a c := ⟨Nat.le_trans h.1 k.1, fun x hx hr => (k.2 x (Nat.lt_of_lt_of_le hx h.1) hr).trans (h.2 x hx hr)⟩
theorem Only.push {bs a b cs} (h : Only bs a b) : Only bs a (b.push cs) := ⟨Nat.le_succ_of_le h.1, fun x hx hr => by simp only [push_bk]; rw [if_neg (by have := h.1; omega)]; exact h.2 x hx hr⟩
theorem Only.put {bs a b x o} (h : Only bs a b) (hx : a.n ≤ x ∨ x ∈ bs) : Only bs a (b.put x o) := ⟨h.1, fun y hy hr => by
  simp only [put_bk]; rw [if_neg (by rintro rfl; rcases hx with hx | hx; omega; exact hr hx)]; exact h.2 y hy hr⟩
theorem St.only {r H H' bs} (h : St r H H') (hb : r ∈ bs) : Only bs H H' := ⟨h.1, fun x hx hr => h.2 x hx (by rintro rfl; exact hr hb)⟩
theorem Only.bk {bs H H' b o} (h : Only bs H H') (hb : b < H.n) (hr : b ∉ bs) (e : H.bk b = o) : H'.bk b = o := (h.2 b hb hr).trans e
theorem Only.st {r bs H G G'} (h : Only bs G G') (k : St r H G) (hb : ∀ b ∈ bs, b = r ∨ H.n ≤ b) : St r H G' := ⟨Nat.le_trans k.1 h.1, fun x hx hr => (h.2 x (Nat.lt_of_lt_of_le hx k.1) (fun hm => by
  rcases hb x hm with e | e
  · exact hr e
  · omega)).trans (k.2 x hx hr)⟩
theorem Ints_len {l : List Int} : (Ints l).length = l.length := by simp [Ints]
theorem splice_set : ∀ {l : List AV} {i : Nat} {x : AV}, i < l.length → splice l i [x] = l.set i x
  | [], _, _, h => by simp at h
  | a :: l, 0, x, _ => by simp [splice]
  | a :: l, i + 1, x, h => by
    have := splice_set (l := l) (i := i) (x := x) (by simpa using h)
    unfold splice at this ⊢
    have e : i + 1 + [x].length = (i + [x].length) + 1 := by omega
    rw [e]
    simp only [List.take_succ_cons, List.drop_succ_cons, List.cons_append, List.set_cons_succ]
    rw [this]
theorem Ints_set {l : List Int} {i : Nat} {x : Int} (h : i < l.length) : splice (Ints l) i [.I x] = Ints (l.set i x) := by
  rw [splice_set (by rw [Ints_len]; exact h)]
  unfold Ints; rw [List.map_set]

theorem load_bk {H : AH} {b o : Nat} {cs : List AV} {q : Bool} (h : H.bk b = some ⟨cs, q⟩) : H.load b o = cs[o]? := by unfold AH.load; rw [h]; rfl
theorem loadN_bk {H : AH} {b o n : Nat} {cs : List AV} {q : Bool} (h : H.bk b = some ⟨cs, q⟩) : H.loadN b o n = seg cs o n := by unfold AH.loadN; rw [h]; rfl
theorem store_bk {H : AH} {b o : Nat} {vs cs : List AV} (h : H.bk b = some ⟨cs, true⟩) (hl : o + vs.length ≤ cs.length) : H.store b o vs = some (H.put b (some ⟨splice cs o vs, true⟩)) := store_of h hl

theorem push_old {H : AH} {cs b o} (hb : b < H.n) (e : H.bk b = o) : (H.push cs).bk b = o := by simp only [push_bk]; rw [if_neg (by omega)]; exact e
theorem push_new {H : AH} {cs} : (H.push cs).bk H.n = some ⟨cs, true⟩ := by simp only [push_bk, if_true]
theorem put_same {H : AH} {b o} : (H.put b o).bk b = o := by simp
theorem put_other {H : AH} {b b' o o'} (hb : ¬ b = b') (e : H.bk b = o) : (H.put b' o').bk b = o := by simp [hb]; exact e
theorem SeesZ.off {H : AH} {l : List Int} {cap : ACap} {b o : Nat} {q : Bool} (hl : l.length ≤ 8589934592) (hb : b < H.n) (h : H.bk b = some ⟨Ints l, q⟩) (ho : o ≤ l.length) : SeesZ H (.sl b o (l.drop o).length cap) (l.drop o) :=
  ⟨rfl, by rw [List.length_drop]; omega, fun i x hx => ⟨b, o, rfl, hb, by rw [load_bk h]; rw [List.getElem?_drop] at hx; simp [Ints, hx]⟩⟩
theorem push_put1 {H : AH} {a cs cs' : List AV} : ((H.push a).push cs).put (H.n + 1) (some ⟨cs', true⟩) = (H.push a).push cs' := push_put
theorem push_put2 {H : AH} {a b cs cs' : List AV} : (((H.push a).push b).push cs).put (H.n + 1 + 1) (some ⟨cs', true⟩) = ((H.push a).push b).push cs' := push_put
theorem push_put3 {H : AH} {a b c cs cs' : List AV} : ((((H.push a).push b).push c).push cs).put (H.n + 1 + 1 + 1) (some ⟨cs', true⟩) = (((H.push a).push b).push c).push cs' := push_put

section
variable {H : AH} {K : AV → AH → Prop} {n p : Int} {r : Nat} {w : Fk K}
theorem K_sl94Machine_l0 {A B M : Nat} {pc : Int} {mem : AV} (hrB : r < B) (hrM : r < M) (hBM : B ≠ M) {Q : Out → Env → AH → Prop} (m i : Nat) (him : i + m = 8) {G : AH} {l : List Int}
    (nB : B < G.n) (nM : M < G.n)
    (gM : G.bk M = some ⟨[.sl B 0 32 (.ex 32), .I pc, mem], true⟩) (gB : G.bk B = some ⟨Ints l, true⟩) (hl : l.length = 32) {p : Int} (hR : Rdx G r p) (hp : p + 5 * m ≤ 1000000000000)
    (hQ : ∀ G' l', G'.bk M = some ⟨[.sl B 0 32 (.ex 32), .I pc, mem], true⟩ → G'.bk B = some ⟨Ints l', true⟩ → l'.length = 32 → Rdx G' r (p + 5 * m) → Only [r, B] G G' →
      Q (.brk 0) [(0, .ptr r 0), (2, .ptr A 0), (3, .ptr M 0), (4, .I 8), (14, .b false)] G') :
    W Cd (.loop c_sl94Machine_l0) [(0, .ptr r 0), (2, .ptr A 0), (3, .ptr M 0), (4, .I i)] G Q := by
  induction m generalizing i G l p with
  | zero =>
    rw [W_loop_as c_sl94Machine_l0.eq_1]
    have hi : i = 8 := by omega
    subst hi
    simp
    exact hQ G l gM gB hl (hR.up (by omega)) Only.refl
  | succ m ih =>
    rw [W_loop_as c_sl94Machine_l0.eq_1]
    have hlt : (i : Int) < 8 := by omega
    have hi : i < 32 := by omega
    simp (disch := omega) [hlt, load_bk gM]
    refine K_l91Word hR (by omega) fun x H1 hx hR1 hS1 => ?_
    have gM1 := hS1.at nM (by omega) gM
    have gB1 := hS1.at nB (by omega) gB
    have hst := store_bk (o := i) (vs := [.I x]) gB1 (by rw [Ints_len]; simp; omega)
    rw [Ints_set (by omega)] at hst
    have hMB : ¬ M = B := fun h => hBM h.symm
    simp (disch := omega) [gM, gM1, hst]
    have := @ih (i + 1) (by omega) (H1.put B (some ⟨Ints (l.set i x), true⟩)) (l.set i x) (Nat.lt_of_lt_of_le nB hS1.1) (Nat.lt_of_lt_of_le nM hS1.1) (by simp only [put_bk, hMB, if_false]; exact gM1)
      (by simp only [put_bk, if_true]) (by simpa using hl) (p + 5) (hR1.put hrB) (by omega) (fun G' l' a b c d e => hQ G' l' a b c (d.up (by omega)) (((hS1.only (by simp)).put (by simp)).trans e))
    simpa using this
/-- A slice of integers that grows by appending. -/
def MemS (base : Nat) (no : List Nat) (G : AH) (v : AV) (l : List Int) : Prop := ∃ b cap, v = .sl b 0 l.length cap ∧ base ≤ b ∧ b ∉ no ∧ b < G.n ∧ G.bk b = some ⟨Ints l, true⟩ ∧ (cap = .ex l.length ∨ cap = .lb l.length 1)
theorem seg_all {l : List Int} : seg (Ints l) 0 (l.length * 1) = some (Ints l) := by
  unfold seg; rw [Ints_len, if_pos (by omega), List.drop_zero, List.take_of_length_le (by rw [Ints_len]; omega)]
theorem MemS.app {base no} {G : AH} {v : AV} {l : List Int} {x : Int} (h : MemS base no G v l) (hl : l.length < 1000) (hn : ∀ y ∈ no, y < G.n) (hb : base ≤ G.n) :
    ∃ v' G', aapp G 1 v 1 [.I x] = some (v', G') ∧ MemS base no G' v' (l ++ [x]) ∧ G.n ≤ G'.n ∧ (∀ y, y < G.n → (y < base ∨ y ∈ no) → G'.bk y = G.bk y) ∧ v'.flat = true := by
  obtain ⟨b, cap, rfl, h1, h2, h3, h4, h5⟩ := h
  have e1 : Ints l ++ [.I x] = Ints (l ++ [x]) := by simp [Ints]
  have nn : G.n ∉ no := fun hm => by have := hn _ hm; omega
  rcases h5 with rfl | rfl
  · refine ⟨.sl G.n 0 (l.length + 1) (.lb (l.length + 1) 1), G.push (Ints l ++ [.I x]), ?_, ⟨G.n, .lb (l.length + 1) 1, by simp, hb, nn, Nat.lt_succ_self _, by rw [e1]; simp, .inr (by simp)⟩, Nat.le_succ _, fun y hy _ => ?_, rfl⟩
    · unfold aapp
      simp only
      rw [if_neg (show ¬ 1 = 0 by omega), if_neg (show ¬ big < l.length + 1 by unfold big; omega), if_neg (show ¬ l.length + 1 ≤ l.length by omega), loadN_bk h4, seg_all]
    · simp only [push_bk]; rw [if_neg (by omega)]
  · refine ⟨.sl G.n 0 (l.length + 1) (.lb (l.length + 1) 1), (G.put b none).push (Ints l ++ [.I x]), ?_, ⟨G.n, .lb (l.length + 1) 1, by simp, hb, nn, Nat.lt_succ_self _, by rw [e1]; simp, .inr (by simp)⟩, Nat.le_succ _, fun y hy hq => ?_, rfl⟩
    · unfold aapp
      simp only
      rw [if_neg (show ¬ 1 = 0 by omega), if_neg (show ¬ big < l.length + 1 by unfold big; omega), if_neg (show ¬ (1 ≠ 1) by omega), if_neg (show ¬ l.length + 1 ≤ l.length by omega), h4, loadN_bk h4, seg_all]
      simp
    · have hy' : ¬ y = (G.put b none).n := Nat.ne_of_lt hy
      simp only [push_bk, put_bk]; rw [if_neg hy', if_neg]; rintro rfl; rcases hq with hq | hq
      · omega
      · exact h2 hq
theorem MemS.far {base no} {G G' : AH} {v : AV} {l : List Int} {bs : List Nat} (h : MemS base no G v l) (k : Only bs G G') (hb : ∀ b ∈ bs, b < base ∨ b ∈ no) : MemS base no G' v l := by
  obtain ⟨b, cap, h0, h1, h2, h3, h4, h5⟩ := h
  refine ⟨b, cap, h0, h1, h2, Nat.lt_of_lt_of_le h3 k.1, k.bk h3 (fun hm => ?_) h4, h5⟩
  rcases hb b hm with q | q
  · omega
  · exact h2 q
theorem flat_cells {v : AV} (h : v.flat = true) : v.cells = [v] := by cases v <;> first | rfl | cases h
theorem flat_tup {v : AV} (h : v.flat = true) : v.isTup = false := by cases v <;> first | rfl | cases h
theorem Rdx.same {m : Int} {G G' : AH} (h : Rdx G r m) (hn : G.n ≤ G'.n) (k : ∀ b, b ≤ r → G'.bk b = G.bk b) : Rdx G' r m := by
  obtain ⟨p, h1, h2, h3, s, l, h4, h5⟩ := h
  refine ⟨p, h1, h2, by omega, s, l, (k r (Nat.le_refl _)).trans h4, h5.1, h5.2.1, fun i x hx => ?_⟩
  obtain ⟨q1, b', o', q2, q3, q4, q5⟩ := h5.2.2 i x hx
  exact ⟨q1, b', o', q2, q3, by omega, by rw [k b' (by omega)]; exact q5⟩
theorem K_sl94Machine_l1 {A B M base : Nat} {n : Int} {pc : Int} {regs : AV} (hnr : r < base) (hbA : base ≤ A) (hbB : base ≤ B) (hbM : base ≤ M) (hMA : ¬ M = A) (hMB : ¬ M = B)
    {Q : Out → Env → AH → Prop} (m i : Nat) (him : (i + m : Int) = n) (hm : i + m < 1000) {G : AH} {e : AV} {l : List Int} (hl : l.length ≤ i)
    (nM : M < G.n) (nB : B < G.n) (nA : A < G.n) (gM : G.bk M = some ⟨[regs, .I pc, e], true⟩) (hE : MemS base [A, B, M] G e l) {p : Int} (hR : Rdx G r p) (hp : p + 11 * m ≤ 999999999900)
    (hQ : ∀ G' e' l', l'.length = l.length + m → G'.bk M = some ⟨[regs, .I pc, e'], true⟩ → MemS base [A, B, M] G' e' l' → Rdx G' r (p + 11 * m) → G.n ≤ G'.n →
      (∀ y, (y < base ∧ y ≠ r) ∨ y = A ∨ y = B → G'.bk y = G.bk y) →
      Q (.brk 2) [(0, .ptr r 0), (2, .ptr A 0), (3, .ptr M 0), (5, .I n), (6, .I n), (28, .b false)] G') :
    W Cd (.loop c_sl94Machine_l1) [(0, .ptr r 0), (2, .ptr A 0), (3, .ptr M 0), (5, .I n), (6, .I i)] G Q := by
  induction m generalizing i G l p e with
  | zero =>
    rw [W_loop_as c_sl94Machine_l1.eq_1]
    have hi : (i : Int) = n := by omega
    simp [hi]
    exact hQ G e l (by simp) gM hE (hR.up (by omega)) (Nat.le_refl _) (fun _ _ => rfl)
  | succ m ih =>
    rw [W_loop_as c_sl94Machine_l1.eq_1]
    have hlt : (i : Int) < n := by omega
    simp (disch := omega) [hlt, load_bk gM]
    refine K_sl94Near hR (by omega) fun ins H1 hx hR1 hS1 => ?_
    have hrM : ¬ M = r := by omega
    have gM1 := hS1.at nM hrM gM
    simp (disch := omega) [gM, gM1]
    refine E_sl42Encode hx fun y H2 hE2 => ?_
    have n1 := hS1.1
    have n2 := hE2.1
    have gM2 : H2.bk M = _ := (hE2.2 _ (Nat.lt_of_lt_of_le nM hS1.1)).trans gM1
    have o1 : Only [r] G H2 := (hS1.only (by simp)).trans ⟨hE2.1, fun b hb _ => hE2.2 b hb⟩
    have o2 : Only [r] G (H2.push [.I (wrapM y)]) := o1.push
    have mem2 := hE.far o2 (by simp; exact .inl hnr)
    obtain ⟨v', G', a1, a2, a3, a4, a5⟩ := mem2.app (x := wrapM y) (by omega) (by simp; omega) (by simp; omega)
    have M2 : M < H2.n := by omega
    have nM2 : ¬ M = H2.n := by omega
    have gM3 : G'.bk M = some ⟨[regs, .I pc, e], true⟩ := (a4 M (Nat.lt_succ_of_lt M2) (.inr (by simp))).trans (by simp only [push_bk, nM2, if_false]; exact gM2)
    have hst := store_bk (o := 2) (vs := [v']) gM3 (by simp)
    simp (disch := omega) [hE2, K_sWrap, loadN_push, a1, flat_cells a5, flat_tup a5, hst]
    have a4' : ∀ b, b < H2.n → b < base ∨ b = A ∨ b = B → G'.bk b = H2.bk b := fun b hb hq => by
      rw [a4 b (Nat.lt_succ_of_lt hb) (by simp; omega)]
      simp only [push_bk]; rw [if_neg (by omega)]
    simp only [push_n] at a3
    have hR2 : Rdx G' r (p + 11) := (hR1.same n2 fun b hb => hE2.2 b (by have := hR1.lt; omega)).same (by omega) fun b hb => a4' b (by have := hR1.lt; omega) (by omega)
    have hr := hR2.lt
    have := ih (i + 1) (by push_cast; omega) (by omega) (e := v') (G := G'.put M (some ⟨[regs, .I pc, v'], true⟩)) (l := l ++ [wrapM y]) (by simp; omega) (by simp only [put_n]; omega) (by simp only [put_n]; omega) (by simp only [put_n]; omega)
      (by simp) (a2.far (bs := [M]) (Only.refl.put (by simp)) (by simp)) (hR2.same (by simp) fun b hb => by simp only [put_bk]; rw [if_neg (by omega)]) (by omega)
      (fun G2 e' l' q1 q2 q3 q4 q5 q6 => hQ G2 e' l' (by simp at q1; omega) q2 q3 (q4.up (by omega)) (by simp only [put_n] at q5; omega) (fun b hb => by
        rw [q6 b hb]
        have hbM : ¬ b = M := by omega
        have hbn : b < G.n := by omega
        simp only [put_bk, hbM, if_false]
        rw [a4' b (by omega) (by omega), hE2.2 b (by omega)]
        exact hS1.2 b hbn (by omega)))
    simpa using this
theorem rep_Ints {n : Nat} : List.replicate n (AV.I 0) = Ints (List.replicate n 0) := by simp [Ints]
theorem MemS.sees {base no} {G : AH} {v : AV} {l : List Int} (h : MemS base no G v l) (hl : l.length ≤ 8589934592) : SeesZ G v l := by
  obtain ⟨b, cap, rfl, h1, h2, h3, h4, h5⟩ := h
  exact SeesZ.of hl h3 h4
/-- The registers lie in a slice that is known to the end. -/
def Regs (base : Nat) (c : List AV) (m : Mach) : Prop := ∃ b o e, c = [.sl b o m.regs.length (.ex m.regs.length), .I m.pc, e] ∧ base ≤ b ∧ ∀ b' o' n', asSl e = some (b', o', n') → base ≤ b'
theorem SeesZ.put {H : AH} {v l b o} (h : SeesZ H v l) (k : ∀ b' o' n', asSl v = some (b', o', n') → b' ≠ b) : SeesZ (H.put b o) v l :=
  ⟨h.1, h.2.1, fun i x hx => let ⟨b1, o1, h1, h2, h3⟩ := h.2.2 i x hx; ⟨b1, o1, h1, h2, by unfold AH.load at h3 ⊢; simp only [put_bk]; rw [if_neg (k _ _ _ h1)]; exact h3⟩⟩
/-- A slice of integers that may be copied. -/
def Src (H : AH) (v : AV) (l : List Int) : Prop := l.length ≤ 8589934592 ∧ ((v = .nils ∧ l = []) ∨ (v = .esl ∧ l = []) ∨ ∃ b o c, v = .sl b o l.length c ∧ b < H.n ∧ H.loadN b o l.length = some (Ints l))
theorem Src.sees {H : AH} {v : AV} {l : List Int} (h : Src H v l) : SeesZ H v l := by
  obtain ⟨h0, h | h | ⟨b, o, c, rfl, hb, hl⟩⟩ := h
  · obtain ⟨rfl, rfl⟩ := h; exact SeesZ.nil rfl
  · obtain ⟨rfl, rfl⟩ := h; exact SeesZ.nil rfl
  · refine ⟨rfl, h0, fun i x hx => ⟨b, o, rfl, hb, ?_⟩⟩
    have hi := (List.getElem?_eq_some_iff.1 hx).1
    rw [loadN_at hl hi]; simp [Ints, hx]
theorem Src.flat {H : AH} {v : AV} {l : List Int} (h : Src H v l) : v.flat = true := by
  obtain ⟨h0, h | h | ⟨b, o, c, rfl, hb, hl⟩⟩ := h
  · rw [h.1]; rfl
  · rw [h.1]; rfl
  · rfl
theorem Src.elems {H : AH} {v : AV} {l : List Int} (h : Src H v l) : elems H 1 v = some (Ints l) := by
  obtain ⟨h0, h | h | ⟨b, o, c, rfl, hb, hl⟩⟩ := h
  · obtain ⟨rfl, rfl⟩ := h; rfl
  · obtain ⟨rfl, rfl⟩ := h; rfl
  · simpa [AM.elems] using hl
theorem Src.same {H H' : AH} {v : AV} {l : List Int} (h : Src H v l) (hn : H.n ≤ H'.n) (k : ∀ b o n, asSl v = some (b, o, n) → b < H.n → H'.bk b = H.bk b) : Src H' v l := by
  obtain ⟨h0, h | h | ⟨b, o, c, rfl, hb, hl⟩⟩ := h
  · exact ⟨h0, .inl h⟩
  · exact ⟨h0, .inr (.inl h)⟩
  · refine ⟨h0, .inr (.inr ⟨b, o, c, rfl, Nat.lt_of_lt_of_le hb hn, ?_⟩)⟩
    unfold AH.loadN at hl ⊢
    rw [k _ _ _ rfl hb]; exact hl
theorem Src.ext {H H' : AH} {v : AV} {l : List Int} (h : Src H v l) (k : Ext H H') : Src H' v l := h.same k.1 fun b o n _ hb => k.2 b hb
def SrcM (H : AH) (c : List AV) (m : Mach) : Prop := ∃ r e, c = [r, .I m.pc, e] ∧ Src H r m.regs ∧ Src H e m.mem
theorem SrcM.sees {H : AH} {c m} (h : SrcM H c m) : SeesM H c m := let ⟨r, e, h1, h2, h3⟩ := h; ⟨r, e, h1, h2.sees, h3.sees, h2.flat, h3.flat⟩
theorem SrcM.ext {H H' : AH} {c m} (h : SrcM H c m) (k : Ext H H') : SrcM H' c m := let ⟨r, e, h1, h2, h3⟩ := h; ⟨r, e, h1, h2.ext k, h3.ext k⟩
theorem MemS.src {base no} {G : AH} {v : AV} {l : List Int} (h : MemS base no G v l) (hl : l.length ≤ 8589934592) : Src G v l := by
  obtain ⟨b, cap, rfl, h1, h2, h3, h4, h5⟩ := h
  refine ⟨hl, .inr (.inr ⟨b, 0, cap, rfl, h3, ?_⟩)⟩
  rw [loadN_bk h4]; have := @seg_all l; simpa using this
theorem Src.off {H : AH} {l : List Int} {cap : ACap} {b o n : Nat} {q : Bool} (hl : l.length ≤ 8589934592) (hn : n = (l.drop o).length) (hb : b < H.n) (h : H.bk b = some ⟨Ints l, q⟩) (ho : o ≤ l.length) : Src H (.sl b o n cap) (l.drop o) := by
  subst hn
  refine ⟨by rw [List.length_drop]; omega, .inr (.inr ⟨b, o, cap, rfl, hb, ?_⟩)⟩
  rw [loadN_bk h]
  unfold seg
  rw [if_pos (by rw [Ints_len, List.length_drop]; omega)]
  congr 1
  unfold Ints
  rw [List.map_drop, List.take_of_length_le (by simp)]
theorem Regs.put {base b : Nat} {o} {H : AH} {c : List AV} {m : Mach} (h : Regs base c m) (k : SrcM H c m) (hb : b < base) : SrcM (H.put b o) c m := by
  obtain ⟨b1, o1, e, rfl, h1, h2⟩ := h
  obtain ⟨r', e', hc, k1, k2⟩ := k
  simp only [List.cons.injEq, and_true, true_and] at hc
  obtain ⟨rfl, rfl⟩ := hc
  exact ⟨_, _, rfl, k1.same (Nat.le_refl _) (fun b' o' n' q _ => by simp at q; simp only [put_bk]; rw [if_neg (by omega)]), k2.same (Nat.le_refl _) (fun b' o' n' q _ => by have := h2 _ _ _ q; simp only [put_bk]; rw [if_neg (by omega)])⟩
theorem K_sl94Machine {m : Int} (h : Rdx H r m) (hm : m ≤ 999999999000)
    (k : ∀ c (x : Mach) H', SrcM H' c x → Regs H.n c x → Rdx H' r (m + 200) → St r H H' → K (.agg c) H') : CallF Cd f_sl94Machine [.ptr r 0] H K w := by
  rw [CallF_eq e_sl94Machine rfl]
  have hrn := h.lt
  simp
  refine P_pick h.push.push (by omega) (by omega) fun x0 H0 hx0 hR0 hS0 => ?_
  have n0 := hS0.1
  simp only [push_n] at n0
  have gA0 : H0.bk H.n = some ⟨[.nils, .I 0, .nils], true⟩ := hS0.at (by simp only [push_n]; omega) (by omega) (by simp)
  have gB0 : H0.bk (H.n + 1) = some ⟨Ints (List.replicate 32 0), true⟩ := hS0.at (by simp only [push_n]; omega) (by omega) (by simp; rfl)
  simp (disch := omega) [gB0]
  refine ⟨rfl, ?_⟩
  simp [AH.store, push_put1]
  have hS1 : St r H ((H0.push []).push [.sl (H.n + 1) 0 32 (.ex 32), .i .i64 (4 * x0), .sl H0.n 0 0 (.ex 0)]) := (((St.push (St.push St.refl)).trans hS0).push).push
  refine K_sl94Machine_l0 (A := H.n) (B := H.n + 1) (M := H0.n + 1) (i := 1) (p := m + 1) (l := [0, 0, 0, 0, 0, 0, 0, 0, 0, 0, 0, 0, 0, 0, 0, 0, 0, 0, 0, 0, 0, 0, 0, 0, 0, 0, 0, 0, 0, 0, 0, 0]) (by omega) (by omega) (by omega) 7 (by omega) (by simp only [push_n]; omega) (by simp only [push_n]; omega) push_new
    (push_old (by simp only [push_n]; omega) (push_old (by omega) gB0)) (by simp) hR0.push.push (by omega) fun G1 l1 gM1 gB1 hl1 hR1 hO1 => ?_
  have n1 := hO1.1
  simp only [push_n] at n1
  have hS2 : St r H G1 := hO1.st hS1 (by simp)
  have gA1 : G1.bk H.n = some ⟨[.nils, .I 0, .nils], true⟩ := hO1.bk (by simp only [push_n]; omega) (by simp; omega) (push_old (by simp only [push_n]; omega) (push_old (by omega) gA0))
  have gC1 : G1.bk H0.n = some ⟨Ints [], true⟩ := hO1.bk (by simp only [push_n]; omega) (by simp; omega) (push_old (by simp only [push_n]; omega) push_new)
  simp
  refine P_pick hR1 (by omega) (by omega) fun x1 H2 hx1 hR2 hS3 => ?_
  have n2 := hS3.1
  simp (disch := omega)
  obtain ⟨mm, hmm⟩ : ∃ mm : Nat, 3 + x1 = mm := ⟨(3 + x1).toNat, by omega⟩
  rw [hmm]
  refine K_sl94Machine_l1 (A := H.n) (B := H.n + 1) (M := H0.n + 1) (base := H.n) (i := 0) (l := []) (p := m + 37) (by omega) (by omega) (by omega) (by omega) (by omega) (by omega) mm (by omega) (by omega) (by simp) (by omega) (by omega) (by omega)
    (hS3.at (by omega) (by omega) gM1) ⟨H0.n, .ex 0, rfl, by omega, by simp; omega, by omega, hS3.at (by omega) (by omega) gC1, .inl rfl⟩ (hR2.up (by omega)) (by omega) fun G3 e l2 hl2 gM3 mem3 hR3 n3 same3 => ?_
  have hS4 : St r H G3 := ⟨by have := hS2.1; omega, fun b hb hr => (same3 b (.inl ⟨hb, hr⟩)).trans ((hS2.trans hS3).2 b hb hr)⟩
  have gA3 := (same3 H.n (by simp)).trans (hS3.at (by omega) (by omega) gA1)
  have gB3 := (same3 (H.n + 1) (by simp)).trans (hS3.at (by omega) (by omega) gB1)
  simp
  refine P_pick (hR3.up (m' := m + 150) (by omega)) (by omega) (by omega) fun x2 H4 hx2 hR4 hS5 => ?_
  have n4 := hS5.1
  have gA4 := hS5.at (by omega) (by omega) gA3
  have gB4 := hS5.at (by omega) (by omega) gB3
  have gM4 := hS5.at (by omega) (by omega) gM3
  have mem4 := mem3.far (hS5.only (bs := [r]) (by simp)) (by simp; omega)
  have hS6 := hS4.trans hS5
  clear same3 gA3 gB3 gM3 mem3 hS4 gA1 gC1 gB1 gM1 gA0 gB0
  have hl2' : l2.length = mm := by simpa using hl2
  have qAM : ¬ H.n = H0.n + 1 := by omega
  have qMA : ¬ H0.n + 1 = H.n := by omega
  have qBM : ¬ H.n + 1 = H0.n + 1 := by omega
  have qMB : ¬ H0.n + 1 = H.n + 1 := by omega
  have fin : ∀ (G : AH) (o : Nat) (pc : Int) (e' : AV) (lf le : List Int) (nn : Nat), nn = (lf.drop o).length → G.bk (H0.n + 1) = some ⟨[.sl (H.n + 1) o nn (.ex nn), .I pc, e'], true⟩ → G.bk (H.n + 1) = some ⟨Ints lf, true⟩ → lf.length = 32 → o ≤ 32 →
      MemS H.n [H.n, H.n + 1, H0.n + 1] G e' le → le.length ≤ 1000 → Rdx G r (m + 152) → St r H G → H.n + 1 < G.n →
      K (.agg [.sl (H.n + 1) o nn (.ex nn), .I pc, e']) (G.put H.n (some ⟨[.sl (H.n + 1) o nn (.ex nn), .I pc, e'], true⟩)) := by
    intro G o pc e' lf le nn hnn g1 g2 g3 g3' g4 g5 g6 g7 g8
    subst hnn
    have g4' := g4.far (bs := [H.n]) (G' := G.put H.n (some ⟨[.sl (H.n + 1) o (lf.drop o).length (.ex (lf.drop o).length), .I pc, e'], true⟩)) (Only.refl.put (by simp)) (by simp)
    refine k _ ⟨lf.drop o, pc, le⟩ _ ⟨_, _, rfl, ?_, g4'.src (by omega)⟩ ⟨_, _, _, rfl, by omega, fun b' o' n' q => ?_⟩ ((g6.put hrn).up (by omega)) (g7.put (Nat.le_refl _))
    · exact Src.off (b := H.n + 1) (q := true) (by omega) rfl (by simpa using g8) (by simp; exact g2) (by omega)
    · obtain ⟨b, cap, rfl, hb, _⟩ := g4; simp at q; omega
  have d0 : 32 = (l1.drop 0).length := by simp [hl1]
  have d1 : 31 = (l1.drop 1).length := by simp [hl1]
  simp
  refine cnd_mk (fun q => ?_) (fun q => ?_)
  · have st := store_bk (o := 0) (vs := [.I 1]) gB4 (by rw [Ints_len]; simp; omega)
    rw [Ints_set (by omega)] at st
    simp [load_bk gM4, st, loadN_bk (put_other qMB gM4), store_bk (put_other (by omega : ¬ H.n = H.n + 1) gA4), loadN_bk (put_same)]
    refine fin _ 0 (4 * x0) e (l1.set 0 1) l2 32 (by simp [hl1]) (put_other qMB gM4) put_same (by simp [hl1]) (by omega) (mem4.far (bs := [H.n + 1]) (Only.refl.put (by simp)) (by simp)) (by omega) ((hR4.put (by omega)).up (by omega)) (hS6.put (by omega)) (by simp; omega)
  simp
  refine cnd_mk (fun q => ?_) (fun q => ?_)
  · simp (disch := omega)
    refine P_pick hR4.push (by omega) (by omega) fun x3 H5 hx3 hR5 hS7 => ?_
    have n5 := hS7.1
    simp only [push_n] at n5
    obtain ⟨y, hy, e5⟩ := @Ints_get [2, -4, 4 * mm, 2147483648] x3 4 (by omega) rfl
    have eb : H5.bk H4.n = some ⟨Ints [2, -4, 4 * mm, 2147483648], true⟩ := hS7.at (Nat.lt_succ_self _) (by omega) push_new
    have hS8 : St r H4 H5 := (St.push St.refl).trans hS7
    have gA5 := hS8.at (by omega) (by omega) gA4
    have gB5 := hS8.at (by omega) (by omega) gB4
    have gM5 := hS8.at (by omega) (by omega) gM4
    have mem5 := mem4.far (hS8.only (bs := [r]) (by simp)) (by simp; omega)
    simp (disch := omega) [load_eq, eb, e5, store_bk (o := 1) (vs := [.I y]) gM5 (by simp), loadN_bk (put_same), store_bk (o := 0) (vs := [.sl (H.n + 1) 0 32 (.ex 32), .I y, e]) (put_other qAM gA5) (by simp)]
    refine fin _ 0 y e l1 l2 32 d0 put_same (put_other qBM gB5) hl1 (by omega) (mem5.far (bs := [H0.n + 1]) (Only.refl.put (by simp)) (by simp)) (by omega) ((hR5.put (by omega)).up (by omega)) ((hS6.trans hS8).put (by omega)) (by simp; omega)
  simp
  refine cnd_mk (fun q => ?_) (fun q => ?_)
  · obtain ⟨b, cap, rfl, u1, u2, u3, u4, u5⟩ := mem4
    simp at u2
    rw [hl2'] at gM4
    have st := store_bk (o := (mm - 1)) (vs := [.I 0]) u4 (by rw [Ints_len]; simp; omega)
    rw [Ints_set (by omega)] at st
    simp (disch := omega) [load_bk gM4, hl2', st, loadN_bk (put_other (b' := b) (by omega) gM4), store_bk (o := 0) (vs := [.sl (H.n + 1) 0 32 (.ex 32), .I (4 * x0), .sl b 0 mm cap]) (put_other (b' := b) (by omega) gA4) (by simp), loadN_bk (put_same)]

    refine fin _ 0 (4 * x0) _ l1 (l2.set (mm - 1) 0) 32 d0 (put_other (by omega) gM4) (put_other (by omega) gB4) hl1 (by omega) ⟨b, cap, by simp [hl2'], u1, by simp; omega, u3, put_same, by simpa using u5⟩ (by simp; omega) ((hR4.put (by omega)).up (by omega)) (hS6.put (by omega)) (by simp; omega)
  simp
  refine cnd_mk (fun q => ?_) (fun q => ?_)
  · simp [load_bk gM4, store_bk gM4, aslice, bnd, aint, loadN_bk (put_same), store_bk (put_other qAM gA4)]
    refine fin _ 1 (4 * x0) e l1 l2 31 d1 put_same (put_other qBM gB4) hl1 (by omega) (mem4.far (bs := [H0.n + 1]) (Only.refl.put (by simp)) (by simp)) (by omega) ((hR4.put (by omega)).up (by omega)) (hS6.put (by omega)) (by simp; omega)
  simp [loadN_bk gM4, store_bk gA4, loadN_bk (put_same)]
  refine fin _ 0 (4 * x0) e l1 l2 32 d0 gM4 gB4 hl1 (by omega) mem4 (by omega) (hR4.up (by omega)) hS6 (by omega)
end
end Go.Proofs.YtdgmihohmkdpjaaDoor.AM
