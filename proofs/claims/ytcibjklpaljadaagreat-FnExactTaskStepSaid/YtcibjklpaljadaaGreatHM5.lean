/-
  The abstract machine and its walks, merged by program out of smaller texts (part 5). No condition.
-/
import Derived.Test.YtcibjklpaljadaaGreatHM4
import Derived.Deep.SlicePairs
import Derived.Lib.SmallJoins
import Derived.OpenShut
import Derived.ProofKit
import Derived.WalkKit
namespace Go.Proofs.YtcibjklpaljadaaGreat.AM
set_option linter.unusedSimpArgs false
set_option linter.unusedVariables false
set_option maxRecDepth 100000
open Go Go.RowKit Go.ChangeShapes Go.WideShapes Go.ChangeAt Go.Joins Go.Deep
section
variable {D0 : Type} {enc : TypeId × Value → D0} {P : Program} {w : World} {base : Nat} {held : Bool}
theorem open_row {ts ti : TypeId} {fuel : Nat} {u : Value} {y : DataW D0 × List MemPlace} (hs : P.underlying ts = some (.slice ti)) (hi : P.underlying ti = some (.int .i64)) (hc : P.cellsOf ti = 1)
    (h : DataW.trod enc P w base (fun _ => true) held fuel ts [u] = some y) : ∃ a len cap zs, u = .slice a len cap ∧ IsRow .i64 w a len cap zs := by
  rcases open_ints hs hi hc h with ⟨hcs, _⟩ | ⟨x, l, c, zs, hcs, _, hl, hm, hz, _, hcell, hwz⟩
  · simp only [List.cons.injEq, and_true] at hcs
    exact ⟨none, 0, 0, [], hcs, .inl ⟨rfl, rfl, rfl, rfl⟩⟩
  · simp only [List.cons.injEq, and_true] at hcs
    exact ⟨some x, l, c, zs, hcs, .inr ⟨x, rfl, hl, hm, by simpa using hz, hcell, hwz⟩⟩
instance : Inhabited BRow := ⟨⟨0, none, 0, 0, []⟩⟩
instance : Inhabited Qd := ⟨⟨0, 0, 0, 0, 0⟩⟩
theorem open_boxes {t e ti ts : TypeId} {f0 f1 : Field} {fuel : Nat} {u : Value} {x : DataW D0 × List MemPlace} (ht : P.underlying t = some (.slice e)) (he : P.underlying e = some (.struct #[f0, f1])) (hi : P.underlying ti = some (.int .i64)) (hs : P.underlying ts = some (.slice ti))
    (ce : P.cellsOf e = 2) (ci : P.cellsOf ti = 1) (cs : P.cellsOf ts = 1) (t0 : f0.type = ti ∧ f0.offset = 0) (t1 : f1.type = ts ∧ f1.offset = 1)
    (h : DataW.trod enc P w base (fun _ => true) held fuel t [u] = some x) : ∃ a len cap L, u = .slice a len cap ∧ IsBs w a len cap L := by
  rcases open_slice_pairs ht he ce t0.2 t1.2 (by rw [t0.1]; exact ci) (by rw [t1.1]; exact cs) h with ⟨hcs, _⟩ | ⟨a, len, cap, m, n, V0, V1, D0, D1, P0, P1, hcs, hb, hl, hm, hmm, _, hx⟩
  · simp only [List.cons.injEq, and_true] at hcs
    exact ⟨none, 0, 0, [], hcs, .inl ⟨rfl, rfl, rfl, rfl⟩⟩
  · simp only [List.cons.injEq, and_true] at hcs
    simp only [if_true] at hmm
    subst hmm
    have each : ∀ i, i < m → ∃ r : BRow, w.cell? (a.add (i * 2)) = some (.int .i64 r.room) ∧ w.cell? (a.add (i * 2 + 1)) = some (.slice r.a r.len r.cap) ∧ IsRow .i64 w r.a r.len r.cap r.zs := by
      intro i hi'
      obtain ⟨h1, h2, h3, h4⟩ := hx i hi'
      rw [t0.1] at h3
      rw [t1.1] at h4
      obtain ⟨z, e0, _⟩ := DataW.trod_int hi h3
      simp only [List.cons.injEq, and_true] at e0
      obtain ⟨a', l', c', zs, e1, hr⟩ := open_row hs hi ci h4
      exact ⟨⟨z, a', l', c', zs⟩, by rw [h1, e0], by rw [h2, e1], hr⟩
    obtain ⟨q, hq⟩ := choose_lt each
    refine ⟨some a, len, m, (List.range m).map q, hcs, .inr ⟨a, rfl, hl, hm, by simp, fun i r hi' => ?_⟩⟩
    have hlt := (List.getElem?_eq_some_iff.1 hi').1
    simp at hlt
    rw [List.getElem?_map, List.getElem?_range hlt] at hi'
    simp at hi'
    subst hi'
    exact hq i hlt
end
end Go.Proofs.YtcibjklpaljadaaGreat.AM
namespace Go.Proofs.YtcibjklpaljadaaGreat.AM
set_option linter.unusedSimpArgs false
set_option linter.unusedVariables false
set_option maxRecDepth 100000
set_option maxHeartbeats 4000000
open Go
attribute [-simp] AM.elems
def OEF (H : AH) : Exs → List AV → List Nat → Prop
  | .nil, cs, fp => cs = [] ∧ fp = []
  | .cons op n a r, cs, fp => ∃ v b ca fa cr fr, cs = .I op :: .I n :: v :: cr ∧ (OS H v b a.list.length 3 ca ∧ OEF H a ca fa) ∧ OEF H r cr fr ∧ fp = (grB v b ++ fa) ++ fr
def OE (H : AH) (v : AV) (a : Exs) (fp : List Nat) : Prop := ∃ b ca fa, OS H v b a.list.length 3 ca ∧ OEF H a ca fa ∧ fp = grB v b ++ fa
theorem OEF_cons {H : AH} {op n : Int} {a r : Exs} {cs : List AV} {fp : List Nat} : OEF H (.cons op n a r) cs fp ↔ ∃ v cr fa fr, cs = .I op :: .I n :: v :: cr ∧ OE H v a fa ∧ OEF H r cr fr ∧ fp = fa ++ fr :=
  ⟨fun ⟨v, b, ca, fa, cr, fr, h1, ⟨h2, h3⟩, h4, h5⟩ => ⟨v, cr, _, fr, h1, ⟨b, ca, fa, h2, h3, rfl⟩, h4, h5⟩, fun ⟨v, cr, fa, fr, h1, ⟨b, ca, f, h2, h3, h4⟩, h5, h6⟩ => ⟨v, b, ca, f, cr, fr, h1, ⟨h2, h3⟩, h5, by rw [h6, h4]⟩⟩
theorem OEF.only {H H' : AH} {bs : List Nat} (k : Only bs H H') : ∀ {f : Exs} {cs fp}, OEF H f cs fp → (∀ x ∈ fp, x ∉ bs) → OEF H' f cs fp
  | .nil, _, _, h, _ => h
  | .cons _ _ _ _, _, _, ⟨v, b, ca, fa, cr, fr, h1, ⟨h2, h3⟩, h4, h5⟩, hx => by
    subst h5
    exact ⟨v, b, ca, fa, cr, fr, h1, ⟨h2.only k (fun x hm => hx x (by simp [hm])), OEF.only k h3 (fun x hm => hx x (by simp [hm]))⟩, OEF.only k h4 (fun x hm => hx x (by simp [hm])), rfl⟩
theorem OE.only {H H' : AH} {bs : List Nat} {v a fp} (h : OE H v a fp) (k : Only bs H H') (hx : ∀ x ∈ fp, x ∉ bs) : OE H' v a fp := by
  obtain ⟨b, ca, fa, h1, h2, rfl⟩ := h
  exact ⟨b, ca, fa, h1.only k (fun x hm => hx x (by simp [hm])), h2.only k (fun x hm => hx x (by simp [hm])), rfl⟩
theorem OE.ext {H H' v a fp} (h : OE H v a fp) (k : Ext H H') : OE H' v a fp := h.only (bs := []) k.only (by simp)
theorem OEF.ext {H H' v a fp} (h : OEF H v a fp) (k : Ext H H') : OEF H' v a fp := h.only (bs := []) k.only (by simp)
theorem OEF.mem {H : AH} : ∀ {f : Exs} {cs fp}, OEF H f cs fp → ∀ x ∈ fp, x < H.n
  | .nil, _, _, ⟨_, h⟩, x, hx => by subst h; simp at hx
  | .cons _ _ _ _, _, _, ⟨v, b, ca, fa, cr, fr, h1, ⟨h2, h3⟩, h4, h5⟩, x, hx => by
    subst h5
    simp only [List.mem_append] at hx
    rcases hx with (hx | hx) | hx
    · have := h2.mem hx; omega
    · exact OEF.mem h3 x hx
    · exact OEF.mem h4 x hx
theorem OE.mem {H : AH} {v a fp} (h : OE H v a fp) : ∀ x ∈ fp, x < H.n := by
  obtain ⟨b, ca, fa, h1, h2, rfl⟩ := h
  intro x hx
  rcases List.mem_append.1 hx with hx | hx
  · have := h1.mem hx; omega
  · exact h2.mem x hx
theorem OEF.ef {ok : Nat → Prop} {H : AH} : ∀ {f : Exs} {cs fp}, OEF H f cs fp → (∀ x ∈ fp, ok x) → EF ok H f cs
  | .nil, _, _, ⟨h, _⟩, _ => h
  | .cons _ _ _ _, _, _, ⟨v, b, ca, fa, cr, fr, h1, ⟨h2, h3⟩, h4, h5⟩, hx => by
    subst h5
    exact ⟨v, ca, cr, h1, h2.slc (fun hv => hx b (by cases v <;> simp [grB] at hv ⊢)), OEF.ef h3 (fun x hm => hx x (by simp [hm])), OEF.ef h4 (fun x hm => hx x (by simp [hm]))⟩
theorem OE.ev {ok : Nat → Prop} {H : AH} {v a fp} (h : OE H v a fp) (hx : ∀ x ∈ fp, ok x) : EV ok H v a := by
  obtain ⟨b, ca, fa, h1, h2, rfl⟩ := h
  exact ⟨ca, h1.slc (fun hv => hx b (by cases v <;> simp [grB] at hv ⊢)), h2.ef (fun x hm => hx x (by simp [hm]))⟩
theorem OE.evT {H : AH} {v a fp} (h : OE H v a fp) : EV (fun _ => True) H v a := h.ev fun _ _ => trivial
theorem OE.flat {H v a fp} (h : OE H v a fp) : v.flat = true := h.evT.flat
theorem OE.alen {H v a fp} (h : OE H v a fp) : AM.alen v = some a.list.length := h.evT.alen
theorem OEF.len {H f cs fp} (h : OEF H f cs fp) : cs.length = f.list.length * 3 := (h.ef (ok := fun _ => True) fun _ _ => trivial).len
theorem OEF.app {H : AH} : ∀ {f : Exs} {cs fp} {g : Exs} {cg fg}, OEF H f cs fp → OEF H g cg fg → OEF H (Exs.of (f.list ++ g.list)) (cs ++ cg) (fp ++ fg)
  | .nil, _, _, g, cg, fg, ⟨h1, h2⟩, k => by subst h1 h2; simpa [Exs.of_list] using k
  | .cons _ _ _ _, _, _, g, cg, fg, ⟨v, b, ca, fa, cr, fr, h1, h2, h4, h5⟩, k => by
    subst h1 h5
    exact ⟨v, b, ca, fa, cr ++ cg, fr ++ fg, by simp, h2, OEF.app h4 k, by simp⟩
theorem OEF.one {H : AH} {op n : Int} {a : Exs} {v fa} (h : OE H v a fa) : OEF H (.cons op n a .nil) [.I op, .I n, v] fa := OEF_cons.2 ⟨v, [], fa, [], rfl, h, ⟨rfl, rfl⟩, by simp⟩
theorem OEF.snoc {H : AH} {l : List Ex} {cs fp} {op n : Int} {a : Exs} {v fa} (h : OEF H (Exs.of l) cs fp) (k : OE H v a fa) : OEF H (Exs.of (l ++ [⟨op, n, a⟩])) (cs ++ [.I op, .I n, v]) (fp ++ fa) := by
  have := h.app (OEF.one (op := op) (n := n) k)
  rwa [Exs.list_of] at this
theorem OE.nils {H : AH} : OE H .nils .nil [] := ⟨0, [], [], ⟨by simp, rfl, .inl ⟨rfl, rfl⟩⟩, ⟨rfl, rfl⟩, rfl⟩

def OSF (H : AH) : Sts → List AV → List Nat → Prop
  | .nil, cs, fp => cs = [] ∧ fp = []
  | .cons k v b e y z r, cs, fp => ∃ va vy vz fa by_ cy fy bz cz fz cr fr, cs = .I k :: .I v :: .I b :: .I e.op :: .I e.n :: va :: vy :: vz :: cr ∧ OE H va e.args fa ∧ (OS H vy by_ y.list.length 8 cy ∧ OSF H y cy fy) ∧ (OS H vz bz z.list.length 8 cz ∧ OSF H z cz fz) ∧ OSF H r cr fr ∧ fp = (fa ++ ((grB vy by_ ++ fy) ++ (grB vz bz ++ fz))) ++ fr
def OT (H : AH) (v : AV) (f : Sts) (fp : List Nat) : Prop := ∃ b cs f1, OS H v b f.list.length 8 cs ∧ OSF H f cs f1 ∧ fp = grB v b ++ f1
theorem OSF_cons {H : AH} {k v b : Int} {e : Ex} {y z r : Sts} {cs : List AV} {fp : List Nat} : OSF H (.cons k v b e y z r) cs fp ↔ ∃ va vy vz cr fa fy fz fr, cs = .I k :: .I v :: .I b :: .I e.op :: .I e.n :: va :: vy :: vz :: cr ∧ OE H va e.args fa ∧ OT H vy y fy ∧ OT H vz z fz ∧ OSF H r cr fr ∧ fp = (fa ++ (fy ++ fz)) ++ fr :=
  ⟨fun ⟨va, vy, vz, fa, b1, cy, fy, b2, cz, fz, cr, fr, h1, h2, ⟨h3, h4⟩, ⟨h5, h6⟩, h7, h8⟩ => ⟨va, vy, vz, cr, fa, _, _, fr, h1, h2, ⟨b1, cy, fy, h3, h4, rfl⟩, ⟨b2, cz, fz, h5, h6, rfl⟩, h7, h8⟩,
   fun ⟨va, vy, vz, cr, fa, fy, fz, fr, h1, h2, ⟨b1, cy, f1, h3, h4, e1⟩, ⟨b2, cz, f2, h5, h6, e2⟩, h7, h8⟩ => ⟨va, vy, vz, fa, b1, cy, f1, b2, cz, f2, cr, fr, h1, h2, ⟨h3, h4⟩, ⟨h5, h6⟩, h7, by rw [h8, e1, e2]⟩⟩
theorem OSF.only {H H' : AH} {bs : List Nat} (k : Only bs H H') : ∀ {f : Sts} {cs fp}, OSF H f cs fp → (∀ x ∈ fp, x ∉ bs) → OSF H' f cs fp
  | .nil, _, _, h, _ => h
  | .cons _ _ _ _ _ _ _, _, _, ⟨va, vy, vz, fa, b1, cy, fy, b2, cz, fz, cr, fr, h1, h2, ⟨h3, h4⟩, ⟨h5, h6⟩, h7, h8⟩, hx => by
    subst h8
    exact ⟨va, vy, vz, fa, b1, cy, fy, b2, cz, fz, cr, fr, h1, h2.only k (fun x hm => hx x (by simp [hm])), ⟨h3.only k (fun x hm => hx x (by simp [hm])), OSF.only k h4 (fun x hm => hx x (by simp [hm]))⟩,
      ⟨h5.only k (fun x hm => hx x (by simp [hm])), OSF.only k h6 (fun x hm => hx x (by simp [hm]))⟩, OSF.only k h7 (fun x hm => hx x (by simp [hm])), rfl⟩
theorem OT.only {H H' : AH} {bs : List Nat} {v a fp} (h : OT H v a fp) (k : Only bs H H') (hx : ∀ x ∈ fp, x ∉ bs) : OT H' v a fp := by
  obtain ⟨b, ca, fa, h1, h2, rfl⟩ := h
  exact ⟨b, ca, fa, h1.only k (fun x hm => hx x (by simp [hm])), h2.only k (fun x hm => hx x (by simp [hm])), rfl⟩
theorem OT.ext {H H' v a fp} (h : OT H v a fp) (k : Ext H H') : OT H' v a fp := h.only (bs := []) k.only (by simp)
theorem OSF.ext {H H' v a fp} (h : OSF H v a fp) (k : Ext H H') : OSF H' v a fp := h.only (bs := []) k.only (by simp)
theorem OSF.mem {H : AH} : ∀ {f : Sts} {cs fp}, OSF H f cs fp → ∀ x ∈ fp, x < H.n
  | .nil, _, _, ⟨_, h⟩, x, hx => by subst h; simp at hx
  | .cons _ _ _ _ _ _ _, _, _, ⟨va, vy, vz, fa, b1, cy, fy, b2, cz, fz, cr, fr, h1, h2, ⟨h3, h4⟩, ⟨h5, h6⟩, h7, h8⟩, x, hx => by
    subst h8
    simp only [List.mem_append] at hx
    rcases hx with (hx | (hx | hx) | hx | hx) | hx
    · exact h2.mem x hx
    · have := h3.mem hx; omega
    · exact OSF.mem h4 x hx
    · have := h5.mem hx; omega
    · exact OSF.mem h6 x hx
    · exact OSF.mem h7 x hx
theorem OT.mem {H : AH} {v a fp} (h : OT H v a fp) : ∀ x ∈ fp, x < H.n := by
  obtain ⟨b, ca, fa, h1, h2, rfl⟩ := h
  intro x hx
  rcases List.mem_append.1 hx with hx | hx
  · have := h1.mem hx; omega
  · exact h2.mem x hx
theorem OSF.sf {ok : Nat → Prop} {H : AH} : ∀ {f : Sts} {cs fp}, OSF H f cs fp → (∀ x ∈ fp, ok x) → SF ok H f cs
  | .nil, _, _, ⟨h, _⟩, _ => h
  | .cons _ _ _ _ _ _ _, _, _, ⟨va, vy, vz, fa, b1, cy, fy, b2, cz, fz, cr, fr, h1, h2, ⟨h3, h4⟩, ⟨h5, h6⟩, h7, h8⟩, hx => by
    subst h8
    exact ⟨va, vy, vz, cy, cz, cr, h1, h2.ev (fun x hm => hx x (by simp [hm])), h3.slc (fun hv => hx b1 (by cases vy <;> simp [grB] at hv ⊢)), OSF.sf h4 (fun x hm => hx x (by simp [hm])),
      h5.slc (fun hv => hx b2 (by cases vz <;> simp [grB] at hv ⊢)), OSF.sf h6 (fun x hm => hx x (by simp [hm])), OSF.sf h7 (fun x hm => hx x (by simp [hm]))⟩
theorem OT.sv {ok : Nat → Prop} {H : AH} {v a fp} (h : OT H v a fp) (hx : ∀ x ∈ fp, ok x) : SV ok H v a := by
  obtain ⟨b, ca, fa, h1, h2, rfl⟩ := h
  exact ⟨ca, h1.slc (fun hv => hx b (by cases v <;> simp [grB] at hv ⊢)), h2.sf (fun x hm => hx x (by simp [hm]))⟩
theorem OT.svT {H : AH} {v a fp} (h : OT H v a fp) : SV (fun _ => True) H v a := h.sv fun _ _ => trivial
theorem OT.flat {H v a fp} (h : OT H v a fp) : v.flat = true := h.svT.flat
theorem OT.alen {H v a fp} (h : OT H v a fp) : AM.alen v = some a.list.length := h.svT.alen
theorem OSF.len {H f cs fp} (h : OSF H f cs fp) : cs.length = f.list.length * 8 := (h.sf (ok := fun _ => True) fun _ _ => trivial).len
theorem OSF.app {H : AH} : ∀ {f : Sts} {cs fp} {g : Sts} {cg fg}, OSF H f cs fp → OSF H g cg fg → OSF H (Sts.of (f.list ++ g.list)) (cs ++ cg) (fp ++ fg)
  | .nil, _, _, g, cg, fg, ⟨h1, h2⟩, k => by subst h1 h2; simpa [Sts.of_list] using k
  | .cons _ _ _ _ _ _ _, _, _, g, cg, fg, ⟨va, vy, vz, fa, b1, cy, fy, b2, cz, fz, cr, fr, h1, h2, h3, h5, h7, h8⟩, k => by
    subst h1 h8
    exact ⟨va, vy, vz, fa, b1, cy, fy, b2, cz, fz, cr ++ cg, fr ++ fg, by simp, h2, h3, h5, OSF.app h7 k, by simp⟩
def O1 (H : AH) (c : List AV) (s : St1) (fp : List Nat) : Prop := ∃ va vy vz fa fy fz, c = [.I s.k, .I s.v, .I s.b, .I s.e.op, .I s.e.n, va, vy, vz] ∧ OE H va s.e.args fa ∧ OT H vy s.body fy ∧ OT H vz s.els fz ∧ fp = fa ++ (fy ++ fz)
theorem O1.one {H c s fp} (h : O1 H c s fp) : OSF H (Sts.of [s]) c fp := by
  obtain ⟨va, vy, vz, fa, fy, fz, h1, h2, h3, h4, h5⟩ := h
  exact OSF_cons.2 ⟨va, vy, vz, [], fa, fy, fz, [], h1, h2, h3, h4, ⟨rfl, rfl⟩, by simp [h5]⟩
theorem OSF.snoc {H : AH} {l : List St1} {cs fp c s fa} (h : OSF H (Sts.of l) cs fp) (k : O1 H c s fa) : OSF H (Sts.of (l ++ [s])) (cs ++ c) (fp ++ fa) := by
  have := h.app k.one
  rwa [Sts.list_of, Sts.list_of] at this
theorem OT.nils {H : AH} : OT H .nils .nil [] := ⟨0, [], [], ⟨by simp, rfl, .inl ⟨rfl, rfl⟩⟩, ⟨rfl, rfl⟩, rfl⟩

def nE : Exs → Nat
  | .nil => 0
  | .cons _ _ a r => 1 + nE a + nE r
def nS : Sts → Nat
  | .nil => 0
  | .cons _ _ _ e y z r => 1 + nE e.args + nS y + nS z + nS r
def mS : Sts → Nat
  | .nil => 0
  | .cons _ _ _ e y z r => 5 + 2 * nE e.args + mS y + mS z + mS r
def mkE : Int → Exs → Exs
  | _, .nil => .nil
  | k, .cons _ _ a r => .cons k (k + 1) (mkE (k + 2) a) (mkE (k + 2 + 2 * nE a) r)
def mkS : Int → Sts → Sts
  | _, .nil => .nil
  | k, .cons _ _ _ e y z r => .cons k (k + 1) (k + 2) ⟨k + 3, k + 4, mkE (k + 5) e.args⟩ (mkS (k + 5 + 2 * nE e.args) y) (mkS (k + 5 + 2 * nE e.args + mS y) z) (mkS (k + 5 + 2 * nE e.args + mS y + mS z) r)
theorem mkE_len : ∀ {f : Exs} {k : Int}, (mkE k f).list.length = f.list.length
  | .nil, _ => rfl
  | .cons _ _ a r, k => by simp [mkE, mkE_len (f := r)]
theorem mkS_len : ∀ {f : Sts} {k : Int}, (mkS k f).list.length = f.list.length
  | .nil, _ => rfl
  | .cons _ _ _ e y z r, k => by simp [mkS, mkS_len (f := r)]
theorem mS_le : ∀ {f : Sts}, mS f ≤ 5 * nS f
  | .nil => Nat.le_refl _
  | .cons _ _ _ e y z r => by
    have h1 := mS_le (f := y)
    have h2 := mS_le (f := z)
    have h3 := mS_le (f := r)
    simp only [mS, nS]; omega
theorem len_nE : ∀ {f : Exs}, f.list.length ≤ nE f
  | .nil => Nat.le_refl _
  | .cons _ _ a r => by have := len_nE (f := r); simp only [Exs.list, List.length_cons, nE]; omega
theorem len_nS : ∀ {f : Sts}, f.list.length ≤ nS f
  | .nil => Nat.le_refl _
  | .cons _ _ _ e y z r => by have := len_nS (f := r); simp only [Sts.list, List.length_cons, nS]; omega
theorem ctS_nS : ∀ {f : Sts}, ctS f ≤ nS f
  | .nil => Nat.le_refl _
  | .cons _ _ _ e y z r => by
    have h1 := ctS_nS (f := y)
    have h2 := ctS_nS (f := z)
    have h3 := ctS_nS (f := r)
    simp only [ctS, nS]; omega
end Go.Proofs.YtcibjklpaljadaaGreat.AM
namespace Go.Proofs.YtcibjklpaljadaaGreat.AM
set_option linter.unusedSimpArgs false
set_option linter.unusedVariables false
set_option maxRecDepth 100000
set_option maxHeartbeats 4000000
open Go
attribute [-simp] AM.elems
def ToE (f : Exs) : Prop := ∀ {ok : Nat → Prop} {H : AH} {K : AV → AH → Prop} {w : Fk K} {v : AV}, EV ok H v f →
  (∀ v' fp H', OE H' v' f fp → fp.Nodup → (∀ x ∈ fp, H.n ≤ x) → Ext H H' → K v' H') → CallF Cd f_wtoExprS [v] H K w
theorem K_wtoExpr {a : Exs} (hT : ToE a) {ok : Nat → Prop} {H : AH} {K : AV → AH → Prop} {w : Fk K} {v : AV} {op n : Int} (h : EV ok H v a)
    (k : ∀ v' fp H', OE H' v' a fp → fp.Nodup → (∀ x ∈ fp, H.n ≤ x) → Ext H H' → K (.agg [.I op, .I n, v']) H') : CallF Cd f_wtoExpr [.agg [.I op, .I n, v]] H K w := by
  rw [CallF_eq e_wtoExpr rfl]
  have x1 : Ext H (((H.push [.I op, .I n, v]).push [.I 0, .I 0, .nils]).push [.I op, .I n, .nils]) := (Ext.push _ _).trans ((Ext.push _ _).trans (Ext.push _ _))
  simp (disch := omega) [load_push, AH.store, loadN_push, push_put2, push_put]
  refine hT (h.ext x1) fun v' fp H1 o nd lo x2 => ?_
  have n2 := x2.1
  simp only [push_n] at n2 lo
  have q2 : H1.bk (H.n + 1 + 1) = some ⟨[.I op, .I n, .nils], true⟩ := (x2.2 _ (by simp)).trans push_new
  have q1 : H1.bk (H.n + 1) = some ⟨[.I 0, .I 0, .nils], true⟩ := (x2.2 _ (by simp)).trans (push_old (by simp) push_new)
  have st : H1.store (H.n + 1 + 1) 2 [v'] = some (H1.put (H.n + 1 + 1) (some ⟨[.I op, .I n, v'], true⟩)) := store_bk q2 (by simp)
  have q1' : (H1.put (H.n + 1 + 1) (some ⟨[.I op, .I n, v'], true⟩)).bk (H.n + 1) = some ⟨[.I 0, .I 0, .nils], true⟩ := by rw [put_bk, if_neg (by omega)]; exact q1
  have st2 : (H1.put (H.n + 1 + 1) (some ⟨[.I op, .I n, v'], true⟩)).store (H.n + 1) 0 [.I op, .I n, v'] = some ((H1.put (H.n + 1 + 1) (some ⟨[.I op, .I n, v'], true⟩)).put (H.n + 1) (some ⟨[.I op, .I n, v'], true⟩)) := store_bk q1' (by simp)
  have fv := o.flat
  simp [flat_cells fv, flat_tup fv, st, loadN_bk put_same, st2]
  have on : Only [H.n + 1, H.n + 1 + 1] H1 ((H1.put (H.n + 1 + 1) (some ⟨[.I op, .I n, v'], true⟩)).put (H.n + 1) (some ⟨[.I op, .I n, v'], true⟩)) := (Only.refl.put (by simp)).put (by simp)
  refine k v' fp _ (o.only on fun x hx => by have := lo x hx; simp; omega) nd (fun x hx => by have := lo x hx; omega) (((x1.trans x2).put (by omega)).put (by omega))
theorem K_wtoExprS_l {ok : Nat → Prop} {H0 : AH} {v : AV} {a : Exs} (ih : ∀ e ∈ a.list, ToE e.args) {B : Nat} (h : EV ok H0 v a) {Q : Out → Env → AH → Prop} (hB : H0.n ≤ B)
    (hQ : ∀ e G' ca fa, Ext H0 G' → B < G'.n → G'.bk B = some ⟨ca, true⟩ → OEF G' a ca fa → fa.Nodup → (∀ x ∈ fa, B < x) → get e 3 = some (.sl B 0 a.list.length (.ex a.list.length)) → Q (.brk 0) e G')
    (suf : List Ex) : ∀ (pre : List Ex) (hl : a.list = pre ++ suf) {G : AH} (cs : List AV) (fp : List Nat) (hx : Ext H0 G) (hBn : B < G.n) (hb : G.bk B = some ⟨cs, true⟩) (hc : cs.length = a.list.length * 3) (hd : OEF G (Exs.of pre) (cs.take (pre.length * 3)) fp) (hn : fp.Nodup) (hf : ∀ x ∈ fp, B < x),
    W Cd (.loop c_wtoExprS_l0) [(0, v), (3, .sl B 0 a.list.length (.ex a.list.length)), (4, .I pre.length)] G Q := by
  have hbig := h.big
  have hal := h.alen
  induction suf with
  | nil =>
    intro pre hl G cs fp hx hBn hb hc hd hn hf
    rw [W_loop_as c_wtoExprS_l0.eq_1]
    simp only [List.append_nil] at hl
    rw [← hl, List.take_of_length_le (by omega), Exs.of_list] at hd
    rw [← hl]
    simp [hal]
    exact hQ _ G cs fp hx hBn hb hd hn hf rfl
  | cons e suf ihs =>
    intro pre hl G cs fp hx hBn hb hc hd hn hf
    rw [W_loop_as c_wtoExprS_l0.eq_1]
    have hlen : a.list.length = pre.length + (suf.length + 1) := by rw [hl]; simp
    have hlt' : (pre.length : Int) < a.list.length := by omega
    have hq : a.list[pre.length]? = some e := by rw [hl]; simp
    have hmem : e ∈ a.list := List.mem_of_getElem? hq
    obtain ⟨b, o, cap, va, e1, ob, hbn, l1, ev⟩ := (h.ext hx).at hq
    subst e1
    simp (disch := omega) [hlt', l1]
    refine K_wtoExpr (ih e hmem) ev fun v' fa H2 o2 nd lo x2 => ?_
    have n2 := x2.1
    have b2 := (x2.2 B hBn).trans hb
    have f2 := o2.flat
    have st := store_bk (o := pre.length * 3) (vs := [.I e.op, .I e.n, v']) b2 (by simp; omega)
    have on : Only [B] H2 (H2.put B (some ⟨splice cs (pre.length * 3) [.I e.op, .I e.n, v'], true⟩)) := Only.refl.put (.inr (by simp))
    have hm := hd.mem
    have := ihs (pre ++ [e]) (by rw [hl]; simp) (G := H2.put B (some ⟨splice cs (pre.length * 3) [.I e.op, .I e.n, v'], true⟩)) (splice cs (pre.length * 3) [.I e.op, .I e.n, v']) (fp ++ fa) ((hx.trans x2).put hB) (by simp; omega) put_same (by rw [splice_len (by simp; omega)]; exact hc) (by
      have := splice_take (cs := cs) (vs := [.I e.op, .I e.n, v']) (o := pre.length * 3) (by simp; omega)
      simp only [List.length_cons, List.length_nil] at this
      rw [List.length_append, List.length_singleton, Nat.add_mul, Nat.one_mul, this]
      exact OEF.snoc ((hd.ext x2).only on (fun x hx' => by have := hf x hx'; simp; omega)) (o2.only on (fun x hx' => by have := lo x hx'; simp; omega)))
      (List.nodup_append.2 ⟨hn, nd, fun x hx' y hy e => by have := hm x hx'; have := lo y hy; omega⟩) (fun x hx' => by
        rcases List.mem_append.1 hx' with q | q
        · exact hf x q
        · have := lo x q; omega)
    simp (disch := omega) [f2, flat_cells f2, flat_tup f2, st]
    simpa using this
theorem K_wtoExprS (a : Exs) : ToE a := by
  induction a using Exs.ind with
  | h a ih =>
  intro ok H K w v h k
  rw [CallF_eq e_wtoExprS rfl]
  have hbig := h.big
  simp (disch := omega) [h.alen]
  have hbg : (a.list.length : Int) ≤ big := by unfold big; omega
  have := K_wtoExprS_l (H0 := H) ih h (B := H.n) (Q := ?_) (Nat.le_refl _) ?_ a.list [] rfl (G := H.push (List.replicate a.list.length [.I 0, .I 0, .nils]).flatten) (List.replicate a.list.length [.I 0, .I 0, .nils]).flatten [] (Ext.push _ _) (by simp) push_new (by simp) (by simp; exact ⟨rfl, rfl⟩) List.nodup_nil (by simp)
  · simpa [hbg] using this
  · intro e G' ca fa x hn hb o nd lo he
    simp [he]
    refine k _ (H.n :: fa) G' ⟨H.n, ca, fa, ⟨hbig, o.len, .inr ⟨_, [], rfl, Nat.le_refl _, hn, by rw [List.append_nil]; exact hb⟩⟩, o, rfl⟩ (List.nodup_cons.2 ⟨fun hm => by have := lo _ hm; omega, nd⟩) (fun y hy => ?_) x
    rcases List.mem_cons.1 hy with q | q
    · omega
    · have := lo y q; omega
def ToS (f : Sts) : Prop := ∀ {ok : Nat → Prop} {H : AH} {K : AV → AH → Prop} {w : Fk K} {v : AV}, SV ok H v f →
  (∀ v' fp H', OT H' v' f fp → fp.Nodup → (∀ x ∈ fp, H.n ≤ x) → Ext H H' → K v' H') → CallF Cd f_wtoStmtS [v] H K w
theorem nodup_app {l1 l2 : List Nat} {m : Nat} (h1 : l1.Nodup) (h2 : l2.Nodup) (a : ∀ x ∈ l1, x < m) (b : ∀ x ∈ l2, m ≤ x) : (l1 ++ l2).Nodup := List.nodup_append.2 ⟨h1, h2, fun x hx y hy e => by have := a x hx; have := b y hy; omega⟩
theorem K_wtoStmt {s : St1} (hy : ToS s.body) (hz : ToS s.els) {ok : Nat → Prop} {H : AH} {K : AV → AH → Prop} {w : Fk K} {c : List AV} (h : S1 ok H c s)
    (k : ∀ c' fp H', O1 H' c' s fp → fp.Nodup → (∀ x ∈ fp, H.n ≤ x) → Ext H H' → K (.agg c') H') : CallF Cd f_wtoStmt [.agg c] H K w := by
  obtain ⟨va, vy, vz, rfl, ea, ey, ez⟩ := h
  rw [CallF_eq e_wtoStmt rfl]
  obtain ⟨C0, hC0⟩ : ∃ C0 : List AV, C0 = [.I s.k, .I s.v, .I s.b, .I s.e.op, .I s.e.n, va, vy, vz] := ⟨_, rfl⟩
  have x1 : Ext H (((H.push [.I s.k, .I s.v, .I s.b, .I s.e.op, .I s.e.n, va, vy, vz]).push [.I 0, .I 0, .I 0, .I 0, .I 0, .nils, .nils, .nils]).push [.I s.k, .I s.v, .I s.b, .I 0, .I 0, .nils, .nils, .nils]) := (Ext.push _ _).trans ((Ext.push _ _).trans (Ext.push _ _))
  have q0 : (((H.push [.I s.k, .I s.v, .I s.b, .I s.e.op, .I s.e.n, va, vy, vz]).push [.I 0, .I 0, .I 0, .I 0, .I 0, .nils, .nils, .nils]).push [.I s.k, .I s.v, .I s.b, .I 0, .I 0, .nils, .nils, .nils]).bk H.n = some ⟨[.I s.k, .I s.v, .I s.b, .I s.e.op, .I s.e.n, va, vy, vz], true⟩ := push_old (by simp; omega) (push_old (by simp) push_new)
  simp (disch := omega) [load_push, AH.store, loadN_push, push_put2, push_put]
  refine K_wtoExpr (K_wtoExprS s.e.args) (ea.ext x1) fun va' fa H1 oa nda loa x2 => ?_
  have n2 := x2.1
  simp only [push_n] at n2 loa
  have p0 := (x2.2 H.n (by simp; omega)).trans q0
  have q1 : H1.bk (H.n + 1) = some ⟨[.I 0, .I 0, .I 0, .I 0, .I 0, .nils, .nils, .nils], true⟩ := (x2.2 _ (by simp)).trans (push_old (by simp) push_new)
  have q2 : H1.bk (H.n + 1 + 1) = some ⟨[.I s.k, .I s.v, .I s.b, .I 0, .I 0, .nils, .nils, .nils], true⟩ := (x2.2 _ (by simp)).trans push_new
  have fa' := oa.flat
  have st1 : H1.store (H.n + 1 + 1) 3 [.I s.e.op, .I s.e.n, va'] = some (H1.put (H.n + 1 + 1) (some ⟨[.I s.k, .I s.v, .I s.b, .I s.e.op, .I s.e.n, va', .nils, .nils], true⟩)) := store_bk q2 (by simp)
  have y2 : Ext H (H1.put (H.n + 1 + 1) (some ⟨[.I s.k, .I s.v, .I s.b, .I s.e.op, .I s.e.n, va', .nils, .nils], true⟩)) := (x1.trans x2).put (by omega)
  have p0' : (H1.put (H.n + 1 + 1) (some ⟨[.I s.k, .I s.v, .I s.b, .I s.e.op, .I s.e.n, va', .nils, .nils], true⟩)).bk H.n = some ⟨[.I s.k, .I s.v, .I s.b, .I s.e.op, .I s.e.n, va, vy, vz], true⟩ := by rw [put_bk, if_neg (by omega)]; exact p0
  simp [flat_cells fa', flat_tup fa', st1, load_bk p0']
  have oa1 : OE (H1.put (H.n + 1 + 1) (some ⟨[.I s.k, .I s.v, .I s.b, .I s.e.op, .I s.e.n, va', .nils, .nils], true⟩)) va' s.e.args fa := oa.only (bs := [H.n + 1 + 1]) (Only.refl.put (by simp)) (fun x hx => by have := loa x hx; simp; omega)
  have ma := oa1.mem
  simp only [put_n] at ma
  refine hy (ey.ext y2) fun vy' fy H2 oy ndy loy x3 => ?_
  have n3 := x3.1
  simp only [put_n] at n3 loy
  have r0 := (x3.2 H.n (by simp; omega)).trans p0'
  have r1 : H2.bk (H.n + 1) = some ⟨[.I 0, .I 0, .I 0, .I 0, .I 0, .nils, .nils, .nils], true⟩ := (x3.2 _ (by simp; omega)).trans (by rw [put_bk, if_neg (by omega)]; exact q1)
  have r2 : H2.bk (H.n + 1 + 1) = some ⟨[.I s.k, .I s.v, .I s.b, .I s.e.op, .I s.e.n, va', .nils, .nils], true⟩ := (x3.2 _ (by simp; omega)).trans put_same
  have fy' := oy.flat
  have st2 : H2.store (H.n + 1 + 1) 6 [vy'] = some (H2.put (H.n + 1 + 1) (some ⟨[.I s.k, .I s.v, .I s.b, .I s.e.op, .I s.e.n, va', vy', .nils], true⟩)) := store_bk r2 (by simp)
  have y3 : Ext H (H2.put (H.n + 1 + 1) (some ⟨[.I s.k, .I s.v, .I s.b, .I s.e.op, .I s.e.n, va', vy', .nils], true⟩)) := (y2.trans x3).put (by omega)
  have r0' : (H2.put (H.n + 1 + 1) (some ⟨[.I s.k, .I s.v, .I s.b, .I s.e.op, .I s.e.n, va', vy', .nils], true⟩)).bk H.n = some ⟨[.I s.k, .I s.v, .I s.b, .I s.e.op, .I s.e.n, va, vy, vz], true⟩ := by rw [put_bk, if_neg (by omega)]; exact r0
  simp [flat_cells fy', flat_tup fy', st2, load_bk r0']
  have on2 : Only [H.n + 1 + 1] H2 (H2.put (H.n + 1 + 1) (some ⟨[.I s.k, .I s.v, .I s.b, .I s.e.op, .I s.e.n, va', vy', .nils], true⟩)) := Only.refl.put (by simp)
  have oa2 := (oa1.ext x3).only on2 (fun x hx => by have := loa x hx; simp; omega)
  have oy2 := oy.only on2 (fun x hx => by have := loy x hx; simp; omega)
  have my := oy2.mem
  simp only [put_n] at my
  refine hz (ez.ext y3) fun vz' fz H3 oz ndz loz x4 => ?_
  have n4 := x4.1
  simp only [put_n] at n4 loz
  have t1 : H3.bk (H.n + 1) = some ⟨[.I 0, .I 0, .I 0, .I 0, .I 0, .nils, .nils, .nils], true⟩ := (x4.2 _ (by simp; omega)).trans (by rw [put_bk, if_neg (by omega)]; exact r1)
  have t2 : H3.bk (H.n + 1 + 1) = some ⟨[.I s.k, .I s.v, .I s.b, .I s.e.op, .I s.e.n, va', vy', .nils], true⟩ := (x4.2 _ (by simp; omega)).trans put_same
  have fz' := oz.flat
  have st3 : H3.store (H.n + 1 + 1) 7 [vz'] = some (H3.put (H.n + 1 + 1) (some ⟨[.I s.k, .I s.v, .I s.b, .I s.e.op, .I s.e.n, va', vy', vz'], true⟩)) := store_bk t2 (by simp)
  have t1' : (H3.put (H.n + 1 + 1) (some ⟨[.I s.k, .I s.v, .I s.b, .I s.e.op, .I s.e.n, va', vy', vz'], true⟩)).bk (H.n + 1) = some ⟨[.I 0, .I 0, .I 0, .I 0, .I 0, .nils, .nils, .nils], true⟩ := by rw [put_bk, if_neg (by omega)]; exact t1
  have st4 : (H3.put (H.n + 1 + 1) (some ⟨[.I s.k, .I s.v, .I s.b, .I s.e.op, .I s.e.n, va', vy', vz'], true⟩)).store (H.n + 1) 0 [.I s.k, .I s.v, .I s.b, .I s.e.op, .I s.e.n, va', vy', vz'] = some ((H3.put (H.n + 1 + 1) (some ⟨[.I s.k, .I s.v, .I s.b, .I s.e.op, .I s.e.n, va', vy', vz'], true⟩)).put (H.n + 1) (some ⟨[.I s.k, .I s.v, .I s.b, .I s.e.op, .I s.e.n, va', vy', vz'], true⟩)) := store_bk t1' (by simp)
  simp [flat_cells fz', flat_tup fz', st3, loadN_bk put_same, st4]
  have on : Only [H.n + 1, H.n + 1 + 1] H3 ((H3.put (H.n + 1 + 1) (some ⟨[.I s.k, .I s.v, .I s.b, .I s.e.op, .I s.e.n, va', vy', vz'], true⟩)).put (H.n + 1) (some ⟨[.I s.k, .I s.v, .I s.b, .I s.e.op, .I s.e.n, va', vy', vz'], true⟩)) := (Only.refl.put (by simp)).put (by simp)
  have lo3 : ∀ x ∈ fa ++ (fy ++ fz), H.n + 3 ≤ x := fun x hx => by
    simp only [List.mem_append] at hx
    rcases hx with q | q | q
    · have := loa x q; omega
    · have := loy x q; omega
    · have := loz x q; omega
  refine k _ (fa ++ (fy ++ fz)) _ ⟨va', vy', vz', fa, fy, fz, rfl, (oa2.ext x4).only on (fun x hx => by have := lo3 x (by simp [hx]); simp; omega), (oy2.ext x4).only on (fun x hx => by have := lo3 x (by simp [hx]); simp; omega), oz.only on (fun x hx => by have := lo3 x (by simp [hx]); simp; omega), rfl⟩
    (nodup_app nda (nodup_app ndy ndz my loz) ma (fun x hx => ?_)) (fun x hx => by have := lo3 x hx; omega) (((y3.trans x4).put (by omega)).put (by omega))
  rcases List.mem_append.1 hx with q | q
  · exact loy x q
  · have := loz x q; omega
theorem K_wtoStmtS_l {ok : Nat → Prop} {H0 : AH} {v : AV} {a : Sts} (ih : ∀ s ∈ a.list, ToS s.body ∧ ToS s.els) {B : Nat} (h : SV ok H0 v a) {Q : Out → Env → AH → Prop} (hB : H0.n ≤ B)
    (hQ : ∀ e G' ca fa, Ext H0 G' → B < G'.n → G'.bk B = some ⟨ca, true⟩ → OSF G' a ca fa → fa.Nodup → (∀ x ∈ fa, B < x) → get e 3 = some (.sl B 0 a.list.length (.ex a.list.length)) → Q (.brk 0) e G')
    (suf : List St1) : ∀ (pre : List St1) (hl : a.list = pre ++ suf) {G : AH} (cs : List AV) (fp : List Nat) (hx : Ext H0 G) (hBn : B < G.n) (hb : G.bk B = some ⟨cs, true⟩) (hc : cs.length = a.list.length * 8) (hd : OSF G (Sts.of pre) (cs.take (pre.length * 8)) fp) (hn : fp.Nodup) (hf : ∀ x ∈ fp, B < x),
    W Cd (.loop c_wtoStmtS_l0) [(0, v), (3, .sl B 0 a.list.length (.ex a.list.length)), (4, .I pre.length)] G Q := by
  have hbig := h.big
  have hal := h.alen
  induction suf with
  | nil =>
    intro pre hl G cs fp hx hBn hb hc hd hn hf
    rw [W_loop_as c_wtoStmtS_l0.eq_1]
    simp only [List.append_nil] at hl
    rw [← hl, List.take_of_length_le (by omega), Sts.of_list] at hd
    rw [← hl]
    simp [hal]
    exact hQ _ G cs fp hx hBn hb hd hn hf rfl
  | cons s suf ihs =>
    intro pre hl G cs fp hx hBn hb hc hd hn hf
    rw [W_loop_as c_wtoStmtS_l0.eq_1]
    have hlen : a.list.length = pre.length + (suf.length + 1) := by rw [hl]; simp
    have hlt' : (pre.length : Int) < a.list.length := by omega
    have hq : a.list[pre.length]? = some s := by rw [hl]; simp
    have hmem : s ∈ a.list := List.mem_of_getElem? hq
    obtain ⟨b, o, cap, c, e1, ob, hbn, l1, s1⟩ := (h.ext hx).at hq
    subst e1
    have c8 := s1.len
    simp (disch := omega) [hlt', l1, c8]
    refine K_wtoStmt (ih s hmem).1 (ih s hmem).2 s1 fun c' fa H2 o2 nd lo x2 => ?_
    have n2 := x2.1
    have b2 := (x2.2 B hBn).trans hb
    have d8 : c'.length = 8 := by obtain ⟨_, _, _, _, _, _, rfl, _⟩ := o2; rfl
    have fc : c'.all AV.flat = true := by obtain ⟨_, _, _, _, _, _, rfl, q1, q2, q3, _⟩ := o2; simp [q1.flat, q2.flat, q3.flat]; exact ⟨rfl, rfl, rfl, rfl, rfl⟩
    have st := store_bk (o := pre.length * 8) (vs := c') b2 (by omega)
    have on : Only [B] H2 (H2.put B (some ⟨splice cs (pre.length * 8) c', true⟩)) := Only.refl.put (.inr (by simp))
    have hm := hd.mem
    have o3 : O1 (H2.put B (some ⟨splice cs (pre.length * 8) c', true⟩)) c' s fa := by
      obtain ⟨a1, a2, a3, f1, f2, f3, q1, q2, q3, q4, q5⟩ := o2
      subst q5
      exact ⟨a1, a2, a3, f1, f2, f3, q1, q2.only on (fun x hx' => by have := lo x (by simp [hx']); simp; omega), q3.only on (fun x hx' => by have := lo x (by simp [hx']); simp; omega), q4.only on (fun x hx' => by have := lo x (by simp [hx']); simp; omega), rfl⟩
    have := ihs (pre ++ [s]) (by rw [hl]; simp) (G := H2.put B (some ⟨splice cs (pre.length * 8) c', true⟩)) (splice cs (pre.length * 8) c') (fp ++ fa) ((hx.trans x2).put hB) (by simp; omega) put_same (by rw [splice_len (by omega)]; exact hc) (by
      have := splice_take (cs := cs) (vs := c') (o := pre.length * 8) (by omega)
      rw [d8] at this
      rw [List.length_append, List.length_singleton, Nat.add_mul, Nat.one_mul, this]
      exact OSF.snoc ((hd.ext x2).only on (fun x hx' => by have := hf x hx'; simp; omega)) o3)
      (nodup_app hn nd hm lo) (fun x hx' => by
        rcases List.mem_append.1 hx' with q | q
        · exact hf x q
        · have := lo x q; omega)
    simp (disch := omega) [d8, fc, st]
    simpa [d8] using this
theorem K_wtoStmtS (a : Sts) : ToS a := by
  induction a using Sts.ind with
  | h a ih =>
  intro ok H K w v h k
  rw [CallF_eq e_wtoStmtS rfl]
  have hbig := h.big
  simp (disch := omega) [h.alen]
  have hbg : (a.list.length : Int) ≤ big := by unfold big; omega
  have := K_wtoStmtS_l (H0 := H) ih h (B := H.n) (Q := ?_) (Nat.le_refl _) ?_ a.list [] rfl (G := H.push (List.replicate a.list.length [.I 0, .I 0, .I 0, .I 0, .I 0, .nils, .nils, .nils]).flatten) (List.replicate a.list.length [.I 0, .I 0, .I 0, .I 0, .I 0, .nils, .nils, .nils]).flatten [] (Ext.push _ _) (by simp) push_new (by simp) (by simp; exact ⟨rfl, rfl⟩) List.nodup_nil (by simp)
  · simpa [hbg] using this
  · intro e G' ca fa x hn hb o nd lo he
    simp [he]
    refine k _ (H.n :: fa) G' ⟨H.n, ca, fa, ⟨hbig, o.len, .inr ⟨_, [], rfl, Nat.le_refl _, hn, by rw [List.append_nil]; exact hb⟩⟩, o, rfl⟩ (List.nodup_cons.2 ⟨fun hm => by have := lo _ hm; omega, nd⟩) (fun y hy => ?_) x
    rcases List.mem_cons.1 hy with q | q
    · omega
    · have := lo y q; omega
end Go.Proofs.YtcibjklpaljadaaGreat.AM
namespace Go.Proofs.YtcibjklpaljadaaGreat.AM
set_option linter.unusedSimpArgs false
set_option linter.unusedVariables false
set_option maxRecDepth 100000
set_option maxHeartbeats 4000000
open Go
attribute [-simp] AM.elems
def EqE (f : Exs) : Prop := ∀ {o1 o2 : Nat → Prop} {H : AH} {K : AV → AH → Prop} {w : Fk K} {va vb : AV}, EV o1 H va f → EV o2 H vb f → (∀ H', Ext H H' → K (.b true) H') → CallF Cd f_weqExprS [va, vb] H K w
theorem T_weqExpr {a : Exs} (hT : EqE a) {o1 o2 : Nat → Prop} {H : AH} {K : AV → AH → Prop} {w : Fk K} {va vb : AV} {op n : Int} (h1 : EV o1 H va a) (h2 : EV o2 H vb a) (k : ∀ H', Ext H H' → K (.b true) H') :
    CallF Cd f_weqExpr [.agg [.I op, .I n, va], .agg [.I op, .I n, vb]] H K w := by
  rw [CallF_eq e_weqExpr rfl]
  have x := (Ext.push H [.I op, .I n, va]).trans (Ext.push _ [.I op, .I n, vb])
  simp [load_push]
  refine hT (h1.ext x) (h2.ext x) fun H' x' => ?_
  simp
  exact k H' (x.trans x')
theorem T_weqExprS_l {o1 o2 : Nat → Prop} {H0 : AH} {va vb : AV} {a : Exs} (ih : ∀ e ∈ a.list, EqE e.args) {Q : Out → Env → AH → Prop} (h1 : EV o1 H0 va a) (h2 : EV o2 H0 vb a) (hQ : ∀ e H', Ext H0 H' → Q (.brk 0) e H') (m i : Nat) (hm : i + m = a.list.length) {G : AH} (hx : Ext H0 G) :
    W Cd (.loop c_weqExprS_l0) [(0, va), (1, vb), (5, .I i)] G Q := by
  have hbig := h1.big
  induction m generalizing i G with
  | zero =>
    rw [W_loop_as c_weqExprS_l0.eq_1]
    have : i = a.list.length := by omega
    subst this
    simp [h1.alen]
    exact hQ _ G hx
  | succ m ihm =>
    rw [W_loop_as c_weqExprS_l0.eq_1]
    have hlt : i < a.list.length := by omega
    have hlt' : (i : Int) < a.list.length := by omega
    obtain ⟨e, he⟩ : ∃ e, a.list[i]? = some e := ⟨_, List.getElem?_eq_getElem hlt⟩
    obtain ⟨b, o, cap, v1, e1, ob, hb, l1, i1⟩ := (h1.ext hx).at he
    obtain ⟨b2, o2, cap2, v2, e2, ob2, hb2, l2, i2⟩ := (h2.ext hx).at he
    have a1 := h1.alen
    subst e1 e2
    simp (disch := omega) [a1, hlt', l1, l2]
    refine T_weqExpr (ih e (List.mem_of_getElem? he)) i1 i2 fun H2 x2 => ?_
    have := ihm (i + 1) (by omega) (hx.trans x2)
    simp (disch := omega) [x2]
    simpa using this
theorem T_weqExprS (a : Exs) : EqE a := by
  induction a using Exs.ind with
  | h a ih =>
  intro o1 o2 H K w va vb h1 h2 k
  rw [CallF_eq e_weqExprS rfl]
  simp [h1.alen, h2.alen]
  have := T_weqExprS_l ih h1 h2 (Q := ?_) ?_ a.list.length 0 (by omega) (Ext.refl _)
  · simpa using this
  · intro e H' x; simpa using k H' x
def EqS (f : Sts) : Prop := ∀ {o1 o2 : Nat → Prop} {H : AH} {K : AV → AH → Prop} {w : Fk K} {va vb : AV}, SV o1 H va f → SV o2 H vb f → (∀ H', Ext H H' → K (.b true) H') → CallF Cd f_weqStmtS [va, vb] H K w
theorem T_weqStmt {s : St1} (hy : EqS s.body) (hz : EqS s.els) {o1 o2 : Nat → Prop} {H : AH} {K : AV → AH → Prop} {w : Fk K} {c1 c2 : List AV} (h1 : S1 o1 H c1 s) (h2 : S1 o2 H c2 s) (k : ∀ H', Ext H H' → K (.b true) H') :
    CallF Cd f_weqStmt [.agg c1, .agg c2] H K w := by
  obtain ⟨va, vy, vz, rfl, ea, ey, ez⟩ := h1
  obtain ⟨ua, uy, uz, rfl, ga, gy, gz⟩ := h2
  rw [CallF_eq e_weqStmt rfl]
  have x := (Ext.push H [.I s.k, .I s.v, .I s.b, .I s.e.op, .I s.e.n, va, vy, vz]).trans (Ext.push _ [.I s.k, .I s.v, .I s.b, .I s.e.op, .I s.e.n, ua, uy, uz])
  have q1 : ((H.push [.I s.k, .I s.v, .I s.b, .I s.e.op, .I s.e.n, va, vy, vz]).push [.I s.k, .I s.v, .I s.b, .I s.e.op, .I s.e.n, ua, uy, uz]).bk H.n = some ⟨[.I s.k, .I s.v, .I s.b, .I s.e.op, .I s.e.n, va, vy, vz], true⟩ := push_old (by simp) push_new
  have q2 : ((H.push [.I s.k, .I s.v, .I s.b, .I s.e.op, .I s.e.n, va, vy, vz]).push [.I s.k, .I s.v, .I s.b, .I s.e.op, .I s.e.n, ua, uy, uz]).bk (H.n + 1) = some ⟨[.I s.k, .I s.v, .I s.b, .I s.e.op, .I s.e.n, ua, uy, uz], true⟩ := push_new (H := H.push [.I s.k, .I s.v, .I s.b, .I s.e.op, .I s.e.n, va, vy, vz])
  obtain ⟨G, hG⟩ : ∃ G, G = (H.push [.I s.k, .I s.v, .I s.b, .I s.e.op, .I s.e.n, va, vy, vz]).push [.I s.k, .I s.v, .I s.b, .I s.e.op, .I s.e.n, ua, uy, uz] := ⟨_, rfl⟩
  have hn : G.n = H.n + 1 + 1 := by rw [hG]; simp
  simp [load_push, loadN_push]
  rw [← hG] at x q1 q2 ⊢
  refine T_weqExpr (T_weqExprS _) (ea.ext x) (ga.ext x) fun H1 x1 => ?_
  have p1 := (x1.2 _ (by omega)).trans q1
  have p2 := (x1.2 _ (by omega)).trans q2
  simp [load_bk p1, load_bk p2]
  refine hy (ey.ext (x.trans x1)) (gy.ext (x.trans x1)) fun H2 x2 => ?_
  have n1 := x1.1
  have r1 := (x2.2 _ (by omega)).trans p1
  have r2 := (x2.2 _ (by omega)).trans p2
  simp [load_bk r1, load_bk r2]
  refine hz (ez.ext ((x.trans x1).trans x2)) (gz.ext ((x.trans x1).trans x2)) fun H3 x3 => ?_
  simp
  exact k H3 (((x.trans x1).trans x2).trans x3)
theorem T_weqStmtS_l {o1 o2 : Nat → Prop} {H0 : AH} {va vb : AV} {a : Sts} (ih : ∀ s ∈ a.list, EqS s.body ∧ EqS s.els) {Q : Out → Env → AH → Prop} (h1 : SV o1 H0 va a) (h2 : SV o2 H0 vb a) (hQ : ∀ e H', Ext H0 H' → Q (.brk 0) e H') (m i : Nat) (hm : i + m = a.list.length) {G : AH} (hx : Ext H0 G) :
    W Cd (.loop c_weqStmtS_l0) [(0, va), (1, vb), (5, .I i)] G Q := by
  have hbig := h1.big
  induction m generalizing i G with
  | zero =>
    rw [W_loop_as c_weqStmtS_l0.eq_1]
    have : i = a.list.length := by omega
    subst this
    simp [h1.alen]
    exact hQ _ G hx
  | succ m ihm =>
    rw [W_loop_as c_weqStmtS_l0.eq_1]
    have hlt : i < a.list.length := by omega
    have hlt' : (i : Int) < a.list.length := by omega
    obtain ⟨e, he⟩ : ∃ e, a.list[i]? = some e := ⟨_, List.getElem?_eq_getElem hlt⟩
    obtain ⟨b, o, cap, c1, e1, ob, hb, l1, i1⟩ := (h1.ext hx).at he
    obtain ⟨b2, o2, cap2, c2, e2, ob2, hb2, l2, i2⟩ := (h2.ext hx).at he
    have a1 := h1.alen
    have d1 := i1.len
    have d2 := i2.len
    subst e1 e2
    simp (disch := omega) [a1, hlt', l1, l2, d1, d2]
    refine T_weqStmt (ih e (List.mem_of_getElem? he)).1 (ih e (List.mem_of_getElem? he)).2 i1 i2 fun H2 x2 => ?_
    have := ihm (i + 1) (by omega) (hx.trans x2)
    simp (disch := omega) [x2]
    simpa using this
theorem T_weqStmtS (a : Sts) : EqS a := by
  induction a using Sts.ind with
  | h a ih =>
  intro o1 o2 H K w va vb h1 h2 k
  rw [CallF_eq e_weqStmtS rfl]
  simp [h1.alen, h2.alen]
  have := T_weqStmtS_l ih h1 h2 (Q := ?_) ?_ a.list.length 0 (by omega) (Ext.refl _)
  · simpa using this
  · intro e H' x; simpa using k H' x
section
variable {H : AH} {K : AV → AH → Prop} {w : Fk K}
theorem T_weqTask {o1 o2 : Nat → Prop} {va vb ra rb : AV} {l : List Int} {f : Sts} (h1 : SeesZ H va l) (h2 : SeesZ H vb l) (g1 : SV o1 H ra f) (g2 : SV o2 H rb f) (k : ∀ H', Ext H H' → K (.b true) H') : CallF Cd f_weqTask [.agg [va, ra], .agg [vb, rb]] H K w := by
  rw [CallF_eq e_weqTask rfl]
  have x := (Ext.push H [va, ra]).trans (Ext.push _ [vb, rb])
  simp [load_push, K_weqIntS (h1.ext x) (h2.ext x)]
  refine T_weqStmtS f (g1.ext x) (g2.ext x) fun H' x' => ?_
  simp
  exact k _ (x.trans x')
theorem K_wtoTask {ok : Nat → Prop} {va ra : AV} {l : List Int} {f : Sts} (h1 : SeesZ H va l) (h2 : SV ok H ra f)
    (k : ∀ v' b r' fp H', OI H' v' b l → OT H' r' f fp → fp.Nodup → H.n ≤ b → b < H'.n → (∀ x ∈ fp, b < x) → Ext H H' → K (.agg [v', r']) H') : CallF Cd f_wtoTask [.agg [va, ra]] H K w := by
  have x1 : Ext H (((H.push [va, ra]).push [.nils, .nils]).push [.nils, .nils]) := (Ext.push _ _).trans ((Ext.push _ _).trans (Ext.push _ _))
  rw [CallF_eq e_wtoTask rfl]
  simp [load_push]
  refine K_wtoIntS (h1.ext x1) ?_
  obtain ⟨G1, hG1⟩ : ∃ G1, G1 = (((H.push [va, ra]).push [.nils, .nils]).push [.nils, .nils]).push (Ints l) := ⟨_, rfl⟩
  have x2 : Ext H G1 := by rw [hG1]; exact x1.trans (Ext.push _ _)
  have n1 : G1.n = H.n + 4 := by rw [hG1]; simp
  have q0 : G1.bk H.n = some ⟨[va, ra], true⟩ := by rw [hG1]; exact push_old (by simp; omega) (push_old (by simp; omega) (push_old (by simp) push_new))
  have q1 : G1.bk (H.n + 1) = some ⟨[.nils, .nils], true⟩ := by rw [hG1]; exact push_old (by simp) (push_old (by simp) push_new)
  have q2 : G1.bk (H.n + 1 + 1) = some ⟨[.nils, .nils], true⟩ := by rw [hG1]; exact push_old (by simp) push_new
  have q3 : G1.bk (H.n + 3) = some ⟨Ints l, true⟩ := by rw [hG1]; exact push_new
  simp
  rw [← hG1]
  have st : G1.store (H.n + 1 + 1) 0 [.sl (H.n + 1 + 1 + 1) 0 l.length (.ex l.length)] = some (G1.put (H.n + 1 + 1) (some ⟨[.sl (H.n + 3) 0 l.length (.ex l.length), .nils], true⟩)) := store_bk q2 (by simp)
  have x3 : Ext H (G1.put (H.n + 1 + 1) (some ⟨[.sl (H.n + 3) 0 l.length (.ex l.length), .nils], true⟩)) := x2.put (by omega)
  have r0 : (G1.put (H.n + 1 + 1) (some ⟨[.sl (H.n + 3) 0 l.length (.ex l.length), .nils], true⟩)).bk H.n = some ⟨[va, ra], true⟩ := by rw [put_bk, if_neg (by omega)]; exact q0
  have r1 : (G1.put (H.n + 1 + 1) (some ⟨[.sl (H.n + 3) 0 l.length (.ex l.length), .nils], true⟩)).bk (H.n + 1) = some ⟨[.nils, .nils], true⟩ := by rw [put_bk, if_neg (by omega)]; exact q1
  have r3 : (G1.put (H.n + 1 + 1) (some ⟨[.sl (H.n + 3) 0 l.length (.ex l.length), .nils], true⟩)).bk (H.n + 3) = some ⟨Ints l, true⟩ := by rw [put_bk, if_neg (by omega)]; exact q3
  simp [st, load_bk r0]
  refine K_wtoStmtS f (h2.ext x3) fun r' fp H2 o2 nd lo x4 => ?_
  have n4 := x4.1
  simp only [put_n] at n4 lo
  have s1 := (x4.2 _ (by simp; omega)).trans r1
  have s2 : H2.bk (H.n + 1 + 1) = some ⟨[.sl (H.n + 3) 0 l.length (.ex l.length), .nils], true⟩ := (x4.2 _ (by simp; omega)).trans put_same
  have s3 := (x4.2 _ (by simp; omega)).trans r3
  have f2 := o2.flat
  have st2 : H2.store (H.n + 1 + 1) 1 [r'] = some (H2.put (H.n + 1 + 1) (some ⟨[.sl (H.n + 3) 0 l.length (.ex l.length), r'], true⟩)) := store_bk s2 (by simp)
  have s1' : (H2.put (H.n + 1 + 1) (some ⟨[.sl (H.n + 3) 0 l.length (.ex l.length), r'], true⟩)).bk (H.n + 1) = some ⟨[.nils, .nils], true⟩ := by rw [put_bk, if_neg (by omega)]; exact s1
  have st3 : (H2.put (H.n + 1 + 1) (some ⟨[.sl (H.n + 3) 0 l.length (.ex l.length), r'], true⟩)).store (H.n + 1) 0 [.sl (H.n + 3) 0 l.length (.ex l.length), r'] = some ((H2.put (H.n + 1 + 1) (some ⟨[.sl (H.n + 3) 0 l.length (.ex l.length), r'], true⟩)).put (H.n + 1) (some ⟨[.sl (H.n + 3) 0 l.length (.ex l.length), r'], true⟩)) := store_bk s1' (by simp)
  simp [flat_cells f2, flat_tup f2, st2, loadN_bk put_same, st3]
  have on : Only [H.n + 1, H.n + 1 + 1] H2 ((H2.put (H.n + 1 + 1) (some ⟨[.sl (H.n + 3) 0 l.length (.ex l.length), r'], true⟩)).put (H.n + 1) (some ⟨[.sl (H.n + 3) 0 l.length (.ex l.length), r'], true⟩)) := (Only.refl.put (by simp)).put (by simp)
  have e3 : ((H2.put (H.n + 1 + 1) (some ⟨[.sl (H.n + 3) 0 l.length (.ex l.length), r'], true⟩)).put (H.n + 1) (some ⟨[.sl (H.n + 3) 0 l.length (.ex l.length), r'], true⟩)).bk (H.n + 3) = some ⟨Ints l, true⟩ := by rw [put_bk, if_neg (by omega), put_bk, if_neg (by omega)]; exact s3
  refine k _ (H.n + 3) r' fp _ ⟨h1.2.1, by simp [Ints], .inr ⟨_, [], rfl, Nat.le_refl _, by simp; omega, by rw [List.append_nil]; exact e3⟩⟩ (o2.only on fun x hx => by have := lo x hx; simp; omega) nd (by omega) (by simp; omega) (fun x hx => by have := lo x hx; omega) (((x3.trans x4).put (by omega)).put (by omega))
end
end Go.Proofs.YtcibjklpaljadaaGreat.AM
namespace Go.Proofs.YtcibjklpaljadaaGreat.AM
set_option linter.unusedSimpArgs false
set_option linter.unusedVariables false
set_option maxRecDepth 100000
set_option maxHeartbeats 4000000
open Go
attribute [-simp] AM.elems
def HeE (f : Exs) : Prop := ∀ {ok : Nat → Prop} {H : AH} {K : AV → AH → Prop} {w : Fk K} {v : AV} {k : Int}, EV ok H v (mkE k f) → 0 ≤ k ∧ k + 2 * nE f ≤ 1125899906842624 → K (.I (k + 2 * nE f)) H → CallF Cd f_wheldExprS [v, .I k] H K w
theorem K_wheldExprS_l {ok : Nat → Prop} {H : AH} {v : AV} {T : Exs} (h : EV ok H v T) {Q : Out → Env → AH → Prop} {kf : Int} (hQ : ∀ e, get e 1 = some (.I kf) → Q (.brk 0) e H) (suf : Exs) :
    ∀ (ih : ∀ e ∈ suf.list, HeE e.args) (pre : List Ex) {k : Int} (hl : T.list = pre ++ (mkE k suf).list) (hk : 0 ≤ k ∧ k + 2 * nE suf ≤ 1125899906842624) (hkf : kf = k + 2 * nE suf), W Cd (.loop c_wheldExprS_l0) [(0, v), (1, .I k), (5, .I pre.length)] H Q := by
  have hbig := h.big
  have hal := h.alen
  induction suf with
  | nil =>
    intro ih pre k hl hk hkf
    rw [W_loop_as c_wheldExprS_l0.eq_1]
    simp only [mkE, Exs.list, List.append_nil] at hl
    rw [hl] at hal
    simp [hal]
    exact hQ _ (by simp [get, hkf, nE])
  | cons op n a r iha ihr =>
    intro ih pre k hl hk hkf
    rw [W_loop_as c_wheldExprS_l0.eq_1]
    simp only [mkE, Exs.list, nE] at hl hk
    have hlen : T.list.length = pre.length + ((mkE (k + 2 + 2 * nE a) r).list.length + 1) := by rw [hl]; simp
    have hlt' : (pre.length : Int) < T.list.length := by omega
    have hq : T.list[pre.length]? = some ⟨k, k + 1, mkE (k + 2) a⟩ := by rw [hl]; simp
    obtain ⟨b, o, cap, va, e1, ob, hbn, l1, ev⟩ := h.at hq
    subst e1
    have l0 := loadN_get l1 (i := 0) (by omega)
    have l2 := loadN_get l1 (i := 1) (by omega)
    have l3 := loadN_get l1 (i := 2) (by omega)
    simp at l0 l2 l3
    have hr := ihr (fun e he => ih e (List.mem_cons_of_mem _ he)) (pre ++ [⟨k, k + 1, mkE (k + 2) a⟩]) (k := k + 2 + 2 * nE a) (by rw [hl]; simp) ⟨by omega, by omega⟩ (by rw [hkf, nE]; push_cast; omega)
    have hq1 : ¬ k + 2 + 2 * (nE a : Int) < 0 := by omega
    simp (disch := omega) [hlt', l0, l2, l3]
    rw [show k + 1 + 1 = k + 2 by omega]
    refine ih ⟨op, n, a⟩ List.mem_cons_self ev ⟨by omega, by simp only; omega⟩ ?_
    simp (disch := omega) [hq1]
    simpa using hr
theorem K_wheldExprS (a : Exs) : HeE a := by
  induction a using Exs.ind with
  | h a ih =>
  intro ok H K w v k h hk c
  rw [CallF_eq e_wheldExprS rfl]
  simp
  have := K_wheldExprS_l h (Q := ?_) (kf := k + 2 * nE a) ?_ a ih [] (k := k) rfl hk rfl
  · simpa using this
  · intro e he
    simp [he]
    exact c
def HeS (f : Sts) : Prop := ∀ {ok : Nat → Prop} {H : AH} {K : AV → AH → Prop} {w : Fk K} {v : AV} {k : Int}, SV ok H v (mkS k f) → 0 ≤ k ∧ k + mS f ≤ 1125899906842624 → K (.I (k + mS f)) H → CallF Cd f_wheldStmtS [v, .I k] H K w
theorem K_wheldStmtS_l {ok : Nat → Prop} {H : AH} {v : AV} {T : Sts} (h : SV ok H v T) {Q : Out → Env → AH → Prop} {kf : Int} (hQ : ∀ e, get e 1 = some (.I kf) → Q (.brk 0) e H) (suf : Sts) :
    ∀ (ih : ∀ s ∈ suf.list, HeS s.body ∧ HeS s.els) (pre : List St1) {k : Int} (hl : T.list = pre ++ (mkS k suf).list) (hk : 0 ≤ k ∧ k + mS suf ≤ 1125899906842624) (hkf : kf = k + mS suf), W Cd (.loop c_wheldStmtS_l0) [(0, v), (1, .I k), (5, .I pre.length)] H Q := by
  have hbig := h.big
  have hal := h.alen
  induction suf with
  | nil =>
    intro ih pre k hl hk hkf
    rw [W_loop_as c_wheldStmtS_l0.eq_1]
    simp only [mkS, Sts.list, List.append_nil] at hl
    rw [hl] at hal
    simp [hal]
    exact hQ _ (by simp [get, hkf, mS])
  | cons k0 v0 b0 e0 y z r ihy ihz ihr =>
    intro ih pre k hl hk hkf
    rw [W_loop_as c_wheldStmtS_l0.eq_1]
    obtain ⟨k1, hk1⟩ : ∃ k1, k1 = k + 5 + 2 * (nE e0.args : Int) := ⟨_, rfl⟩
    obtain ⟨k2, hk2⟩ : ∃ k2, k2 = k1 + (mS y : Int) := ⟨_, rfl⟩
    obtain ⟨k3, hk3⟩ : ∃ k3, k3 = k2 + (mS z : Int) := ⟨_, rfl⟩
    simp only [mkS, Sts.list, mS] at hl hk
    rw [← hk1, ← hk2, ← hk3] at hl
    have hlen : T.list.length = pre.length + ((mkS k3 r).list.length + 1) := by rw [hl]; simp
    have hlt' : (pre.length : Int) < T.list.length := by omega
    have hq : T.list[pre.length]? = some ⟨k, k + 1, k + 2, ⟨k + 3, k + 4, mkE (k + 5) e0.args⟩, mkS k1 y, mkS k2 z⟩ := by rw [hl]; simp
    obtain ⟨b, o, cap, c, e1, ob, hbn, l1, va, vy, vz, rfl, ea, ey, ez⟩ := h.at hq
    subst e1
    have l0 := loadN_get l1 (i := 0) (by omega)
    have l2 := loadN_get l1 (i := 1) (by omega)
    have l3 := loadN_get l1 (i := 2) (by omega)
    have l4 := loadN_get l1 (i := 3) (by omega)
    have l5 := loadN_get l1 (i := 4) (by omega)
    have l6 := loadN_get l1 (i := 5) (by omega)
    have l7 := loadN_get l1 (i := 6) (by omega)
    have l8 := loadN_get l1 (i := 7) (by omega)
    simp at l0 l2 l3 l4 l5 l6 l7 l8
    rw [show k + 2 = k + 1 + 1 by omega] at l3
    rw [show k + 3 = k + 1 + 1 + 1 by omega] at l4
    rw [show k + 4 = k + 1 + 1 + 1 + 1 by omega] at l5
    have hr := ihr (fun e he => ih e (List.mem_cons_of_mem _ he)) (pre ++ [⟨k, k + 1, k + 2, ⟨k + 3, k + 4, mkE (k + 5) e0.args⟩, mkS k1 y, mkS k2 z⟩]) (k := k3) (by rw [hl]; simp) ⟨by omega, by omega⟩ (by rw [hkf, mS]; push_cast; omega)
    have hq1 : ¬ k1 < 0 := by omega
    have hq2 : ¬ k2 < 0 := by omega
    have hq3 : ¬ k3 < 0 := by omega
    simp (disch := omega) [hlt', l0, l2, l3, l4, l5, l6]
    rw [show k + 1 + 1 + 1 + 1 + 1 = k + 5 by omega]
    refine K_wheldExprS _ ea ⟨by omega, by omega⟩ ?_
    rw [← hk1]
    simp (disch := omega) [hq1, l7]
    refine (ih _ List.mem_cons_self).1 ey ⟨by omega, by simp; omega⟩ ?_
    simp only
    rw [← hk2]
    simp (disch := omega) [hq2, l8]
    refine (ih _ List.mem_cons_self).2 ez ⟨by omega, by simp; omega⟩ ?_
    simp only
    rw [← hk3]
    simp (disch := omega) [hq3]
    simpa using hr
theorem K_wheldStmtS (a : Sts) : HeS a := by
  induction a using Sts.ind with
  | h a ih =>
  intro ok H K w v k h hk c
  rw [CallF_eq e_wheldStmtS rfl]
  simp
  have := K_wheldStmtS_l h (Q := ?_) (kf := k + mS a) ?_ a ih [] (k := k) rfl hk rfl
  · simpa using this
  · intro e he
    simp [he]
    exact c
theorem K_wheldTask {ok : Nat → Prop} {H : AH} {K : AV → AH → Prop} {w : Fk K} {v r : AV} {b : Nat} {k : Int} {n : Nat} {f : Sts} (h : OI H v b (nums k n)) (g : SV ok H r (mkS (k + n) f)) (hk : 0 ≤ k ∧ k ≤ 1099511627776) (hn : k + n + mS f ≤ 1125899906842624) (h1 : ∀ H', Ext H H' → K (.I (k + n + mS f)) H') : CallF Cd f_wheldTask [.agg [v, r], .I k] H K w := by
  rw [CallF_eq e_wheldTask rfl]
  simp [load_push]
  refine K_wheldI (n := n) (h.ext (Ext.push _ _)) hk ?_
  have q1 : ¬ k + (n : Int) < 0 := by omega
  simp [q1, load_push]
  refine K_wheldStmtS f (g.ext (Ext.push _ _)) ⟨by omega, by omega⟩ ?_
  have q2 : ¬ k + (n : Int) + mS f < 0 := by omega
  simp [q2]
  exact h1 _ (Ext.push _ _)
end Go.Proofs.YtcibjklpaljadaaGreat.AM
namespace Go.Proofs.YtcibjklpaljadaaGreat.AM
set_option linter.unusedSimpArgs false
set_option linter.unusedVariables false
set_option maxRecDepth 100000
set_option maxHeartbeats 4000000
open Go
attribute [-simp] AM.elems
theorem splice_mid {P M R : List AV} {o j : Nat} {y : AV} (hP : P.length = o) (hj : j < M.length) : splice (P ++ (M ++ R)) (o + j) [y] = P ++ (M.set j y ++ R) := by
  subst hP
  unfold splice
  rw [List.take_append, List.take_of_length_le (by omega), Nat.add_sub_cancel_left, List.take_append_of_le_length (by omega), Nat.add_assoc, List.drop_append, List.drop_of_length_le (by omega), Nat.add_sub_cancel_left,
    List.drop_append_of_le_length (by simp; omega), List.set_eq_take_append_cons_drop, if_pos hj]
  simp
theorem st_mid {G : AH} {b o j : Nat} {P M R : List AV} {y : AV} (h : G.bk b = some ⟨P ++ (M ++ R), true⟩) (hP : P.length = o) (hj : j < M.length) : G.store b (o + j) [y] = some (G.put b (some ⟨P ++ (M.set j y ++ R), true⟩)) := by
  rw [store_bk h (by simp; omega), splice_mid hP hj]
theorem ld_mid {G : AH} {b o j : Nat} {P M R : List AV} {q : Bool} (h : G.bk b = some ⟨P ++ (M ++ R), q⟩) (hP : P.length = o) (hj : j < M.length) : G.load b (o + j) = M[j]? := by
  rw [load_bk h]; subst hP
  rw [List.getElem?_append_right (by omega), Nat.add_sub_cancel_left, List.getElem?_append_left hj]
def MaE (f : Exs) : Prop := ∀ {H : AH} {K : AV → AH → Prop} {w : Fk K} {v : AV} {fp : List Nat} {k : Int}, OE H v f fp → fp.Nodup → 0 ≤ k ∧ k + 2 * nE f ≤ 1125899906842624 →
  (∀ H', OE H' v (mkE k f) fp → Only fp H H' → K (.I (k + 2 * nE f)) H') → CallF Cd f_wmarkExprS [v, .I k] H K w
theorem K_wmarkExprS_l {H0 : AH} {b len : Nat} {cap : ACap} {ex : List AV} {T : Exs} {fpT : List Nat} {kf : Int} {Q : Out → Env → AH → Prop} (hlen : len ≤ 8589934592)
    (hQ : ∀ e G' cs, G'.bk b = some ⟨cs ++ ex, true⟩ → OEF G' T cs fpT → Only (b :: fpT) H0 G' → get e 1 = some (.I kf) → Q (.brk 0) e G') (suf : Exs) :
    ∀ (ih : ∀ e ∈ suf.list, MaE e.args) (pre : List Ex) (done cur : List AV) (f1 f2 : List Nat) {k : Int} {G : AH} (hG : G.bk b = some ⟨done ++ (cur ++ ex), true⟩) (hb : b < G.n) (hp : OEF G (Exs.of pre) done f1) (hs : OEF G suf cur f2) (hn : (b :: fpT).Nodup) (hfp : fpT = f1 ++ f2)
      (hl : pre.length + suf.list.length = len) (hT : T.list = pre ++ (mkE k suf).list) (hO : Only (b :: fpT) H0 G) (hk : 0 ≤ k ∧ k + 2 * nE suf ≤ 1125899906842624) (hkf : kf = k + 2 * nE suf),
    W Cd (.loop c_wmarkExprS_l0) [(0, .sl b 0 len cap), (1, .I k), (5, .I pre.length)] G Q := by
  induction suf with
  | nil =>
    intro ih pre done cur f1 f2 k G hG hb hp hs hn hfp hl hT hO hk hkf
    rw [W_loop_as c_wmarkExprS_l0.eq_1]
    obtain ⟨rfl, rfl⟩ := hs
    simp only [Exs.list, List.length_nil, Nat.add_zero] at hl
    subst hl
    simp only [mkE, Exs.list, List.append_nil] at hT hfp
    simp
    refine hQ _ G done (by simpa using hG) ?_ hO (by simp [get, hkf, nE])
    rw [← Exs.of_list T, hT, hfp]
    exact hp
  | cons op n a r iha ihr =>
    intro ih pre done cur f1 f2 k G hG hb hp hs hn hfp hl hT hO hk hkf
    rw [W_loop_as c_wmarkExprS_l0.eq_1]
    obtain ⟨v, cr, fa, fr, rfl, oa, or_, rfl⟩ := OEF_cons.1 hs
    simp only [Exs.list, List.length_cons] at hl
    simp only [mkE, Exs.list, nE] at hT hk
    have hlt : (pre.length : Int) < len := by omega
    have hdl : done.length = pre.length * 3 := by rw [hp.len, Exs.list_of]
    have hn' := hn
    rw [hfp] at hn'
    simp only [List.nodup_cons, List.mem_append, not_or, List.nodup_append, List.mem_append] at hn'
    obtain ⟨⟨nb1, nb2, nb3⟩, nd1, ⟨nda, ndr, dar⟩, d1⟩ := hn'
    have hG0 : G.bk b = some ⟨done ++ ([.I op, .I n, v] ++ (cr ++ ex)), true⟩ := by rw [hG]; simp
    have st0 : G.store b (pre.length * 3 + 0) [.I k] = some (G.put b (some ⟨done ++ ([.I k, .I n, v] ++ (cr ++ ex)), true⟩)) := st_mid hG0 hdl (by simp)
    have st1 : (G.put b (some ⟨done ++ ([.I k, .I n, v] ++ (cr ++ ex)), true⟩)).store b (pre.length * 3 + 1) [.I (k + 1)] = some (G.put b (some ⟨done ++ ([.I k, .I (k + 1), v] ++ (cr ++ ex)), true⟩)) := by
      rw [st_mid (P := done) (M := [.I k, .I n, v]) (R := cr ++ ex) put_same hdl (by simp), put_put]; rfl
    obtain ⟨G1, hG1⟩ : ∃ G1, G1 = G.put b (some ⟨done ++ ([.I k, .I (k + 1), v] ++ (cr ++ ex)), true⟩) := ⟨_, rfl⟩
    have b1 : G1.bk b = some ⟨done ++ ([.I k, .I (k + 1), v] ++ (cr ++ ex)), true⟩ := by rw [hG1, put_same]
    have o1 : Only [b] G G1 := by rw [hG1]; exact Only.refl.put (.inr (by simp))
    have n1 : G1.n = G.n := by rw [hG1]; simp
    have ld : G1.load b (pre.length * 3 + 2) = some v := ld_mid b1 hdl (by simp)
    rw [← hG1] at st1
    simp only [Nat.add_zero] at st0
    simp only [List.cons_append, List.nil_append] at st0 st1
    simp (disch := omega) [hlt, st0, st1, ld]
    rw [show k + 1 + 1 = k + 2 by omega]
    refine ih ⟨op, n, a⟩ List.mem_cons_self (oa.only o1 (fun x hx hm => by simp at hm; subst hm; exact nb2 hx)) nda ⟨by omega, by simp only; omega⟩ fun G2 oa2 on2 => ?_
    have n2 := on2.1
    have b2 := on2.bk (by omega) nb2 b1
    have o2 : Only (b :: fpT) H0 G2 := (hO.trans (o1.mono (fun x hx => .inl (by simp at hx; simp [hx])))).trans (on2.mono (fun x hx => .inl (by rw [hfp]; simp [hx])))
    have hp2 : OEF G2 (Exs.of (pre ++ [⟨k, k + 1, mkE (k + 2) a⟩])) (done ++ [.I k, .I (k + 1), v]) (f1 ++ fa) :=
      OEF.snoc ((hp.only o1 (fun x hx hm => by simp at hm; subst hm; exact nb1 hx)).only on2 (fun x hx hm => d1 x hx x (.inl hm) rfl)) oa2
    have hr2 : OEF G2 r cr fr := (or_.only o1 (fun x hx hm => by simp at hm; subst hm; exact nb3 hx)).only on2 (fun x hx hm => dar x hm x hx rfl)
    have hr := ihr (fun e he => ih e (List.mem_cons_of_mem _ he)) (pre ++ [⟨k, k + 1, mkE (k + 2) a⟩]) (done ++ [.I k, .I (k + 1), v]) cr (f1 ++ fa) fr (k := k + 2 + 2 * nE a) (by rw [b2]; simp) (by omega) hp2 hr2 hn (by rw [hfp]; simp) (by simp; omega) (by rw [hT]; simp) o2 ⟨by omega, by omega⟩ (by rw [hkf, nE]; push_cast; omega)
    simp (disch := omega)
    simpa using hr
theorem K_wmarkExprS (a : Exs) : MaE a := by
  induction a using Exs.ind with
  | h a ih =>
  intro H K w v fp k h hn hk c
  obtain ⟨b, ca, fa, ⟨h1, h2, ⟨rfl, h3⟩ | ⟨cap, ex, rfl, h3, h4, h5⟩⟩, h6, rfl⟩ := h
  · have ha : a = .nil := by rw [← Exs.of_list a, List.eq_nil_of_length_eq_zero h3]; rfl
    subst ha
    obtain ⟨rfl, rfl⟩ := h6
    rw [CallF_eq e_wmarkExprS rfl]
    simp
    rw [W_loop_as c_wmarkExprS_l0.eq_1]
    simp
    have := c H ⟨b, [], [], ⟨by simp [mkE], rfl, .inl ⟨rfl, rfl⟩⟩, ⟨rfl, rfl⟩, rfl⟩ Only.refl
    simpa [nE] using this
  · rw [CallF_eq e_wmarkExprS rfl]
    simp
    have := K_wmarkExprS_l (H0 := H) (b := b) (len := a.list.length) (cap := cap) (ex := ex) (T := mkE k a) (fpT := fa) (kf := k + 2 * nE a) (Q := ?_) h1 ?_ a ih [] [] ca [] fa (k := k) (by simpa using h5) h4 ⟨rfl, rfl⟩ h6 (by simpa [grB] using hn) rfl (by simp) rfl Only.refl hk rfl
    · simpa using this
    · intro e G' cs g1 g2 g3 g4
      simp [g4]
      refine c G' ⟨b, cs, fa, ⟨by rw [mkE_len]; exact h1, g2.len, .inr ⟨cap, ex, by rw [mkE_len], by rw [mkE_len]; exact h3, Nat.lt_of_lt_of_le h4 g3.1, g1⟩⟩, g2, rfl⟩ g3
def MaS (f : Sts) : Prop := ∀ {H : AH} {K : AV → AH → Prop} {w : Fk K} {v : AV} {fp : List Nat} {k : Int}, OT H v f fp → fp.Nodup → 0 ≤ k ∧ k + mS f ≤ 1125899906842624 →
  (∀ H', OT H' v (mkS k f) fp → Only fp H H' → K (.I (k + mS f)) H') → CallF Cd f_wmarkStmtS [v, .I k] H K w
theorem K_wmarkStmtS_l {H0 : AH} {b len : Nat} {cap : ACap} {ex : List AV} {T : Sts} {fpT : List Nat} {kf : Int} {Q : Out → Env → AH → Prop} (hlen : len ≤ 8589934592)
    (hQ : ∀ e G' cs, G'.bk b = some ⟨cs ++ ex, true⟩ → OSF G' T cs fpT → Only (b :: fpT) H0 G' → get e 1 = some (.I kf) → Q (.brk 0) e G') (suf : Sts) :
    ∀ (ih : ∀ s ∈ suf.list, MaS s.body ∧ MaS s.els) (pre : List St1) (done cur : List AV) (f1 f2 : List Nat) {k : Int} {G : AH} (hG : G.bk b = some ⟨done ++ (cur ++ ex), true⟩) (hb : b < G.n) (hp : OSF G (Sts.of pre) done f1) (hs : OSF G suf cur f2) (hn : (b :: fpT).Nodup) (hfp : fpT = f1 ++ f2)
      (hl : pre.length + suf.list.length = len) (hT : T.list = pre ++ (mkS k suf).list) (hO : Only (b :: fpT) H0 G) (hk : 0 ≤ k ∧ k + mS suf ≤ 1125899906842624) (hkf : kf = k + mS suf),
    W Cd (.loop c_wmarkStmtS_l0) [(0, .sl b 0 len cap), (1, .I k), (5, .I pre.length)] G Q := by
  induction suf with
  | nil =>
    intro ih pre done cur f1 f2 k G hG hb hp hs hn hfp hl hT hO hk hkf
    rw [W_loop_as c_wmarkStmtS_l0.eq_1]
    obtain ⟨rfl, rfl⟩ := hs
    simp only [Sts.list, List.length_nil, Nat.add_zero] at hl
    subst hl
    simp only [mkS, Sts.list, List.append_nil] at hT hfp
    simp
    refine hQ _ G done (by simpa using hG) ?_ hO (by simp [get, hkf, mS])
    rw [← Sts.of_list T, hT, hfp]
    exact hp
  | cons k0 v0 b0 e0 y z r ihy ihz ihr =>
    intro ih pre done cur f1 f2 k G hG hb hp hs hn hfp hl hT hO hk hkf
    rw [W_loop_as c_wmarkStmtS_l0.eq_1]
    obtain ⟨va, vy, vz, cr, fa, fy, fz, fr, rfl, oa, oy, oz, or_, rfl⟩ := OSF_cons.1 hs
    obtain ⟨k1, hk1⟩ : ∃ k1, k1 = k + 5 + 2 * (nE e0.args : Int) := ⟨_, rfl⟩
    obtain ⟨k2, hk2⟩ : ∃ k2, k2 = k1 + (mS y : Int) := ⟨_, rfl⟩
    obtain ⟨k3, hk3⟩ : ∃ k3, k3 = k2 + (mS z : Int) := ⟨_, rfl⟩
    simp only [Sts.list, List.length_cons] at hl
    simp only [mkS, Sts.list, mS] at hT hk
    rw [← hk1, ← hk2, ← hk3] at hT
    have hlt : (pre.length : Int) < len := by omega
    have hdl : done.length = pre.length * 8 := by rw [hp.len, Sts.list_of]
    have hn' := hn
    rw [hfp] at hn'
    simp only [List.nodup_cons, List.mem_append, not_or, List.nodup_append, List.mem_append] at hn'
    obtain ⟨⟨nb1, ⟨nba, nby, nbz⟩, nbr⟩, nd1, ⟨⟨nda, ⟨ndy, ndz, dyz⟩, dayz⟩, ndr, dr⟩, d1⟩ := hn'
    have hG0 : G.bk b = some ⟨done ++ ([.I k0, .I v0, .I b0, .I e0.op, .I e0.n, va, vy, vz] ++ (cr ++ ex)), true⟩ := by rw [hG]; simp
    have st0 : G.store b (pre.length * 8 + 0) [.I k] = some (G.put b (some ⟨done ++ ([.I k, .I v0, .I b0, .I e0.op, .I e0.n, va, vy, vz] ++ (cr ++ ex)), true⟩)) := st_mid hG0 hdl (by simp)
    have st1 : (G.put b (some ⟨done ++ ([.I k, .I v0, .I b0, .I e0.op, .I e0.n, va, vy, vz] ++ (cr ++ ex)), true⟩)).store b (pre.length * 8 + 1) [.I (k + 1)] = some (G.put b (some ⟨done ++ ([.I k, .I (k + 1), .I b0, .I e0.op, .I e0.n, va, vy, vz] ++ (cr ++ ex)), true⟩)) := by
      rw [st_mid (P := done) (M := [.I k, .I v0, .I b0, .I e0.op, .I e0.n, va, vy, vz]) (R := cr ++ ex) put_same hdl (by simp), put_put]; rfl
    have st2 : (G.put b (some ⟨done ++ ([.I k, .I (k + 1), .I b0, .I e0.op, .I e0.n, va, vy, vz] ++ (cr ++ ex)), true⟩)).store b (pre.length * 8 + 2) [.I (k + 1 + 1)] = some (G.put b (some ⟨done ++ ([.I k, .I (k + 1), .I (k + 1 + 1), .I e0.op, .I e0.n, va, vy, vz] ++ (cr ++ ex)), true⟩)) := by
      rw [st_mid (P := done) (M := [.I k, .I (k + 1), .I b0, .I e0.op, .I e0.n, va, vy, vz]) (R := cr ++ ex) put_same hdl (by simp), put_put]; rfl
    have st3 : (G.put b (some ⟨done ++ ([.I k, .I (k + 1), .I (k + 1 + 1), .I e0.op, .I e0.n, va, vy, vz] ++ (cr ++ ex)), true⟩)).store b (pre.length * 8 + 3) [.I (k + 1 + 1 + 1)] = some (G.put b (some ⟨done ++ ([.I k, .I (k + 1), .I (k + 1 + 1), .I (k + 1 + 1 + 1), .I e0.n, va, vy, vz] ++ (cr ++ ex)), true⟩)) := by
      rw [st_mid (P := done) (M := [.I k, .I (k + 1), .I (k + 1 + 1), .I e0.op, .I e0.n, va, vy, vz]) (R := cr ++ ex) put_same hdl (by simp), put_put]; rfl
    have st4 : (G.put b (some ⟨done ++ ([.I k, .I (k + 1), .I (k + 1 + 1), .I (k + 1 + 1 + 1), .I e0.n, va, vy, vz] ++ (cr ++ ex)), true⟩)).store b (pre.length * 8 + 4) [.I (k + 1 + 1 + 1 + 1)] = some (G.put b (some ⟨done ++ ([.I k, .I (k + 1), .I (k + 2), .I (k + 3), .I (k + 4), va, vy, vz] ++ (cr ++ ex)), true⟩)) := by
      rw [st_mid (P := done) (M := [.I k, .I (k + 1), .I (k + 1 + 1), .I (k + 1 + 1 + 1), .I e0.n, va, vy, vz]) (R := cr ++ ex) put_same hdl (by simp), put_put]
      rw [show k + 1 + 1 = k + 2 by omega, show k + 2 + 1 = k + 3 by omega, show k + 3 + 1 = k + 4 by omega]; rfl
    obtain ⟨M, hM⟩ : ∃ M : List AV, M = [.I k, .I (k + 1), .I (k + 2), .I (k + 3), .I (k + 4), va, vy, vz] := ⟨_, rfl⟩
    rw [← hM] at st4
    have hMl : M.length = 8 := by rw [hM]; rfl
    obtain ⟨G1, hG1⟩ : ∃ G1, G1 = G.put b (some ⟨done ++ (M ++ (cr ++ ex)), true⟩) := ⟨_, rfl⟩
    have b1 : G1.bk b = some ⟨done ++ (M ++ (cr ++ ex)), true⟩ := by rw [hG1, put_same]
    have o1 : Only [b] G G1 := by rw [hG1]; exact Only.refl.put (.inr (by simp))
    have n1 : G1.n = G.n := by rw [hG1]; simp
    have ld1 : G1.load b (pre.length * 8 + 5) = some va := by rw [ld_mid b1 hdl (by omega), hM]; rfl
    rw [← hG1] at st4
    simp only [Nat.add_zero] at st0
    simp only [List.cons_append, List.nil_append] at st0 st1 st2 st3 st4
    simp (disch := omega) [hlt, st0, st1, st2, st3, st4, ld1]
    rw [show k + 1 + 1 + 1 + 1 + 1 = k + 5 by omega]
    have no1 : ∀ {fp : List Nat}, b ∉ fp → ∀ x ∈ fp, x ∉ [b] := fun h x hx hm => by simp at hm; subst hm; exact h hx
    refine K_wmarkExprS _ (oa.only o1 (no1 nba)) nda ⟨by omega, by omega⟩ fun G2 oa2 on2 => ?_
    have n2 := on2.1
    have b2 := on2.bk (by omega) nba b1
    have ld2 : G2.load b (pre.length * 8 + 6) = some vy := by rw [ld_mid b2 hdl (by omega), hM]; rfl
    rw [← hk1]
    simp (disch := omega) [ld2]
    refine (ih _ List.mem_cons_self).1 ((oy.only o1 (no1 nby)).only on2 (fun x hx hm => dayz x hm x (.inl hx) rfl)) ndy ⟨by omega, by simp only; omega⟩ fun G3 oy3 on3 => ?_
    have n3 := on3.1
    have b3 := on3.bk (by omega) nby b2
    have ld3 : G3.load b (pre.length * 8 + 7) = some vz := by rw [ld_mid b3 hdl (by omega), hM]; rfl
    simp only
    rw [← hk2]
    simp (disch := omega) [ld3]
    refine (ih _ List.mem_cons_self).2 (((oz.only o1 (no1 nbz)).only on2 (fun x hx hm => dayz x hm x (.inr hx) rfl)).only on3 (fun x hx hm => dyz x hm x hx rfl)) ndz ⟨by omega, by simp only; omega⟩ fun G4 oz4 on4 => ?_
    have n4 := on4.1
    have b4 := on4.bk (by omega) nbz b3
    simp only
    rw [← hk3]
    have o4 : Only (b :: fpT) H0 G4 := (((hO.trans (o1.mono (fun x hx => .inl (by simp at hx; simp [hx])))).trans (on2.mono (fun x hx => .inl (by rw [hfp]; simp [hx])))).trans (on3.mono (fun x hx => .inl (by rw [hfp]; simp [hx])))).trans (on4.mono (fun x hx => .inl (by rw [hfp]; simp [hx])))
    have hs1 : O1 G4 M ⟨k, k + 1, k + 2, ⟨k + 3, k + 4, mkE (k + 5) e0.args⟩, mkS k1 y, mkS k2 z⟩ (fa ++ (fy ++ fz)) :=
      ⟨va, vy, vz, fa, fy, fz, hM, (oa2.only on3 (fun x hx hm => dayz x hx x (.inl hm) rfl)).only on4 (fun x hx hm => dayz x hx x (.inr hm) rfl), oy3.only on4 (fun x hx hm => dyz x hx x hm rfl), oz4, rfl⟩
    have hp4 : OSF G4 (Sts.of (pre ++ [⟨k, k + 1, k + 2, ⟨k + 3, k + 4, mkE (k + 5) e0.args⟩, mkS k1 y, mkS k2 z⟩])) (done ++ M) (f1 ++ (fa ++ (fy ++ fz))) :=
      OSF.snoc ((((hp.only o1 (no1 nb1)).only on2 (fun x hx hm => d1 x hx x (.inl (.inl hm)) rfl)).only on3 (fun x hx hm => d1 x hx x (.inl (.inr (.inl hm))) rfl)).only on4 (fun x hx hm => d1 x hx x (.inl (.inr (.inr hm))) rfl)) hs1
    have hr4 : OSF G4 r cr fr := (((or_.only o1 (no1 nbr)).only on2 (fun x hx hm => dr x (.inl hm) x hx rfl)).only on3 (fun x hx hm => dr x (.inr (.inl hm)) x hx rfl)).only on4 (fun x hx hm => dr x (.inr (.inr hm)) x hx rfl)
    have hr := ihr (fun e he => ih e (List.mem_cons_of_mem _ he)) (pre ++ [⟨k, k + 1, k + 2, ⟨k + 3, k + 4, mkE (k + 5) e0.args⟩, mkS k1 y, mkS k2 z⟩]) (done ++ M) cr (f1 ++ (fa ++ (fy ++ fz))) fr (k := k3) (by rw [b4]; simp) (by omega) hp4 hr4 hn (by rw [hfp]; simp) (by simp; omega) (by rw [hT]; simp) o4 ⟨by omega, by omega⟩ (by rw [hkf, mS]; push_cast; omega)
    simp (disch := omega)
    simpa using hr
theorem K_wmarkStmtS (a : Sts) : MaS a := by
  induction a using Sts.ind with
  | h a ih =>
  intro H K w v fp k h hn hk c
  obtain ⟨b, ca, fa, ⟨h1, h2, ⟨rfl, h3⟩ | ⟨cap, ex, rfl, h3, h4, h5⟩⟩, h6, rfl⟩ := h
  · have ha : a = .nil := by rw [← Sts.of_list a, List.eq_nil_of_length_eq_zero h3]; rfl
    subst ha
    obtain ⟨rfl, rfl⟩ := h6
    rw [CallF_eq e_wmarkStmtS rfl]
    simp
    rw [W_loop_as c_wmarkStmtS_l0.eq_1]
    simp
    have := c H ⟨b, [], [], ⟨by simp [mkS], rfl, .inl ⟨rfl, rfl⟩⟩, ⟨rfl, rfl⟩, rfl⟩ Only.refl
    simpa [mS] using this
  · rw [CallF_eq e_wmarkStmtS rfl]
    simp
    have := K_wmarkStmtS_l (H0 := H) (b := b) (len := a.list.length) (cap := cap) (ex := ex) (T := mkS k a) (fpT := fa) (kf := k + mS a) (Q := ?_) h1 ?_ a ih [] [] ca [] fa (k := k) (by simpa using h5) h4 ⟨rfl, rfl⟩ h6 (by simpa [grB] using hn) rfl (by simp) rfl Only.refl hk rfl
    · simpa using this
    · intro e G' cs g1 g2 g3 g4
      simp [g4]
      refine c G' ⟨b, cs, fa, ⟨by rw [mkS_len]; exact h1, g2.len, .inr ⟨cap, ex, by rw [mkS_len], by rw [mkS_len]; exact h3, Nat.lt_of_lt_of_le h4 g3.1, g1⟩⟩, g2, rfl⟩ g3
theorem K_wmarkTask {H : AH} {K : AV → AH → Prop} {w : Fk K} {v r : AV} {b : Nat} {fp : List Nat} {k : Int} {l : List Int} {f : Sts} (h : OI H v b l) (g : OT H r f fp) (hn : fp.Nodup) (hd : ∀ x ∈ grB v b, x ∉ fp) (hk : 0 ≤ k ∧ k ≤ 1099511627776) (hm : k + l.length + mS f ≤ 1125899906842624)
    (c : ∀ H', OI H' v b (nums k l.length) → OT H' r (mkS (k + l.length) f) fp → Only (grB v b ++ fp) H H' → K (.I (k + l.length + mS f)) H') : CallF Cd f_wmarkTask [.agg [v, r], .I k] H K w := by
  rw [CallF_eq e_wmarkTask rfl]
  have x0 := Ext.push H [v, r]
  have q0 : (H.push [v, r]).bk H.n = some ⟨[v, r], true⟩ := push_new
  simp [load_push]
  refine K_wmarkI (h.ext x0) (by omega) fun H1 o1 on1 => ?_
  have n1 := on1.1
  simp only [push_n] at n1
  have hb1 : H.n ∉ grB v b := fun hm => by have := h.mem hm; omega
  have q1 := on1.bk (by simp) hb1 q0
  simp [load_bk q1]
  refine K_wmarkStmtS f ((g.ext x0).only on1 (fun x hx hm => hd x hm hx)) hn ⟨by omega, by omega⟩ fun H2 o2 on2 => ?_
  simp
  exact c H2 (o1.only on2 (fun x hx => hd x hx)) o2 ((x0.only.trans (on1.mono (fun x hx => .inl (by simp [hx])))).trans (on2.mono (fun x hx => .inl (by simp [hx]))))
end Go.Proofs.YtcibjklpaljadaaGreat.AM
namespace Go.Proofs.YtcibjklpaljadaaGreat.AM
set_option linter.unusedSimpArgs false
set_option linter.unusedVariables false
set_option maxRecDepth 100000
set_option maxHeartbeats 4000000
open Go
attribute [-simp] AM.elems
def AS (H : AH) (v : AV) (n sz : Nat) (P : List AV → Prop) : Prop := alen v = some n ∧ n ≤ 9223372036854775807 ∧ v.flat = true ∧ (n ≤ 8589934592 → ∃ ca, SlC (fun _ => True) H v n sz ca ∧ P ca)
theorem AS.imp {H H' : AH} {v n sz} {P P' : List AV → Prop} (h : AS H v n sz P) (k : Ext H H') (i : ∀ c, P c → P' c) : AS H' v n sz P' := ⟨h.1, h.2.1, h.2.2.1, fun q => let ⟨ca, h1, h2⟩ := h.2.2.2 q; ⟨ca, h1.mono k.1 (fun b _ hb => k.2 b hb) (fun _ h _ => h), i ca h2⟩⟩
def AEF (H : AH) : Exs → List AV → Prop
  | .nil, cs => cs = []
  | .cons op n a r, cs => ∃ v cr, cs = .I op :: .I n :: v :: cr ∧ AS H v a.list.length 3 (AEF H a) ∧ AEF H r cr
def AE (H : AH) (v : AV) (a : Exs) : Prop := AS H v a.list.length 3 (AEF H a)
theorem AEF.ext {H H' : AH} (k : Ext H H') : ∀ {f : Exs} {cs}, AEF H f cs → AEF H' f cs
  | .nil, _, h => h
  | .cons _ _ a _, _, ⟨v, cr, h1, h2, h3⟩ => ⟨v, cr, h1, h2.imp k (fun c hc => AEF.ext k hc), AEF.ext k h3⟩
theorem AE.ext {H H' v a} (h : AE H v a) (k : Ext H H') : AE H' v a := AS.imp h k fun c hc => AEF.ext k hc
theorem AEF.get {H : AH} : ∀ {f : Exs} {cs}, AEF H f cs → ∀ {i e}, f.list[i]? = some e → ∃ v, seg cs (i * 3) 3 = some [.I e.op, .I e.n, v] ∧ AE H v e.args
  | .nil, _, _, i, e, hi => by simp at hi
  | .cons op n a r, _, ⟨v, cr, h1, h2, h4⟩, i, e, hi => by
    subst h1
    cases i with
    | zero =>
      simp at hi; subst hi
      exact ⟨v, by simp [seg], h2⟩
    | succ i =>
      obtain ⟨v', h5, h6⟩ := h4.get (i := i) (e := e) (by simpa using hi)
      refine ⟨v', ?_, h6⟩
      rw [← h5]
      unfold seg
      have : (i + 1) * 3 = i * 3 + 3 := by omega
      rw [this]
      rw [drop3]
      simp only [List.length_cons]
      by_cases hq : i * 3 + 3 ≤ cr.length
      · rw [if_pos (by omega), if_pos hq]
      · rw [if_neg (by omega), if_neg hq]
theorem AE.at {H v f} (h : AE H v f) (hb : f.list.length ≤ 8589934592) {i : Nat} {e : Ex} (hi : f.list[i]? = some e) : ∃ b o cap va, v = .sl b o f.list.length cap ∧ b < H.n ∧ H.loadN b (o + i * 3) 3 = some [.I e.op, .I e.n, va] ∧ AE H va e.args := by
  obtain ⟨ca, h1, h2⟩ := h.2.2.2 hb
  have hl := (List.getElem?_eq_some_iff.1 hi).1
  obtain ⟨b, o, cap, e1, e2, e3, e4⟩ := h1.at hl
  obtain ⟨c, e5, e6⟩ := h2.get hi
  exact ⟨b, o, cap, c, e1, e3, by rw [e4 _ _ (by omega)]; exact e5, e6⟩
theorem AEF.ef {H : AH} : ∀ {f : Exs} {cs}, AEF H f cs → nE f ≤ 8589934592 → EF (fun _ => True) H f cs
  | .nil, _, h, _ => h
  | .cons _ _ a r, _, ⟨v, cr, h1, h2, h3⟩, hb => by
    have hl := @len_nE a
    simp only [nE] at hb
    obtain ⟨ca, g1, g2⟩ := h2.2.2.2 (by omega)
    exact ⟨v, ca, cr, h1, g1, AEF.ef g2 (by omega), AEF.ef h3 (by omega)⟩
theorem AE.ev {H v f} (h : AE H v f) (hb : nE f ≤ 8589934592) : EV (fun _ => True) H v f := by
  have hl := @len_nE f
  obtain ⟨ca, g1, g2⟩ := h.2.2.2 (by omega)
  exact ⟨ca, g1, g2.ef hb⟩
def SzE (f : Exs) : Prop := ∀ {H : AH} {K : AV → AH → Prop} {w : Fk K} {v : AV} {n : Int}, AE H v f → 0 ≤ n ∧ n ≤ 1048576 → (∀ H', Ext H H' → K (.I (-1)) H') → ((nE f : Int) ≤ n → ∀ H', Ext H H' → K (.I (n - nE f)) H') → CallF Cd f_wszExprS [v, .I n] H K w
theorem K_wszExpr {a : Exs} (hT : SzE a) {H : AH} {K : AV → AH → Prop} {w : Fk K} {v : AV} {op m n : Int} (h : AE H v a) (hn : 0 ≤ n ∧ n ≤ 1048576) (k0 : ∀ H', Ext H H' → K (.I (-1)) H') (k1 : (nE a : Int) ≤ n → ∀ H', Ext H H' → K (.I (n - nE a)) H') :
    CallF Cd f_wszExpr [.agg [.I op, .I m, v], .I n] H K w := by
  rw [CallF_eq e_wszExpr rfl]
  have x := Ext.push H [.I op, .I m, v]
  simp [load_push]
  refine hT (h.ext x) hn (fun H' x' => ?_) (fun hle H' x' => ?_)
  · simp
    exact k0 H' (x.trans x')
  · have hq : ¬ n - (nE a : Int) < 0 := by omega
    simp [hq]
    exact k1 hle H' (x.trans x')
theorem K_wszExprS_l {H0 : AH} {K : AV → AH → Prop} {v : AV} {T : Exs} (h : AE H0 v T) (hbig : T.list.length ≤ 1048576) {Q : Out → Env → AH → Prop} (hret : ∀ e H, Q .ret e H = bindO (get e 4) fun v => K v H) (hbad : ∀ H', Ext H0 H' → K (.I (-1)) H') {nf : Int}
    (hQ : ∀ e G', 0 ≤ nf → Ext H0 G' → get e 1 = some (.I nf) → Q (.brk 0) e G') (suf : Exs) :
    ∀ (ih : ∀ e ∈ suf.list, SzE e.args) (pre : List Ex) {n : Int} {G : AH} (hl : T.list = pre ++ suf.list) (hx : Ext H0 G) (hn : 0 ≤ n ∧ n ≤ 1048576) (hnf : nf = n + suf.list.length - nE suf), W Cd (.loop c_wszExprS_l0) [(0, v), (1, .I n), (5, .I pre.length)] G Q := by
  induction suf with
  | nil =>
    intro ih pre n G hl hx hn hnf
    rw [W_loop_as c_wszExprS_l0.eq_1]
    simp only [Exs.list, List.append_nil] at hl
    have hal := h.1
    rw [hl] at hal
    simp [hal]
    simp only [Exs.list, List.length_nil, nE] at hnf
    exact hQ _ G (by omega) hx (by simp [get]; omega)
  | cons op m a r iha ihr =>
    intro ih pre n G hl hx hn hnf
    rw [W_loop_as c_wszExprS_l0.eq_1]
    simp only [Exs.list, List.length_cons, nE] at hl hnf
    have hlen : T.list.length = pre.length + (r.list.length + 1) := by rw [hl]; simp
    have hlt' : (pre.length : Int) < T.list.length := by omega
    have hq : T.list[pre.length]? = some ⟨op, m, a⟩ := by rw [hl]; simp
    have hal := h.1
    obtain ⟨b, o, cap, va, e1, hb, l1, ea⟩ := (h.ext hx).at (by omega) hq
    subst e1
    simp (disch := omega) [hlt', l1]
    refine K_wszExpr (ih ⟨op, m, a⟩ List.mem_cons_self) ea hn (fun H2 x2 => ?_) (fun hle H2 x2 => ?_)
    · simp [hret]
      exact hbad H2 (hx.trans x2)
    · simp only at hle
      have hq1 : ¬ n - (nE a : Int) < 0 := by omega
      have hr := ihr (fun e he => ih e (List.mem_cons_of_mem _ he)) (pre ++ [⟨op, m, a⟩]) (n := n - nE a) (G := H2) (by rw [hl]; simp) (hx.trans x2) ⟨by omega, by omega⟩ (by rw [hnf]; push_cast; omega)
      simp (disch := omega) [hq1]
      simpa using hr
theorem K_wszExprS (a : Exs) : SzE a := by
  induction a using Exs.ind with
  | h a ih =>
  intro H K w v n h hn k0 k1
  rw [CallF_eq e_wszExprS rfl]
  have hb := h.2.1
  have hl := @len_nE a
  by_cases h0 : n - (a.list.length : Int) < 0
  · simp (disch := omega) [h.1, h0]
    exact k0 H (Ext.refl _)
  · simp (disch := omega) [h.1, h0]
    have := K_wszExprS_l (K := K) h (by omega) (Q := ?_) (fun e H => ?_) k0 (nf := n - nE a) ?_ a ih [] (n := n - a.list.length) (G := H) rfl (Ext.refl _) (by omega) (by omega)
    · simpa using this
    · simp
    · intro e G' g1 g2 g3
      simp [g3]
      exact k1 (by omega) G' g2
def ASF (H : AH) : Sts → List AV → Prop
  | .nil, cs => cs = []
  | .cons k v b e y z r, cs => ∃ va vy vz cr, cs = .I k :: .I v :: .I b :: .I e.op :: .I e.n :: va :: vy :: vz :: cr ∧ AE H va e.args ∧ AS H vy y.list.length 8 (ASF H y) ∧ AS H vz z.list.length 8 (ASF H z) ∧ ASF H r cr
def ATs (H : AH) (v : AV) (f : Sts) : Prop := AS H v f.list.length 8 (ASF H f)
theorem ASF.ext {H H' : AH} (k : Ext H H') : ∀ {f : Sts} {cs}, ASF H f cs → ASF H' f cs
  | .nil, _, h => h
  | .cons _ _ _ _ _ _ _, _, ⟨va, vy, vz, cr, h1, h2, h3, h4, h5⟩ => ⟨va, vy, vz, cr, h1, h2.ext k, h3.imp k (fun c hc => ASF.ext k hc), h4.imp k (fun c hc => ASF.ext k hc), ASF.ext k h5⟩
theorem ATs.ext {H H' v a} (h : ATs H v a) (k : Ext H H') : ATs H' v a := AS.imp h k fun c hc => ASF.ext k hc
def A1 (H : AH) (c : List AV) (s : St1) : Prop := ∃ va vy vz, c = [.I s.k, .I s.v, .I s.b, .I s.e.op, .I s.e.n, va, vy, vz] ∧ AE H va s.e.args ∧ ATs H vy s.body ∧ ATs H vz s.els
theorem ASF.get {H : AH} : ∀ {f : Sts} {cs}, ASF H f cs → ∀ {i s}, f.list[i]? = some s → ∃ c, seg cs (i * 8) 8 = some c ∧ A1 H c s
  | .nil, _, _, i, e, hi => by simp at hi
  | .cons k v b e y z r, _, ⟨va, vy, vz, cr, h1, h2, h3, h4, h7⟩, i, s, hi => by
    subst h1
    cases i with
    | zero =>
      simp at hi; subst hi
      exact ⟨[.I k, .I v, .I b, .I e.op, .I e.n, va, vy, vz], by simp [seg], va, vy, vz, rfl, h2, h3, h4⟩
    | succ i =>
      obtain ⟨v', h5, h6⟩ := h7.get (i := i) (s := s) (by simpa using hi)
      refine ⟨v', ?_, h6⟩
      rw [← h5]
      unfold seg
      have : (i + 1) * 8 = i * 8 + 8 := by omega
      rw [this]
      rw [drop8]
      simp only [List.length_cons]
      by_cases hq : i * 8 + 8 ≤ cr.length
      · rw [if_pos (by omega), if_pos hq]
      · rw [if_neg (by omega), if_neg hq]
theorem ATs.at {H v f} (h : ATs H v f) (hb : f.list.length ≤ 8589934592) {i : Nat} {s : St1} (hi : f.list[i]? = some s) : ∃ b o cap c, v = .sl b o f.list.length cap ∧ b < H.n ∧ H.loadN b (o + i * 8) 8 = some c ∧ A1 H c s := by
  obtain ⟨ca, h1, h2⟩ := h.2.2.2 hb
  have hl := (List.getElem?_eq_some_iff.1 hi).1
  obtain ⟨b, o, cap, e1, e2, e3, e4⟩ := h1.at hl
  obtain ⟨c, e5, e6⟩ := h2.get hi
  exact ⟨b, o, cap, c, e1, e3, by rw [e4 _ _ (by omega)]; exact e5, e6⟩
theorem ASF.sf {H : AH} : ∀ {f : Sts} {cs}, ASF H f cs → nS f ≤ 8589934592 → SF (fun _ => True) H f cs
  | .nil, _, h, _ => h
  | .cons _ _ _ e y z r, _, ⟨va, vy, vz, cr, h1, h2, h3, h4, h5⟩, hb => by
    have l1 := @len_nS y
    have l2 := @len_nS z
    simp only [nS] at hb
    obtain ⟨cy, g1, g2⟩ := h3.2.2.2 (by omega)
    obtain ⟨cz, g3, g4⟩ := h4.2.2.2 (by omega)
    exact ⟨va, vy, vz, cy, cz, cr, h1, h2.ev (by omega), g1, ASF.sf g2 (by omega), g3, ASF.sf g4 (by omega), ASF.sf h5 (by omega)⟩
theorem ATs.sv {H v f} (h : ATs H v f) (hb : nS f ≤ 8589934592) : SV (fun _ => True) H v f := by
  have hl := @len_nS f
  obtain ⟨ca, g1, g2⟩ := h.2.2.2 (by omega)
  exact ⟨ca, g1, g2.sf hb⟩
def SzS (f : Sts) : Prop := ∀ {H : AH} {K : AV → AH → Prop} {w : Fk K} {v : AV} {n : Int}, ATs H v f → 0 ≤ n ∧ n ≤ 1048576 → (∀ H', Ext H H' → K (.I (-1)) H') → ((nS f : Int) ≤ n → ∀ H', Ext H H' → K (.I (n - nS f)) H') → CallF Cd f_wszStmtS [v, .I n] H K w
theorem K_wszStmt {s : St1} (hy : SzS s.body) (hz : SzS s.els) {H : AH} {K : AV → AH → Prop} {w : Fk K} {c : List AV} {n : Int} (h : A1 H c s) (hn : 0 ≤ n ∧ n ≤ 1048576) (k0 : ∀ H', Ext H H' → K (.I (-1)) H')
    (k1 : ((nE s.e.args + nS s.body + nS s.els : Nat) : Int) ≤ n → ∀ H', Ext H H' → K (.I (n - nE s.e.args - nS s.body - nS s.els)) H') : CallF Cd f_wszStmt [.agg c, .I n] H K w := by
  obtain ⟨va, vy, vz, rfl, ea, ey, ez⟩ := h
  rw [CallF_eq e_wszStmt rfl]
  have x := Ext.push H [.I s.k, .I s.v, .I s.b, .I s.e.op, .I s.e.n, va, vy, vz]
  have q0 : (H.push [.I s.k, .I s.v, .I s.b, .I s.e.op, .I s.e.n, va, vy, vz]).bk H.n = some ⟨[.I s.k, .I s.v, .I s.b, .I s.e.op, .I s.e.n, va, vy, vz], true⟩ := push_new
  simp [loadN_push]
  refine K_wszExpr (K_wszExprS _) (ea.ext x) hn (fun H1 x1 => ?_) (fun hle H1 x1 => ?_)
  · simp
    exact k0 H1 (x.trans x1)
  have q1 := (x1.2 _ (by simp)).trans q0
  have c1 : ¬ n - (nE s.e.args : Int) < 0 := by omega
  simp [c1, load_bk q1]
  have y1 := x.trans x1
  have n1 := y1.1
  have n1' := x1.1
  simp only [push_n] at n1'
  refine hy (ey.ext y1) ⟨by omega, by omega⟩ (fun H2 x2 => ?_) (fun hle2 H2 x2 => ?_)
  · simp
    exact k0 H2 (y1.trans x2)
  have q2 := (x2.2 _ (by omega)).trans q1
  have c2 : ¬ n - (nE s.e.args : Int) - nS s.body < 0 := by omega
  simp [c2, load_bk q2]
  have y2 := y1.trans x2
  refine hz (ez.ext y2) ⟨by omega, by omega⟩ (fun H3 x3 => ?_) (fun hle3 H3 x3 => ?_)
  · simp
    exact k0 H3 (y2.trans x3)
  have c3 : ¬ n - (nE s.e.args : Int) - nS s.body - nS s.els < 0 := by omega
  simp [c3]
  exact k1 (by push_cast; omega) H3 (y2.trans x3)
theorem K_wszStmtS_l {H0 : AH} {K : AV → AH → Prop} {v : AV} {T : Sts} (h : ATs H0 v T) (hbig : T.list.length ≤ 1048576) {Q : Out → Env → AH → Prop} (hret : ∀ e H, Q .ret e H = bindO (get e 4) fun v => K v H) (hbad : ∀ H', Ext H0 H' → K (.I (-1)) H') {nf : Int}
    (hQ : ∀ e G', 0 ≤ nf → Ext H0 G' → get e 1 = some (.I nf) → Q (.brk 0) e G') (suf : Sts) :
    ∀ (ih : ∀ s ∈ suf.list, SzS s.body ∧ SzS s.els) (pre : List St1) {n : Int} {G : AH} (hl : T.list = pre ++ suf.list) (hx : Ext H0 G) (hn : 0 ≤ n ∧ n ≤ 1048576) (hnf : nf = n + suf.list.length - nS suf), W Cd (.loop c_wszStmtS_l0) [(0, v), (1, .I n), (5, .I pre.length)] G Q := by
  induction suf with
  | nil =>
    intro ih pre n G hl hx hn hnf
    rw [W_loop_as c_wszStmtS_l0.eq_1]
    simp only [Sts.list, List.append_nil] at hl
    have hal := h.1
    rw [hl] at hal
    simp [hal]
    simp only [Sts.list, List.length_nil, nS] at hnf
    exact hQ _ G (by omega) hx (by simp [get]; omega)
  | cons k0 v0 b0 e0 y z r ihy ihz ihr =>
    intro ih pre n G hl hx hn hnf
    rw [W_loop_as c_wszStmtS_l0.eq_1]
    simp only [Sts.list, List.length_cons, nS] at hl hnf
    have hlen : T.list.length = pre.length + (r.list.length + 1) := by rw [hl]; simp
    have hlt' : (pre.length : Int) < T.list.length := by omega
    have hq : T.list[pre.length]? = some ⟨k0, v0, b0, e0, y, z⟩ := by rw [hl]; simp
    have hal := h.1
    obtain ⟨b, o, cap, c, e1, hb, l1, ea⟩ := (h.ext hx).at (by omega) hq
    subst e1
    have c8 : c.length = 8 := by obtain ⟨_, _, _, rfl, _⟩ := ea; rfl
    simp (disch := omega) [hlt', l1, c8]
    refine K_wszStmt (ih _ List.mem_cons_self).1 (ih _ List.mem_cons_self).2 ea hn (fun H2 x2 => ?_) (fun hle H2 x2 => ?_)
    · simp [hret]
      exact hbad H2 (hx.trans x2)
    · simp only at hle
      have hq1 : ¬ n - (nE e0.args : Int) - nS y - nS z < 0 := by omega
      have hr := ihr (fun e he => ih e (List.mem_cons_of_mem _ he)) (pre ++ [⟨k0, v0, b0, e0, y, z⟩]) (n := n - nE e0.args - nS y - nS z) (G := H2) (by rw [hl]; simp) (hx.trans x2) ⟨by omega, by omega⟩ (by rw [hnf]; push_cast; omega)
      simp (disch := omega) [hq1]
      simpa using hr
theorem K_wszStmtS (a : Sts) : SzS a := by
  induction a using Sts.ind with
  | h a ih =>
  intro H K w v n h hn k0 k1
  rw [CallF_eq e_wszStmtS rfl]
  have hb := h.2.1
  have hl := @len_nS a
  by_cases h0 : n - (a.list.length : Int) < 0
  · simp (disch := omega) [h.1, h0]
    exact k0 H (Ext.refl _)
  · simp (disch := omega) [h.1, h0]
    have := K_wszStmtS_l (K := K) h (by omega) (Q := ?_) (fun e H => ?_) k0 (nf := n - nS a) ?_ a ih [] (n := n - a.list.length) (G := H) rfl (Ext.refl _) (by omega) (by omega)
    · simpa using this
    · simp
    · intro e G' g1 g2 g3
      simp [g3]
      exact k1 (by omega) G' g2
theorem K_wszTask {H : AH} {K : AV → AH → Prop} {w : Fk K} {vv vr : AV} {l : List Int} {f : Sts} {n : Int} (h : ArgI H vv l) (g : ATs H vr f) (hn : 0 ≤ n ∧ n ≤ 1048576) (k0 : ∀ H', Ext H H' → K (.I (-1)) H')
    (k1 : (l.length : Int) + nS f ≤ n → ∀ H', Ext H H' → K (.I (n - l.length - nS f)) H') : CallF Cd f_wszTask [.agg [vv, vr], .I n] H K w := by
  rw [CallF_eq e_wszTask rfl]
  have x := Ext.push H [vv, vr]
  have cc := k0 _ x
  by_cases h0 : n - (l.length : Int) < 0
  · simp (disch := omega) [load_push, K_wszIntS' h.1 h.2.1, h0]
    exact cc
  · simp (disch := omega) [load_push, K_wszIntS' h.1 h.2.1, h0]
    have hb := h.2.1
    refine K_wszStmtS f (g.ext x) ⟨by omega, by omega⟩ (fun H1 x1 => ?_) (fun hle H1 x1 => ?_)
    · simp
      exact k0 H1 (x.trans x1)
    · have hq : ¬ n - (l.length : Int) - nS f < 0 := by omega
      simp [hq]
      exact k1 (by omega) H1 (x.trans x1)
end Go.Proofs.YtcibjklpaljadaaGreat.AM
namespace Go.Proofs.YtcibjklpaljadaaGreat.AM
set_option linter.unusedSimpArgs false
set_option linter.unusedVariables false
set_option maxRecDepth 100000
set_option maxHeartbeats 4000000
open Go
attribute [-simp] AM.elems
theorem beside {base n sz : Nat} {G' : AH} {g g' : AV} {cs : List AV} {B B' m : Nat} (a2 : GrS base G' g' n sz cs B') (a3 : (B' = B ∧ B ∈ grB g B) ∨ B' = m) {x : Nat} (h1 : x ∉ grB g B) (h2 : x < m) : x ∉ grB g' B' := fun hm => by
  have := a2.mem hm
  rcases a3 with q | q
  · exact h1 (by rw [this.1, q.1]; exact q.2)
  · omega
def CopyEO (a : Exs) : Prop := ∀ {ok : Nat → Prop} {H : AH} {K : AV → AH → Prop} {w : Fk K} {op n : Int} {v : AV}, EV ok H v a → a.list.length ≤ 1000 →
    (∀ v' fp H', OE H' v' a fp → fp.Nodup → (∀ x ∈ fp, H.n ≤ x) → Ext H H' → K (.agg [.I op, .I n, v']) H') → CallF Cd f_iexprCopy [.agg [.I op, .I n, v]] H K w
theorem K_iexprCopyO_l {a : Exs} (ih : ∀ e ∈ a.list, CopyEO e.args) (hsm : ∀ e ∈ a.list, e.args.list.length ≤ 1000) (ham : a.list.length ≤ 1000) {lo base R P : Nat} {op n : Int} {v : AV} (hlo : lo ≤ P) (hP : P < base) {Q : Out → Env → AH → Prop} (m i : Nat) (him : i + m = a.list.length)
    {G : AH} {g : AV} {cs : List AV} {B : Nat} {fp : List Nat} (hb : base ≤ G.n) (hv : EV (fun b => b < lo) G v a) (hg : GrS base G g i 3 cs B) (gP : G.bk P = some ⟨[.I op, .I n, g], true⟩) (he : OEF G (Exs.of (a.list.take i)) cs fp) (hn : fp.Nodup) (hfp : ∀ x ∈ fp, base ≤ x ∧ x ∉ grB g B)
    (hQ : ∀ G' g' cs' B' fp', GrS base G' g' a.list.length 3 cs' B' → G'.bk P = some ⟨[.I op, .I n, g'], true⟩ → OEF G' a cs' fp' → fp'.Nodup → (∀ x ∈ fp', base ≤ x ∧ x ∉ grB g' B') → (∀ b, b < base → b ≠ P → G'.bk b = G.bk b) → G.n ≤ G'.n →
      Q (.brk 0) [(15, .b false), (2, .ptr R 0), (3, .ptr P 0), (12, v), (13, .I a.list.length), (14, .I a.list.length)] G') :
    W Cd (.loop c_iexprCopy_l0) [(2, .ptr R 0), (3, .ptr P 0), (12, v), (13, .I a.list.length), (14, .I i)] G Q := by
  induction m generalizing i G g cs B fp with
  | zero =>
    rw [W_loop_as c_iexprCopy_l0.eq_1]
    have hi : i = a.list.length := by omega
    subst hi
    simp
    rw [List.take_length, Exs.of_list] at he
    exact hQ G g cs B fp hg gP he hn hfp (fun _ _ _ => rfl) (Nat.le_refl _)
  | succ m ihm =>
    rw [W_loop_as c_iexprCopy_l0.eq_1]
    have hi : i < a.list.length := by omega
    have hlt : (i : Int) < a.list.length := by omega
    obtain ⟨e, he1⟩ : ∃ e, a.list[i]? = some e := ⟨_, List.getElem?_eq_getElem hi⟩
    have hmem := List.mem_of_getElem? he1
    obtain ⟨b, o, cap, va, rfl, ob, hbn, l1, ev⟩ := hv.at he1
    generalize hL : a.list.length = L at *
    have PG : P < G.n := by omega
    have gP1 : (G.push [.I e.op, .I e.n, va]).bk P = some ⟨[.I op, .I n, g], true⟩ := push_old PG gP
    simp (disch := omega) [hlt, l1, AH.store, push_put, load_bk gP1, loadN_push]
    refine ih e hmem (ev.ext (Ext.push _ _)) (hsm e hmem) fun v1 f2 H1 d1 nd lo1 x1 => ?_
    have n1 := x1.1
    simp only [push_n] at n1 lo1
    have x2 : Ext G (H1.push [.I e.op, .I e.n, v1]) := ((Ext.push _ _).trans x1).trans (Ext.push _ _)
    obtain ⟨g', G', B', a1, a2, a3, a4⟩ := (hg.ext x2).app (k := 1) (new := [.I e.op, .I e.n, v1]) (by simp; omega) (by simp) (by omega)
    have n2 := a4.1
    simp only [push_n] at n2 a3
    have hmG : ∀ b, b ∈ grB g B → b = B ∧ base ≤ B ∧ B < G.n := fun b hb => hg.mem hb
    have m1 := he.mem
    have m2 := d1.mem
    have o0 : ∀ b, b < H1.n + 1 → b < base ∨ b ≠ B ∨ G.n ≤ b → G'.bk b = (H1.push [.I e.op, .I e.n, v1]).bk b := fun b h1 h2 => a4.2 b (by simp; omega) (fun hm => by have := hmG b hm; omega)
    have gP2 : G'.bk P = some ⟨[.I op, .I n, g], true⟩ := (o0 P (by omega) (by omega)).trans ((x2.2 P PG).trans gP)
    have st := store_bk (o := 2) (vs := [g']) gP2 (by simp)
    simp (disch := omega) [AM.elems, x1, loadN_push, a1, flat_cells a2.flat, flat_tup a2.flat, st]
    have x3 : Only [P] G' (G'.put P (some ⟨[.I op, .I n, g'], true⟩)) := Only.refl.put (by simp)
    have o1 : ∀ b, b < G.n → b ≠ P → b < base ∨ b ≠ B → (G'.put P (some ⟨[.I op, .I n, g'], true⟩)).bk b = G.bk b := fun b h1 h2 h3 => by
      rw [put_bk, if_neg h2, o0 b (by omega) (by omega), x2.2 b h1]
    have := ihm (i + 1) (by omega) (G := G'.put P (some ⟨[.I op, .I n, g'], true⟩)) (g := g') (cs := cs ++ [.I e.op, .I e.n, v1]) (B := B') (fp := fp ++ f2) (by simp; omega)
      (hv.mono (by simp; omega) (fun b hb' h1 => o1 b h1 (by omega) (by omega)) (fun _ h _ => h)) (a2.only x3 (by simp; omega)) put_same ?_ (nodup_app (m := G.n + 1) hn nd (fun x hx => by have := m1 x hx; omega) (fun x hx => by have := lo1 x hx; omega)) (fun x hx => ?_) ?_
    · simpa using this
    · rw [take_snoc he1]
      exact OEF.snoc (((he.ext x2).only a4 (fun x hx => (hfp x hx).2)).only x3 (fun x hx hm => by have := hfp x hx; simp at hm; omega))
        (((d1.ext (Ext.push _ _)).only a4 (fun x hx hm => by have := lo1 x hx; have := hmG x hm; omega)).only x3 (fun x hx hm => by have := lo1 x hx; simp at hm; omega))
    · rcases List.mem_append.1 hx with hx | hx
      · exact ⟨(hfp x hx).1, beside a2 a3 (hfp x hx).2 (by have := m1 x hx; omega)⟩
      · exact ⟨by have := lo1 x hx; omega, beside a2 a3 (fun hm => by have := lo1 x hx; have := hmG x hm; omega) (by have := m2 x hx; omega)⟩
    · intro G2 g2 cs2 B2 fp2 q1 q2 q3 q3a q3b q4 q5
      exact hQ G2 g2 cs2 B2 fp2 q1 q2 q3 q3a q3b (fun b hb1 hb2 => (q4 b hb1 hb2).trans (o1 b (by omega) hb2 (by omega))) (by simp at q5; omega)
theorem K_iexprCopyO (a : Exs) : smE a = true → CopyEO a := by
  induction a using Exs.ind with
  | h a ih =>
  intro hs ok H K w op n v h hl k
  have hm := smE_mem hs
  rw [CallF_eq e_iexprCopy rfl]
  simp (disch := omega) [load_push, AH.store, h.alen, loadN_push, push_put2]
  have x1 : Ext H (((H.push [.I op, .I n, v]).push [.I 0, .I 0, .nils]).push [.I op, .I n, .nils]) := ((Ext.push _ _).trans (Ext.push _ _)).trans (Ext.push _ _)
  refine K_iexprCopyO_l (fun e he => ih e he (hm e he).2) (fun e he => (hm e he).1) hl (lo := H.n) (base := H.n + 3) (R := H.n + 1) (P := H.n + 1 + 1) (i := 0) (B := 0) (fp := []) (by omega) (by omega) a.list.length (by omega) (by simp)
    (h.mono (by simp; omega) (fun b _ hb => x1.2 b hb) (fun _ _ hb => hb)) GrS.nils (push_new (H := (H.push [.I op, .I n, v]).push [.I 0, .I 0, .nils])) ⟨rfl, rfl⟩ List.nodup_nil (by simp) fun G g cs B fp q1 q2 q3 q3a q3b q4 q5 => ?_
  simp only [push_n] at q5
  have r1 : G.bk (H.n + 1) = some ⟨[.I 0, .I 0, .nils], true⟩ := (q4 (H.n + 1) (by omega) (by omega)).trans (push_old (by simp) push_new)
  have st := store_bk (o := 0) (vs := [.I op, .I n, g]) r1 (by simp)
  simp [loadN_bk q2, st, loadN_bk put_same]
  have on : Only [H.n + 1] G (G.put (H.n + 1) (some ⟨[.I op, .I n, g], true⟩)) := Only.refl.put (by simp)
  have oe : OE G g a (grB g B ++ fp) := ⟨B, cs, fp, q1.os, q3, rfl⟩
  have lo : ∀ x ∈ grB g B ++ fp, H.n + 3 ≤ x := fun x hx => by
    rcases List.mem_append.1 hx with hx | hx
    · have := q1.mem hx; omega
    · exact (q3b x hx).1
  refine k _ _ _ (oe.only on (fun x hx hm => by have := lo x hx; simp at hm; omega)) ?_ (fun x hx => by have := lo x hx; omega) ⟨by simp; omega, fun b hb => ?_⟩
  · refine List.nodup_append.2 ⟨by cases g <;> simp [grB], q3a, fun x hx y hy e => (q3b y hy).2 (e ▸ hx)⟩
  · rw [put_bk, if_neg (by omega), q4 b (by omega) (by omega), x1.2 b hb]
def CopySO (f : Sts) : Prop := ∀ {ok : Nat → Prop} {H : AH} {K : AV → AH → Prop} {w : Fk K} {v : AV}, SV ok H v f → cpS f = true → ctS f ≤ 10000000 →
    (∀ v' H' cs B fp, GrS H.n H' v' f.list.length 8 cs B → OSF H' f cs fp → fp.Nodup → (∀ x ∈ fp, H.n ≤ x ∧ x ∉ grB v' B) → Ext H H' → K v' H') → CallF Cd f_istmtsCopy [v] H K w
theorem nodup_gr {g : AV} {B : Nat} {fp : List Nat} (h : fp.Nodup) (k : ∀ x ∈ fp, x ∉ grB g B) : (grB g B ++ fp).Nodup := List.nodup_append.2 ⟨by cases g <;> simp [grB], h, fun x hx y hy e => k y hy (e ▸ hx)⟩
theorem K_istmtsCopyO_l {f : Sts} (ih : ∀ s ∈ f.list, CopySO s.body ∧ CopySO s.els) (hcp : cpS f = true) (hct : ctS f ≤ 10000000) {base : Nat} {v : AV}
    {Q : Out → Env → AH → Prop} (m i : Nat) (him : i + m = f.list.length) {G : AH} {g : AV} {cs : List AV} {B : Nat} {fp : List Nat} (hb : base ≤ G.n) (hv : SV (fun b => b < base) G v f) (hg : GrS base G g i 8 cs B)
    (he : OSF G (Sts.of (f.list.take i)) cs fp) (hn : fp.Nodup) (hfp : ∀ x ∈ fp, base ≤ x ∧ x ∉ grB g B)
    (hQ : ∀ G' g' cs' B' fp', GrS base G' g' f.list.length 8 cs' B' → OSF G' f cs' fp' → fp'.Nodup → (∀ x ∈ fp', base ≤ x ∧ x ∉ grB g' B') → (∀ b, b < base → G'.bk b = G.bk b) → G.n ≤ G'.n → Q (.brk 0) [(9, .b false), (3, g'), (6, v), (7, .I f.list.length), (8, .I f.list.length)] G') :
    W Cd (.loop c_istmtsCopy_l0) [(3, g), (6, v), (7, .I f.list.length), (8, .I i)] G Q := by
  have hlc := len_ctS (f := f)
  induction m generalizing i G g cs B fp with
  | zero =>
    rw [W_loop_as c_istmtsCopy_l0.eq_1]
    have hi : i = f.list.length := by omega
    subst hi
    have := hv.big
    simp [hv.alen]
    rw [List.take_length, Sts.of_list] at he
    exact hQ G g cs B fp hg he hn hfp (fun _ _ => rfl) (Nat.le_refl _)
  | succ m ihm =>
    rw [W_loop_as c_istmtsCopy_l0.eq_1]
    have hi : i < f.list.length := by omega
    obtain ⟨s, hs⟩ : ∃ s, f.list[i]? = some s := ⟨_, List.getElem?_eq_getElem hi⟩
    have hmem := List.mem_of_getElem? hs
    have hbig := hv.big
    obtain ⟨b, o, cap, c, rfl, ob, hbn, l1, s1⟩ := hv.at hs
    obtain ⟨va, vy, vz, rfl, ea, ey, ez⟩ := s1
    have hcm := ctS_mem hmem
    have hcps : cpT s = true := by rw [cpS_mem] at hcp; exact List.all_eq_true.1 hcp s hmem
    unfold cpT at hcps
    simp only [Bool.and_eq_true] at hcps
    generalize hL : f.list.length = L at *
    have hlt : (i : Int) < L := by omega
    have q0 : (G.push [.I s.k, .I s.v, .I s.b, .I s.e.op, .I s.e.n, va, vy, vz]).bk G.n = some ⟨[.I s.k, .I s.v, .I s.b, .I s.e.op, .I s.e.n, va, vy, vz], true⟩ := push_new
    have x0 := Ext.push G [.I s.k, .I s.v, .I s.b, .I s.e.op, .I s.e.n, va, vy, vz]
    simp (disch := omega) [hlt, l1, AH.store, push_put, load_bk q0]
    refine (ih s hmem).1 (ey.ext x0) hcps.1.2 (by omega) fun vy' H1 csy By fy gy sy ndy loy x1 => ?_
    have q1 := (x1.2 G.n (by simp)).trans q0
    have n1 := x1.1
    simp only [push_n] at n1 loy
    simp (disch := omega) [x1, load_bk q1]
    refine (ih s hmem).2 (ez.ext (x0.trans x1)) hcps.2 (by omega) fun vz' H2 csz Bz fz gz sz ndz loz x2 => ?_
    have q2 := (x2.2 G.n (by omega)).trans q1
    have n2 := x2.1
    have w3 := loadN_bk (o := 3) (n := 3) q2
    have w3' : H2.loadN G.n 3 3 = some [.I s.e.op, .I s.e.n, va] := w3.trans rfl
    simp (disch := omega) [x2, w3']
    refine K_iexprCopyO s.e.args (cpE_args hcps.1.1).2 (ea.ext ((x0.trans x1).trans x2)) (cpE_args hcps.1.1).1 fun va' fa H3 d3 nda loa x3 => ?_
    have q3 := (x3.2 G.n (by omega)).trans q2
    have n3 := x3.1
    have fvy := gy.flat
    have fvz := gz.flat
    have st1 : H3.store G.n 6 [vy'] = some (H3.put G.n (some ⟨[.I s.k, .I s.v, .I s.b, .I s.e.op, .I s.e.n, va, vy', vz], true⟩)) := store_bk q3 (by simp)
    have st2 : (H3.put G.n (some ⟨[.I s.k, .I s.v, .I s.b, .I s.e.op, .I s.e.n, va, vy', vz], true⟩)).store G.n 7 [vz'] = some (H3.put G.n (some ⟨[.I s.k, .I s.v, .I s.b, .I s.e.op, .I s.e.n, va, vy', vz'], true⟩)) := by
      rw [store_bk (put_same) (by simp), put_put]; rfl
    have st3 : (H3.put G.n (some ⟨[.I s.k, .I s.v, .I s.b, .I s.e.op, .I s.e.n, va, vy', vz'], true⟩)).store G.n 3 [.I s.e.op, .I s.e.n, va'] = some (H3.put G.n (some ⟨[.I s.k, .I s.v, .I s.b, .I s.e.op, .I s.e.n, va', vy', vz'], true⟩)) := by
      rw [store_bk (put_same) (by simp), put_put]; rfl
    have p5 : (H3.put G.n (some ⟨[.I s.k, .I s.v, .I s.b, .I s.e.op, .I s.e.n, va', vy', vz'], true⟩)).bk G.n = _ := put_same
    have y5 : Ext G (H3.put G.n (some ⟨[.I s.k, .I s.v, .I s.b, .I s.e.op, .I s.e.n, va', vy', vz'], true⟩)) := (((x0.trans x1).trans x2).trans x3).put (Nat.le_refl _)
    have on5 : Only [G.n] H3 (H3.put G.n (some ⟨[.I s.k, .I s.v, .I s.b, .I s.e.op, .I s.e.n, va', vy', vz'], true⟩)) := Only.refl.put (by simp)
    have oy : OT H1 vy' s.body (grB vy' By ++ fy) := ⟨By, csy, fy, gy.os, sy, rfl⟩
    have oz : OT H2 vz' s.els (grB vz' Bz ++ fz) := ⟨Bz, csz, fz, gz.os, sz, rfl⟩
    have loy' : ∀ x ∈ grB vy' By ++ fy, G.n + 1 ≤ x ∧ x < H1.n := fun x hx => ⟨by
      rcases List.mem_append.1 hx with hx | hx
      · have := gy.mem hx; simpa using this.1 ▸ this.2.1
      · exact (loy x hx).1, oy.mem x hx⟩
    have loz' : ∀ x ∈ grB vz' Bz ++ fz, H1.n ≤ x ∧ x < H2.n := fun x hx => ⟨by
      rcases List.mem_append.1 hx with hx | hx
      · have := gz.mem hx; simpa using this.1 ▸ this.2.1
      · exact (loz x hx).1, oz.mem x hx⟩
    have ndy' := nodup_gr ndy (fun x hx => (loy x hx).2)
    have ndz' := nodup_gr ndz (fun x hx => (loz x hx).2)
    have loa' : ∀ x ∈ fa, H2.n ≤ x ∧ x < H3.n := fun x hx => ⟨loa x hx, d3.mem x hx⟩
    have d5 := d3.only on5 (fun x hx hm => by have := loa' x hx; simp at hm; omega)
    have e5 := ((oy.ext x2).ext x3).only on5 (fun x hx hm => by have := loy' x hx; simp at hm; omega)
    have f5 := (oz.ext x3).only on5 (fun x hx hm => by have := loz' x hx; simp at hm; omega)
    simp (disch := omega) [x3, flat_cells fvy, flat_tup fvy, flat_cells fvz, flat_tup fvz, st1, st2, st3, loadN_bk p5]
    generalize hFY : grB vy' By ++ fy = FY at *
    generalize hFZ : grB vz' Bz ++ fz = FZ at *
    generalize hH6 : H3.put G.n (some ⟨[.I s.k, .I s.v, .I s.b, .I s.e.op, .I s.e.n, va', vy', vz'], true⟩) = H6 at *
    have n6 : H3.n = H6.n := by rw [← hH6]; rfl
    have x7 := Ext.push H6 [.I s.k, .I s.v, .I s.b, .I s.e.op, .I s.e.n, va', vy', vz']
    have x8 := y5.trans x7
    obtain ⟨g', G', B', a1, a2, a3, a4⟩ := (hg.ext x8).app (k := 1) (new := [.I s.k, .I s.v, .I s.b, .I s.e.op, .I s.e.n, va', vy', vz']) (by simp; omega) (by simp) (by omega)
    have n8 := a4.1
    simp only [push_n] at n8 a3
    have hmG : ∀ b, b ∈ grB g B → b = B ∧ base ≤ B ∧ B < G.n := fun b hb => hg.mem hb
    have m1 := he.mem
    have o1 : O1 (H6.push [.I s.k, .I s.v, .I s.b, .I s.e.op, .I s.e.n, va', vy', vz']) [.I s.k, .I s.v, .I s.b, .I s.e.op, .I s.e.n, va', vy', vz'] s (fa ++ (FY ++ FZ)) := ⟨va', vy', vz', fa, FY, FZ, rfl, d5.ext x7, e5.ext x7, f5.ext x7, rfl⟩
    have hall : ∀ x ∈ fa ++ (FY ++ FZ), G.n + 1 ≤ x ∧ x < H6.n := fun x hx => by
      rcases List.mem_append.1 hx with hx | hx
      · have := loa' x hx; omega
      rcases List.mem_append.1 hx with hx | hx
      · have := loy' x hx; omega
      · have := loz' x hx; omega
    have ndall : (fa ++ (FY ++ FZ)).Nodup := by
      refine List.nodup_append.2 ⟨nda, nodup_app (m := H1.n) ndy' ndz' (fun x hx => (loy' x hx).2) (fun x hx => (loz' x hx).1), fun x hx y hy e => ?_⟩
      have := loa' x hx
      rcases List.mem_append.1 hy with hy | hy
      · have := loy' y hy; omega
      · have := loz' y hy; omega
    have o1' : O1 G' [.I s.k, .I s.v, .I s.b, .I s.e.op, .I s.e.n, va', vy', vz'] s (fa ++ (FY ++ FZ)) := by
      have nn : ∀ x ∈ fa ++ (FY ++ FZ), x ∉ grB g B := fun x hx hm => by have := hall x hx; have := hmG x hm; omega
      obtain ⟨u1, u2, u3, w1, w2, w3, z1, z2, z3, z4, z5⟩ := o1
      exact ⟨u1, u2, u3, w1, w2, w3, z1, z2.only a4 (fun x hx => nn x (by rw [z5]; simp [hx])), z3.only a4 (fun x hx => nn x (by rw [z5]; simp [hx])), z4.only a4 (fun x hx => nn x (by rw [z5]; simp [hx])), z5⟩
    simp (disch := omega) [AM.elems, loadN_push, a1, n6]
    have := ihm (i + 1) (by omega) (G := G') (g := g') (cs := cs ++ [.I s.k, .I s.v, .I s.b, .I s.e.op, .I s.e.n, va', vy', vz']) (B := B') (fp := fp ++ (fa ++ (FY ++ FZ))) (by omega)
      (hv.mono (by omega) (fun b hb' h1 => by rw [a4.2 b (by simp; omega) (fun hm => by have := hmG b hm; omega), x8.2 b h1]) (fun _ h _ => h)) a2
      (by rw [take_snoc hs]; exact OSF.snoc ((he.ext x8).only a4 (fun x hx => (hfp x hx).2)) o1')
      (nodup_app (m := G.n + 1) hn ndall (fun x hx => by have := m1 x hx; omega) (fun x hx => (hall x hx).1)) (fun x hx => ?_)
      (fun G2 g2 cs2 B2 fp2 u1 u2 u2a u2b u3 u4 => hQ G2 g2 cs2 B2 fp2 u1 u2 u2a u2b (fun b hb' => by rw [u3 b hb', a4.2 b (by simp; omega) (fun hm => by have := hmG b hm; omega), x8.2 b (by omega)]) (by omega))
    · simpa using this
    · rcases List.mem_append.1 hx with hx | hx
      · exact ⟨(hfp x hx).1, beside a2 a3 (hfp x hx).2 (by have := m1 x hx; omega)⟩
      · exact ⟨by have := hall x hx; omega, beside a2 a3 (fun hm => by have := hall x hx; have := hmG x hm; omega) (by have := hall x hx; omega)⟩
theorem K_istmtsCopyO (f : Sts) : CopySO f := by
  induction f using Sts.ind with
  | h f ih =>
  intro ok H K w v h hcp hct k
  rw [CallF_eq e_istmtsCopy rfl]
  have hbig := h.big
  simp (disch := omega) [h.alen]
  have := K_istmtsCopyO_l ih hcp hct (Q := ?_) f.list.length 0 (by omega) (base := H.n) (G := H) (g := .nils) (cs := []) (B := H.n) (fp := []) (v := v) (Nat.le_refl _)
    (h.mono (Nat.le_refl _) (fun b _ hb => rfl) (fun b _ hb => hb)) GrS.nils ⟨rfl, rfl⟩ List.nodup_nil (by simp) ?_
  · simpa using this
  · intro G g cs B fp u1 u2 u2a u2b u3 u4
    simp
    exact k g G cs B fp u1 u2 u2a u2b ⟨u4, u3⟩
end Go.Proofs.YtcibjklpaljadaaGreat.AM
namespace Go.Proofs.YtcibjklpaljadaaGreat.AM
set_option linter.unusedSimpArgs false
set_option linter.unusedVariables false
set_option maxRecDepth 100000
set_option maxHeartbeats 4000000
open Go
attribute [-simp] AM.elems
theorem RB.ob {base H v bs B rs} (h : RB base H v bs B rs) : OB H v bs B rs :=
  ⟨h.1, h.2.1.os, fun i x p hx hp => ⟨(h.2.2.1 i x p hx hp).1.os, (h.2.2.1 i x p hx hp).2⟩, h.2.2.2.1⟩
theorem RB.fp {base H v bs B rs} (h : RB base H v bs B rs) {x : Nat} (hx : x ∈ fpO v B rs) : x ∈ fpB B rs := by
  rw [mem_fpB]
  rcases mem_fpO.1 hx with q | q
  · refine .inl ⟨fun e => ?_, grB_sub q⟩
    have hb : bs = [] := List.eq_nil_of_length_eq_zero (by rw [← h.1, e]; rfl)
    rw [h.2.2.2.2 hb] at q
    simp [grB] at q
  · exact .inr q
theorem K_irunning_taskO_l {ok : Nat → Prop} {base P R' : Nat} {vv' : AV} (hP : P < base) (hR' : R' ≠ P) {Q : Out → Env → AH → Prop} (l : List St1) : ∀ {G : AH} {p g : AV} {f : Sts} {cs : List AV} {B : Nat} {fp : List Nat} (hb : base ≤ G.n) (hp : PL (fun b => b < base ∧ b ≠ P) G p l) (hcp : ∀ s ∈ l, cpT s = true ∧ ctT s ≤ 1000) (hct : f.list.length + l.length ≤ 10000000)
    (hg : GrS base G g f.list.length 8 cs B) (hf : OSF G f cs fp) (hn : fp.Nodup) (hfp : ∀ x ∈ fp, base ≤ x ∧ x ∉ grB g B) (gP : G.bk P = some ⟨[vv', g], true⟩)
    (hQ : ∀ e G' g' cs' B' fp', GrS base G' g' (f.list ++ l).length 8 cs' B' → OSF G' (Sts.of (f.list ++ l)) cs' fp' → fp'.Nodup → (∀ x ∈ fp', base ≤ x ∧ x ∉ grB g' B') → G'.bk P = some ⟨[vv', g'], true⟩ → (∀ b, b < base → b ≠ P → G'.bk b = G.bk b) → G.n ≤ G'.n → get e 2 = some (.ptr R' 0) → get e 3 = some (.ptr P 0) → Q (.brk 0) e G'),
    W Cd (.loop c_irunning_task_l0) [(2, .ptr R' 0), (3, .ptr P 0), (4, p)] G Q := by
  induction l with
  | nil =>
    intro G p g f cs B fp hb hp hcp hct hg hf hn hfp gP hQ
    rw [W_loop_as c_irunning_task_l0.eq_1]
    have : p = .nilp := hp
    subst this
    simp
    exact hQ _ G g cs B fp (by simpa using hg) (by simpa [Sts.of_list] using hf) hn hfp gP (fun _ _ _ => rfl) (Nat.le_refl _) rfl rfl
  | cons s r ih =>
    intro G p g f cs B fp hb hp hcp hct hg hf hn hfp gP hQ
    rw [W_loop_as c_irunning_task_l0.eq_1]
    obtain ⟨q, sb, so, c, nx, rfl, oq, hq, gq, osb, hsb, l1, s1, fnx, hr⟩ := hp
    have hc8 := s1.len
    obtain ⟨hc1, hc2⟩ := hcp s (by simp)
    have x0 := Ext.push G c
    have hll : f.list.length + 1 + r.length ≤ 10000000 := by simp at hct; omega
    have s1' : SV (fun b => b < base ∧ b ≠ P ∨ b = G.n) (G.push c) (.sl G.n 0 1 (.ex 1)) (Sts.of [s]) :=
      ⟨c, ((GrS.new (base := G.n) (G := G) (n := 1) (sz := 8) (cs := c) (Nat.le_refl _) (by omega) (by omega)).ivB (fun _ _ => .inr rfl)), (s1.mono (Nat.le_succ _) (fun b _ hb => x0.2 b hb) (fun b h _ => .inl h)).one⟩
    simp (disch := omega) [load_bk gP, load_bk gq, l1, hc8]
    refine K_istmtsCopyO (Sts.of [s]) s1' (by rw [cpS_mem, Sts.list_of]; simp [hc1]) (by rw [ctS_of]; simp; omega) fun v1 H1 cs1 B1 f1 u1 u2 nd1 lo1 x1 => ?_
    have n1 := x1.1
    simp only [push_n] at n1
    simp only [push_n] at lo1
    have hx := x0.trans x1
    rw [Sts.list_of] at u1
    obtain ⟨g', G', B', a2, a3, aB, a4⟩ := (hg.ext hx).app (k := 1) (new := cs1) (by omega) (by have := u2.len; rw [Sts.list_of] at this; simpa using this) (by omega)
    have n8 := a4.1
    have hmG : ∀ b, b ∈ grB g B → b = B ∧ base ≤ B ∧ B < G.n := fun b hb => hg.mem hb
    have m1 := hf.mem
    have m2 := u2.mem
    have a1 : AM.elems H1 8 v1 = some cs1 := u1.elems
    have e2 : alen v1 = some 1 := u1.alen
    have a7 := a3.flat
    have a5 : ∀ b, b < base → G'.bk b = H1.bk b := fun b hb' => a4.2 b (by omega) (fun hm => by have := hmG b hm; omega)
    have a2' : aapp H1 8 g 1 cs1 = some (g', G') := a2
    have gP' : G'.bk P = some ⟨[vv', g], true⟩ := (a5 P hP).trans ((hx.2 P (by omega)).trans gP)
    have st : G'.store P 1 [g'] = some (G'.put P (some ⟨[vv', g'], true⟩)) := store_bk gP' (by simp)
    have o1 : ∀ b, b < base → b ≠ P → (G'.put P (some ⟨[vv', g'], true⟩)).bk b = G.bk b := fun b h1 h2 => by rw [put_bk, if_neg h2, a5 b h1, hx.2 b (by omega)]
    have oP : Only [P] G' (G'.put P (some ⟨[vv', g'], true⟩)) := Only.refl.put (by simp)
    have gq' : (G'.put P (some ⟨[vv', g'], true⟩)).bk q = some ⟨[.ptr sb so, nx], true⟩ := (o1 q oq.1 oq.2).trans gq
    have elist : (Sts.of (f.list ++ [s])).list = f.list ++ [s] := Sts.list_of _
    simp (disch := omega) [-AM.elems, x1, a1, e2, a2', flat_cells a7, flat_tup a7, st]
    simp (disch := omega) [load_bk gq']
    have hs2 : OSF G' (Sts.of (f.list ++ [s])) (cs ++ cs1) (fp ++ f1) := by
      have q1 := (hf.ext hx).only a4 (fun x hx' => (hfp x hx').2)
      have q2 := u2.only a4 (fun x hx' hm => by have := lo1 x hx'; have := hmG x hm; omega)
      have := q1.app q2
      rwa [Sts.list_of] at this
    have hlo : ∀ x ∈ fp ++ f1, base ≤ x ∧ x ∉ grB g' B' := fun x hx' => by
      rcases List.mem_append.1 hx' with q | q
      · exact ⟨(hfp x q).1, beside a3 aB (hfp x q).2 (by have := m1 x q; omega)⟩
      · exact ⟨by have := lo1 x q; omega, beside a3 aB (fun hm => by have := lo1 x q; have := hmG x hm; omega) (m2 x q)⟩
    refine ih (f := Sts.of (f.list ++ [s])) (cs := cs ++ cs1) (B := B') (g := g') (fp := fp ++ f1) (by simp; omega) (hr.mono (by simp; omega) (fun b h _ => o1 b h.1 h.2) (fun _ h _ => h)) (fun s' hs' => hcp s' (by simp [hs'])) (by rw [elist]; simp; omega) (by rw [elist]; simpa using a3.only oP (by simp; omega))
      (hs2.only oP (fun x hx' hm => by have := hlo x hx'; simp at hm; omega)) (nodup_app (m := G.n + 1) hn nd1 (fun x hx' => by have := m1 x hx'; omega) (fun x hx' => (lo1 x hx').1)) hlo put_same
      (fun e G2 g2 cs2 B2 fp2 w1 w2 w2a w2b w3 w4 w5 w6 w7 => hQ e G2 g2 cs2 B2 fp2 (by rw [elist] at w1; simpa using w1) (by rw [elist] at w2; simpa using w2) w2a w2b w3 (fun b h1 h2 => (w4 b h1 h2).trans (o1 b h1 h2)) (by simp at w5; omega) w6 w7)
theorem K_irunning_taskO {ok : Nat → Prop} {H : AH} {K : AV → AH → Prop} {w : Fk K} {R : Nat} {vv p : AV} {vars : List Int} {l : List St1} (gR : H.bk R = some ⟨[vv, p], true⟩) (hRn : R < H.n) (hv : Src H vv vars) (h4 : vars.length ≤ 1000)
    (hp : PL ok H p l) (hcp : ∀ s ∈ l, cpT s = true ∧ ctT s ≤ 1000) (hct : l.length ≤ 10000000)
    (k : ∀ v' V r' fp H', OI H' v' V vars → OT H' r' (Sts.of l) fp → fp.Nodup → (∀ x ∈ grB v' V, H.n ≤ x ∧ x ∉ fp) → (∀ x ∈ fp, H.n ≤ x) → Ext H H' → K (.agg [v', r']) H') : CallF Cd f_irunning_task [.ptr R 0] H K w := by
  rw [CallF_eq e_irunning_task rfl]
  have x0 := Ext.push H [.nils, .nils]
  have gR0 := push_old (cs := [AV.nils, .nils]) hRn gR
  simp [load_bk gR0]
  refine K_cloneG (hv.ext x0) (by omega) fun vv' H1 V g1 x1 => ?_
  have n1 := x1.1
  simp only [push_n] at n1
  have fv := g1.flat
  have gR1 : (H1.push [vv', .nils]).bk R = _ := push_old (by omega) ((x1.2 _ (by simp; omega)).trans gR0)
  have x2 := Ext.push H1 [vv', .nils]
  simp [flat_cells fv, flat_tup fv, AH.store, push_put, load_bk gR1]
  have X := (x0.trans x1).trans x2
  have := K_irunning_taskO_l (ok := ok) (base := H1.n + 1) (P := H1.n) (R' := H.n) (vv' := vv') (by omega) (by omega) (Q := ?_) l (G := H1.push [vv', .nils]) (p := p) (g := .nils) (f := .nil) (cs := []) (B := 0) (fp := []) (by simp)
    (hp.mono X.1 (fun b _ hb => X.2 b hb) (fun b _ hb => by omega)) hcp (by simpa using hct) GrS.nils ⟨rfl, rfl⟩ List.nodup_nil (by simp) push_new ?_
  · simpa using this
  · intro e G g cs B fp u1 u2 u2a u2b u3 u4 u5 u6 u7
    simp only [Exs.list, Sts.list, List.nil_append] at u1 u2
    simp at u5
    have qR : G.bk H.n = some ⟨[.nils, .nils], true⟩ := (u4 _ (by omega) (by omega)).trans (push_old (by omega) ((x1.2 _ (by simp)).trans push_new))
    have l3 : G.loadN H1.n 0 2 = some [vv', g] := by rw [loadN_bk u3]; rfl
    have st : G.store H.n 0 [vv', g] = some (G.put H.n (some ⟨[vv', g], true⟩)) := store_bk qR (by simp)
    simp [u6, u7, l3, st, loadN_bk put_same]
    have oH : Only [H.n] G (G.put H.n (some ⟨[vv', g], true⟩)) := Only.refl.put (by simp)
    have mV : ∀ x ∈ grB vv' V, H.n + 1 ≤ x ∧ x < H1.n := fun x hx => by have := g1.mem hx; simp at this; omega
    have oV : OI G vv' V vars := (g1.os.ext x2).only (bs := [H1.n]) (H' := G) (by
      refine ⟨by simp; omega, fun b hb hm => ?_⟩
      simp at hb hm
      exact u4 b (by omega) (by omega)) (fun x hx hm => by have := mV x hx; simp at hm; omega)
    have oT : OT G g (Sts.of l) (grB g B ++ fp) := ⟨B, cs, fp, by rw [Sts.list_of]; exact u1.os, u2, rfl⟩
    have mT : ∀ x ∈ grB g B ++ fp, H1.n + 1 ≤ x := fun x hx => by
      rcases List.mem_append.1 hx with q | q
      · have := u1.mem q; omega
      · exact (u2b x q).1
    refine k vv' V g (grB g B ++ fp) _ (oV.only oH (fun x hx hm => by have := mV x hx; simp at hm; omega)) (oT.only oH (fun x hx hm => by have := mT x hx; simp at hm; omega)) (nodup_gr u2a (fun x hx => (u2b x hx).2)) (fun x hx => ⟨by have := mV x hx; omega, fun hm => by have := mV x hx; have := mT x hm; omega⟩) (fun x hx => by have := mT x hx; omega) ⟨by simp; omega, fun b hb => ?_⟩
    rw [put_bk, if_neg (by omega), u4 b (by omega) (by omega), X.2 b hb]
end Go.Proofs.YtcibjklpaljadaaGreat.AM
namespace Go.Proofs.YtcibjklpaljadaaGreat.AM
set_option linter.unusedSimpArgs false
set_option linter.unusedVariables false
set_option maxRecDepth 100000
set_option maxHeartbeats 4000000
open Go
def PrO (PB : Nat) (e : Int × Int × Int) (H1 H2 : AH) : Prop :=
  PB < H2.n ∧ ∃ v O, H2.bk PB = some ⟨[v], true⟩ ∧ OI H2 v O (if e.1 = 3 then [e.2.2] else []) ∧ ∀ b ∈ grB v O, H1.n ≤ b
theorem tell_iTaskStepO {PB : Nat} : TellOk f_iTaskStep_1 [.ptr PB 0] [PB] (fun H1 => PB < H1.n ∧ H1.bk PB = some ⟨[.nils], true⟩) (PrO PB) := by
  intro kd bx x H1 K1 w1 hP k
  obtain ⟨h1, h2⟩ := hP
  rw [CallF_eq e_iTaskStep_1 rfl]
  by_cases hk : kd = 3
  · subst hk
    have x0 := (Ext.push H1 [.I x]).trans (Ext.push _ [.I x])
    have g : ((H1.push [.I x]).push [.I x]).bk PB = some ⟨[.nils], true⟩ := (x0.2 _ h1).trans h2
    have st : ((H1.push [.I x]).push [.I x]).store PB 0 [.sl (H1.n + 1) 0 1 (.lb 1 1)] = some (((H1.push [.I x]).push [.I x]).put PB (some ⟨[.sl (H1.n + 1) 0 1 (.lb 1 1)], true⟩)) := store_bk g (by simp)
    have ha : aapp (H1.push [.I x]) 1 .nils 1 [.I x] = some (.sl (H1.n + 1) 0 1 (.lb 1 1), (H1.push [.I x]).push [.I x]) := by
      simp [aapp, big]
    simp [load_bk h2, loadN_push, ha, st]
    refine k _ ⟨by simp; omega, _, H1.n + 1, put_same, ?_, fun b hb => by simp [grB] at hb; omega⟩ ⟨by simp; omega, fun b hb hm => by rw [put_bk, if_neg (by simpa using hm)]; exact x0.2 b hb⟩
    refine ⟨by simp, rfl, .inr ⟨.lb 1 1, [], rfl, ⟨Nat.le_refl _, rfl⟩, by simp, ?_⟩⟩
    rw [put_bk, if_neg (by omega)]
    exact push_new (H := H1.push [.I x])
  · simp [hk]
    exact k _ ⟨h1, .nils, 0, h2, by simp [hk]; exact ⟨by simp, rfl, .inl ⟨rfl, rfl⟩⟩, by simp [grB]⟩ Only.refl
structure TkR (n : Nat) (H : AH) (vv vr vb vo : AV) (V : Nat) (fr : List Nat) (B : Nat) (rs : List (AV × Nat)) (O : Nat) (vars : List Int) (rest : Sts) (bs : List Bx) (out : List Int) : Prop where
  v : OI H vv V vars
  r : OT H vr rest fr
  b : OB H vb bs B rs
  o : OI H vo O out
  nd : fr.Nodup
  d0 : ∀ x ∈ grB vv V, n ≤ x ∧ x ∉ fr ∧ x ∉ fpO vb B rs ∧ x ∉ grB vo O
  d1 : ∀ x ∈ fr, n ≤ x ∧ x ∉ fpO vb B rs ∧ x ∉ grB vo O
  d2 : ∀ x ∈ fpO vb B rs, n ≤ x ∧ x ∉ grB vo O
  d3 : ∀ x ∈ grB vo O, n ≤ x
theorem TkR.only {n : Nat} {H H' : AH} {vv vr vb vo : AV} {V : Nat} {fr : List Nat} {B : Nat} {rs : List (AV × Nat)} {O : Nat} {vars : List Int} {rest : Sts} {bs : List Bx} {out : List Int} {xs : List Nat} (h : TkR n H vv vr vb vo V fr B rs O vars rest bs out) (k : Only xs H H') (hx : ∀ b ∈ xs, b < n) : TkR n H' vv vr vb vo V fr B rs O vars rest bs out :=
  ⟨h.v.only k (fun b hb hm => by have := hx b hm; have := (h.d0 b hb).1; omega), h.r.only k (fun b hb hm => by have := hx b hm; have := (h.d1 b hb).1; omega), h.b.only k (fun b hb hm => by have := hx b hm; have := (h.d2 b hb).1; omega), h.o.only k (fun b hb hm => by have := hx b hm; have := h.d3 b hb; omega), h.nd, h.d0, h.d1, h.d2, h.d3⟩
theorem TkR.ext {n : Nat} {H H' : AH} {vv vr vb vo : AV} {V : Nat} {fr : List Nat} {B : Nat} {rs : List (AV × Nat)} {O : Nat} {vars : List Int} {rest : Sts} {bs : List Bx} {out : List Int} (h : TkR n H vv vr vb vo V fr B rs O vars rest bs out) (k : Ext H H') : TkR n H' vv vr vb vo V fr B rs O vars rest bs out := h.only (xs := []) k.only (by simp)
theorem TkR.up {n m : Nat} {H : AH} {vv vr vb vo : AV} {V : Nat} {fr : List Nat} {B : Nat} {rs : List (AV × Nat)} {O : Nat} {vars : List Int} {rest : Sts} {bs : List Bx} {out : List Int} (h : TkR n H vv vr vb vo V fr B rs O vars rest bs out) (k : m ≤ n) : TkR m H vv vr vb vo V fr B rs O vars rest bs out :=
  ⟨h.v, h.r, h.b, h.o, h.nd, fun x hx => ⟨Nat.le_trans k (h.d0 x hx).1, (h.d0 x hx).2⟩, fun x hx => ⟨Nat.le_trans k (h.d1 x hx).1, (h.d1 x hx).2⟩, fun x hx => ⟨Nat.le_trans k (h.d2 x hx).1, (h.d2 x hx).2⟩, fun x hx => Nat.le_trans k (h.d3 x hx)⟩
section
variable {ok : Nat → Prop} {H : AH} {K : AV → AH → Prop} {w : Fk K} {c : List AV} {t : Tk} {s : St1} {r : List St1} {bs : List Bx} {vb : AV}
theorem W_tSdF {G : AH} {vv vr : AV} {P R0 base : Nat} (h : TC ok G [vv, vr] t) (hb : BV ok G vb bs) (hP : G.bk P = some ⟨[vv, vr], true⟩) (hR0 : G.bk R0 = some ⟨[.nils, .nils], true⟩) (hRn : R0 < G.n) (hbR : base ≤ R0)
    (hva : vaT 3 t = true) (hbs : vaBs bs = true) (hrd : rdT t bs.length = true) (hlen : t.rest.list.length ≤ 9000000)
    (k : ∀ vv' vr' vb' vo' V fr B rs O H', TkR G.n H' vv' vr' vb' vo' V fr B rs O (stepP t bs).1.vars (stepP t bs).1.rest (stepP t bs).2.1 (stepP t bs).2.2.1 → (∀ b, b < base → H'.bk b = G.bk b) → G.n ≤ H'.n → K (.tup [.agg [vv', vr'], vb', vo', .I (stepP t bs).2.2.2]) H') :
    W Cd tSd [(1, vb), (2, .ptr P 0), (4, .ptr R0 0)] G (retK [.c 4 2, .t 5, .t 6, .t 7] K) := by
  obtain ⟨f1, f2, f3, f4⟩ := vaT_facts hva
  obtain ⟨g1, g2⟩ := vaBs_facts hbs
  obtain ⟨u1, u2, u3, u4, u5, u6⟩ := step_keeps hva hbs hrd
  obtain ⟨v1, v2, v3, v4⟩ := vaT_facts u1
  simp [tSd, c_iTaskStep, loadN_bk hP]
  refine K_inewRunning h f1 fun R vv' V p H4 gR gv hp hV1 hVR hR x4 => ?_
  simp
  have hit : ∀ x ∈ bs, x.items.length ≤ 1000 := fun x hx => by have := g2 x hx; omega
  refine R_iboxesCopy (hb.ext x4) (by omega) hit fun vb' B rs H5 rb x5 => ?_
  simp
  have x6 := x5.trans (Ext.push H5 [.nils])
  have n4 := x4.1
  have n5 := x5.1
  have hmem : ∀ b ∈ fpB B rs, H4.n ≤ b ∧ b < H5.n := fun b hb => rb.mem hb
  have rt0 : RunT G.n [] H4 R vv' V p t := ⟨gR, hR, by omega, gv.up (by omega), by omega, by omega, by omega, hp.mono (Nat.le_refl _) (fun _ _ _ => rfl) (fun b hb _ => ⟨hb.2, hb.1, by simp⟩)⟩
  have rt : RunT G.n (H5.n :: fpB B rs) (H5.push [.nils]) R vv' V p t := (rt0.more (fun b hb => .inr (by
    rcases List.mem_cons.1 hb with rfl | q
    · exact n5
    · exact (hmem b q).1))).only (cs := []) x6.only (by simp) (by simp) (by simp)
  refine K_irunning_step rt (fun b hb => by rcases List.mem_cons.1 hb with rfl | q; simp; have := hmem b q; simp; omega) hva (by simp; omega) ((rb.up (by omega)).onlyA (bs := bs) ((Ext.push H5 [.nils]).only (bs := [])) (by simp)) hbs hrd
    (fun hm => by have := hmem _ hm; omega) (fun hm => by have := hmem _ hm; omega) (fun b hb => List.mem_cons_of_mem _ hb) (tb := [H5.n]) (fun b hb hm => by simp at hb; subst hb; have := hmem _ hm; omega) (fun b hb => by simp at hb; subst hb; simp)
    tell_iTaskStepO (fun H1 o => ⟨by have := o.1; simp at this; omega, (o.2 _ (by simp) (fun hm => by rcases List.mem_cons.1 hm with q | q; omega; have := hmem _ q; omega)).trans push_new⟩) (by simp; omega) (by simp; omega) (by simp)
    fun p' rs' H6 H7 H8 r1' b1 m1 o1 tl o2 => ?_
  have n6 := o1.1
  have n8 := o2.1
  simp only [push_n] at n6
  have hPR : H5.n ≠ R ∧ H5.n ≠ V := by omega
  have q6 : H6.bk H5.n = some ⟨[.nils], true⟩ := (o1.2 _ (by simp) (fun hm => by rcases List.mem_cons.1 hm with q | q; omega; have := hmem _ q; omega)).trans push_new
  have hpr := step_prints (bs := bs) (fun s hs => (okT_facts (f3 s hs).1).1)
  have key : ∃ pv O, H8.bk H5.n = some ⟨[pv], true⟩ ∧ OI H8 pv O (stepP t bs).2.2.1 ∧ (∀ b ∈ grB pv O, H6.n ≤ b ∧ b < H8.n) ∧ (∀ b, b < G.n → H8.bk b = H6.bk b) ∧ H6.n ≤ H8.n := by
    rw [hpr]
    cases he : evS t bs with
    | none =>
      rw [he] at tl
      have tl : H7 = H6 := tl
      subst tl
      exact ⟨.nils, 0, o2.bk (by omega) (by simp; omega) q6, ⟨by simp [prE], rfl, .inl ⟨rfl, rfl⟩⟩, by simp [grB], fun b hb => o2.2 b (by omega) (by simp; omega), n8⟩
    | some e =>
      rw [he] at tl
      obtain ⟨⟨z1, v, O, z2, z3, z4⟩, z5⟩ := tl
      have n7 := z5.1
      have z6 : ∀ b ∈ grB v O, b < H7.n := fun b hb => by have := z3.mem hb; omega
      refine ⟨v, O, o2.bk (by omega) (by simp; omega) z2, z3.only o2 (fun b hb hm => by have := z4 b hb; simp at hm; omega), fun b hb => ⟨z4 b hb, by have := z6 b hb; omega⟩, fun b hb => ?_, by omega⟩
      rw [o2.2 b (by omega) (by simp; omega), z5.2 b (by omega) (by simp; omega)]
  obtain ⟨pv, O, k1, k3, kO, k4, k5⟩ := key
  have k2 := k3.flat
  have hold : ∀ b, b < G.n → H8.bk b = G.bk b := fun b hb => by
    rw [k4 b hb, o1.2 b (by simp; omega) (fun hm => by rcases List.mem_cons.1 hm with q | q; omega; have := hmem _ q; omega), x6.2 b (by omega), x4.2 b hb]
  simp
  obtain ⟨t1, t2, t3, t4, t5, t6, t7, t8⟩ := r1' (H5.n :: fpB B rs) (fun b hb => .inl hb)
  refine K_irunning_taskO t1 t2 t4.iv.src (by omega) t8 (fun s hs => ⟨by rw [cpS_mem] at v4; exact List.all_eq_true.1 v4 s hs, by have := (v3 s hs).2; omega⟩) (by omega) fun cv W cr fr H9 i1 i2 ndr dV dr x9 => ?_
  have n9 := x9.1
  rw [Sts.of_list] at i2
  have qP : H9.bk H5.n = some ⟨[pv], true⟩ := (x9.2 _ (by omega)).trans k1
  have qR : H9.bk R0 = some ⟨[.nils, .nils], true⟩ := (x9.2 _ (by omega)).trans ((hold _ hRn).trans hR0)
  have st9 : H9.store R0 0 [cv, cr] = some (H9.put R0 (some ⟨[cv, cr], true⟩)) := store_bk qR (by simp)
  have hne : ¬ H5.n = R0 := by omega
  simp [x9, load_bk qP, st9, hne, loadN_bk put_same, flat_cells k2, flat_tup k2]
  have hk : ∀ b, b ≠ R0 → (H9.put R0 (some ⟨[cv, cr], true⟩)).bk b = H9.bk b := fun b hb => by rw [put_bk, if_neg hb]
  have on : Only [R0] H9 (H9.put R0 (some ⟨[cv, cr], true⟩)) := Only.refl.put (by simp)
  have mB : ∀ x ∈ fpO vb' B rs', H4.n ≤ x ∧ x < H6.n := fun x hx => by
    have h1 := m1 x (b1.fp hx)
    have n6' : H5.n + 1 ≤ H6.n := n6
    simp only [push_n] at h1
    rcases h1 with h1 | h1
    · have := hmem _ h1; omega
    · omega
  refine k cv cr vb' pv W fr B rs' O _ ⟨i1.only on (fun x hx hm => by have := (dV x hx).1; simp at hm; omega), i2.only on (fun x hx hm => by have := dr x hx; simp at hm; omega), (b1.ob.ext x9).only on (fun x hx hm => by have := mB x hx; simp at hm; omega), (k3.ext x9).only on (fun x hx hm => by have := kO x hx; simp at hm; omega), ndr,
    fun x hx => ⟨by have := (dV x hx).1; omega, (dV x hx).2, fun hm => by have := (dV x hx).1; have := mB x hm; omega, fun hm => by have := (dV x hx).1; have := kO x hm; omega⟩,
    fun x hx => ⟨by have := dr x hx; omega, fun hm => by have := dr x hx; have := mB x hm; omega, fun hm => by have := dr x hx; have := kO x hm; omega⟩,
    fun x hx => ⟨by have := mB x hx; omega, fun hm => by have := mB x hx; have := kO x hm; omega⟩,
    fun x hx => by have := kO x hx; omega⟩
    (fun b hb => by rw [hk b (by omega), x9.2 b (by omega), hold b (by omega)]) (by simp; omega)
theorem K_iTaskStepF (h : TC ok H c t) (hb : BV ok H vb bs) (hct : ctS t.rest ≤ 8000000)
    (k : ∀ vv' vr' vb' vo' V fr B rs O H', TkR H.n H' vv' vr' vb' vo' V fr B rs O (stepF t bs).1.vars (stepF t bs).1.rest (stepF t bs).2.1 (stepF t bs).2.2.1 → Ext H H' → K (.tup [.agg [vv', vr'], vb', vo', .I (stepF t bs).2.2.2]) H') : CallF Cd f_iTaskStep [.agg c, vb] H K w := by
  have h' := h
  obtain ⟨vv, vr, rfl, h1, h2⟩ := h'
  rw [CallF_eq eq_tS rfl]
  have x0 : Ext H ((H.push [vv, vr]).push [.nils, .nils]) := (Ext.push _ _).trans (Ext.push _ _)
  simp [tSa, tSb, tSc, c_iTaskStep, loadN_push]
  refine K_iTaskValid (h.ext x0) (by omega) fun H1 x1 => ?_
  have n1 := x1.1
  simp only [push_n] at n1
  have q0 : H1.bk H.n = some ⟨[vv, vr], true⟩ := (x1.2 _ (by simp; omega)).trans (push_old (by simp) push_new)
  have q1 : H1.bk (H.n + 1) = some ⟨[.nils, .nils], true⟩ := (x1.2 _ (by simp)).trans push_new
  have y1 := x0.trans x1
  have bad : ∀ H2, Ext H1 H2 → stOk t bs = false → K (.tup [.agg [.nils, .nils], .nils, .nils, .I 0]) (H2.put (H.n + 1) (some ⟨[.nils, .nils], true⟩)) := by
    intro H2 x2 hbad
    have e : stepF t bs = (⟨[], .nil⟩, [], [], 0) := by unfold stepF; rw [hbad]; rfl
    have := k .nils .nils .nils .nils 0 [] 0 [] 0 (H2.put (H.n + 1) (some ⟨[.nils, .nils], true⟩))
    rw [e] at this
    exact this ⟨⟨by simp, rfl, .inl ⟨rfl, rfl⟩⟩, OT.nils, ⟨rfl, ⟨by simp, rfl, .inl ⟨rfl, rfl⟩⟩, by simp, by simp⟩, ⟨by simp, rfl, .inl ⟨rfl, rfl⟩⟩, List.nodup_nil, by simp [grB], by simp, by simp [fpO, grB], by simp [grB]⟩ ((y1.trans x2).put (by omega))
  have stb : ∀ H2, Ext H1 H2 → H2.store (H.n + 1) 0 [.nils, .nils] = some (H2.put (H.n + 1) (some ⟨[.nils, .nils], true⟩)) := fun H2 x2 =>
    store_bk ((x2.2 _ (by omega)).trans q1) (by simp)
  cases hv1 : vaT 3 t with
  | false =>
    simp [stb H1 (Ext.refl _), loadN_bk put_same]
    exact bad H1 (Ext.refl _) (by unfold stOk; rw [hv1]; rfl)
  | true =>
  simp
  refine K_iboxesValid (hb.ext y1) fun H2 x2 => ?_
  cases hv2 : vaBs bs with
  | false =>
    simp [stb H2 x2, loadN_bk put_same]
    exact bad H2 x2 (by unfold stOk; rw [hv1, hv2]; rfl)
  | true =>
  have q2 := (x2.2 _ (by omega)).trans q0
  have hbig := h2.big
  have hbb := hb.alen
  have y2 := y1.trans x2
  have n2 := x2.1
  obtain ⟨f1, f2, f3, f4⟩ := vaT_facts hv1
  have hlen : t.rest.list.length ≤ 9000000 := by have := @len_ctS t.rest; omega
  have fin : rdT t bs.length = true → ∀ G, Ext H2 G → W Cd tSd [(1, vb), (2, .ptr H.n 0), (4, .ptr (H.n + 1) 0)] G (retK [.c 4 2, .t 5, .t 6, .t 7] K) := by
    intro hrd G xg
    have ng := xg.1
    have hok : stepF t bs = stepP t bs := by unfold stepF stOk; rw [hv1, hv2, hrd]; rfl
    rw [hok] at k
    exact W_tSdF (base := H.n) (h.ext (y2.trans xg)) (hb.ext (y2.trans xg)) ((xg.2 _ (by omega)).trans q2) ((xg.2 _ (by omega)).trans ((x2.2 _ (by omega)).trans q1)) (by omega) (by omega) hv1 hv2 hrd hlen
      (fun a1 a2 a3 a4 a5 a6 a7 a8 a9 H' b1 b2 b3 => k a1 a2 a3 a4 a5 a6 a7 a8 a9 H' (b1.up (by have := y2.1; omega)) ⟨by have := y2.1; omega, fun b hb => by rw [b2 b hb, xg.2 b (by have := y2.1; omega), y2.2 b hb]⟩)
  cases hr : t.rest.list with
  | nil =>
    have halr : alen vr = some 0 := by rw [h2.alen, hr]; rfl
    simp [load_bk q2, halr]
    exact fin (by unfold rdT; rw [hr]) H2 (Ext.refl _)
  | cons s r =>
    obtain ⟨b, o, cap, cc, e1, ob, hbn, l1, s1⟩ := h2.head hr
    have hl : t.rest.list.length = r.length + 1 := by rw [hr]; rfl
    rw [hl] at e1
    subst e1
    have l2 := loadN_extE l1 y2 hbn
    obtain ⟨va, vy, vz, rfl, ea, ey, ez⟩ := s1
    have stA : ∀ c : List AV, c.length = 8 → (H2.push [.I 0, .I 0, .I 0, .I 0, .I 0, .nils, .nils, .nils]).store H2.n 0 c = some (H2.push c) := fun c hc => by
      rw [store_bk push_new (by simp; omega), push_put]
      congr 2; unfold splice; simp; omega
    by_cases k45 : (s.k = 4 ∨ s.k = 5) ∧ (bs.length : Int) ≤ s.b
    · have hbad : stOk t bs = false := by
        unfold stOk rdT; rw [hv1, hv2, hr]; simp; omega
      obtain ⟨kk, hle⟩ := k45
      have xs := Ext.push H2 [.I s.k, .I s.v, .I s.b, .I s.e.op, .I s.e.n, va, vy, vz]
      have stA' := stA [.I s.k, .I s.v, .I s.b, .I s.e.op, .I s.e.n, va, vy, vz] rfl
      have sb' := stb _ (x2.trans xs)
      have bd := bad _ (x2.trans xs) hbad
      rcases kk with kk | kk <;> rw [kk] at xs stA' sb' bd
      all_goals
        simp (disch := omega) [load_bk q2, l2, stA', kk, hbb, hle, load_push, sb', loadN_bk put_same]
        exact bd
    · have hrd : rdT t bs.length = true := by
        unfold rdT; rw [hr]; simp; omega
      have stA' := stA [.I s.k, .I s.v, .I s.b, .I s.e.op, .I s.e.n, va, vy, vz] rfl
      have fi := fin hrd (H2.push [.I s.k, .I s.v, .I s.b, .I s.e.op, .I s.e.n, va, vy, vz]) (Ext.push _ _)
      by_cases k4 : s.k = 4
      · have hle : ¬ (bs.length : Int) ≤ s.b := fun h3 => k45 ⟨.inl k4, h3⟩
        rw [k4] at stA' fi
        simp (disch := omega) [load_bk q2, l2, stA', k4, hbb, hle, load_push]
        exact fi
      by_cases k5 : s.k = 5
      · have hle : ¬ (bs.length : Int) ≤ s.b := fun h3 => k45 ⟨.inr k5, h3⟩
        rw [k5] at stA' fi
        simp (disch := omega) [load_bk q2, l2, stA', k5, hbb, hle, load_push]
        exact fi
      · simp (disch := omega) [load_bk q2, l2, stA', k4, k5, load_push]
        exact fi
end
end Go.Proofs.YtcibjklpaljadaaGreat.AM
namespace Go.Proofs.YtcibjklpaljadaaGreat.AM
set_option linter.unusedSimpArgs false
set_option linter.unusedVariables false
set_option maxRecDepth 100000
set_option maxHeartbeats 8000000
open Go
attribute [-simp] AM.elems
theorem nS_of : ∀ {l : List St1}, nS (Sts.of l) = (l.map fun s => 1 + nE s.e.args + nS s.body + nS s.els).sum
  | [] => rfl
  | s :: l => by simp only [Sts.of, nS, nS_of (l := l), List.map_cons, List.sum_cons]
theorem nS_app' {a b : List St1} : nS (Sts.of (a ++ b)) = nS (Sts.of a) + nS (Sts.of b) := by simp [nS_of]
theorem nS_cons' {s : St1} {b : List St1} : nS (Sts.of (s :: b)) = 1 + nE s.e.args + nS s.body + nS s.els + nS (Sts.of b) := rfl
theorem stepF_small {t : Tk} {bs : List Bx} : (stepF t bs).1.vars.length ≤ 4 ∧ nS (stepF t bs).1.rest ≤ 2 * nS t.rest ∧ szB (stepF t bs).2.1 ≤ 100000000000 ∧ (stepF t bs).2.2.1.length ≤ 1 := by
  unfold stepF
  cases h : stOk t bs with
  | false => simp [nS, szB]
  | true =>
    simp only [if_true]
    unfold stOk at h
    simp only [Bool.and_eq_true] at h
    obtain ⟨⟨hva, hbs⟩, hrd⟩ := h
    obtain ⟨u1, u2, u3, u4, u5, u6⟩ := step_keeps hva hbs hrd
    obtain ⟨v1, v2, v3, v4⟩ := vaT_facts u1
    obtain ⟨w1, w2⟩ := vaBs_facts u2
    have hs := szB_le (m := 100) (l := (stepP t bs).2.1) (fun x hx => by have := w2 x hx; omega)
    refine ⟨by omega, ?_, ?_, ?_⟩
    · unfold stepP
      cases hr : t.rest.list with
      | nil => simp only; omega
      | cons s r =>
        have e : nS t.rest = 1 + nE s.e.args + nS s.body + nS s.els + nS (Sts.of r) := by rw [← Sts.of_list t.rest, hr]; rfl
        simp only
        split
        · unfold talkP
          split
          · simp only; omega
          · split
            · split <;> (simp only; omega)
            · split <;> (simp only; omega)
        · split
          · simp only [blkR]
            split
            · rw [nS_app', Sts.of_list]
              split <;> omega
            · split
              · rw [nS_app', Sts.of_list, nS_cons']; omega
              · omega
          · split
            · simp only; omega
            · split <;> (simp only; omega)
    · have := Nat.mul_le_mul_right (1 + 100) w1
      omega
    · unfold stepP
      cases hr : t.rest.list with
      | nil => simp
      | cons s r =>
        simp only
        split
        · simp
        · split
          · simp
          · split
            · simp
            · split <;> simp
theorem Only.fresh {bs H0 H H'} (k : Only bs H H') (h : Ext H0 H) (hb : ∀ b ∈ bs, H0.n ≤ b) : Ext H0 H' := ⟨Nat.le_trans h.1 k.1, fun b hbn => (k.2 b (Nat.lt_of_lt_of_le hbn h.1) (fun hm => by have := hb b hm; omega)).trans (h.2 b hbn)⟩
theorem store_push2x {H : AH} {a b x y : AV} : (H.push [a, b]).store H.n 0 [x, y] = some (H.push [x, y]) := by
  rw [store_bk push_new (by simp), push_put]; rfl
theorem law_FnExactTaskStep {H : AH} {vv vr vb : AV} {vars : List Int} {f : Sts} {bs : List Bx} (hr : ArgI H vv vars) (hf : ATs H vr f) (hb : ArgB H vb bs) : CallK Cd f_wFnExactTaskStep [.agg [vv, vr], vb] H fun v _ => v = .b true := by
  rw [CallK_F, CallF_eq e_wFnExactTaskStep rfl]
  have xa := Ext.push H [vv, vr]
  have qa : (H.push [vv, vr]).bk H.n = some ⟨[vv, vr], true⟩ := push_new
  simp [loadN_bk qa]
  refine K_wszTask (hr.ext xa) (hf.ext xa) (by omega) (fun H1 x1 => by simp) fun c1 H1 x1 => ?_
  have c2 : ¬ (1048576 : Int) - vars.length - nS f < 0 := by omega
  simp [c2]
  refine K_wszBoxS ((hb.ext xa).ext x1) (by omega) (fun H' x => by simp) fun H2 r h1 h2 h3 h4 x2 => ?_
  have hrl : vars.length ≤ 1048576 := by omega
  have hll : nS f ≤ 1048576 := by omega
  have hr0 : ¬ r < 0 := by omega
  have xs := x1.trans x2
  have q2 : H2.bk H.n = some ⟨[vv, vr], true⟩ := (xs.2 _ (by simp)).trans qa
  have y2 := xa.trans xs
  have iv2 := (hr.2.2.2 (by omega)).ext y2
  have sf2 := (hf.sv (by omega)).ext y2
  have bb2 := (hb.bv (by omega) (fun x hx => by have := h4 x hx; omega)).ext y2
  have n2 : H.n < H2.n := by have := xs.1; simp at this; omega
  have hct : ctS f ≤ 8000000 := by have := @ctS_nS f; omega
  clear hr hf hb x1 x2 xs xa y2 qa
  simp [hr0, loadN_bk q2]
  refine K_wtoTask iv2.sees sf2 fun a1 b1 a1' fp1 G1 o1 p1 nd1 hb1 hbl1 lo1 x1 => ?_
  simp [x1]
  refine K_wtoBoxS (bb2.ext x1) fun a2 b2 rs2 G2 o2 hb2 x2 => ?_
  have y2 := x1.trans x2
  simp [x2]
  obtain ⟨T, hT⟩ : ∃ T, T = stepF ⟨vars, f⟩ bs := ⟨_, rfl⟩
  refine K_sTaskStep (ok := fun _ => True) (t := ⟨vars, f⟩) ⟨_, _, rfl, OI.iv (o1.ext x2) (fun _ => trivial), (p1.ext x2).svT⟩ (o2.bv fun _ _ => trivial) (show ctS f ≤ 10000000 by omega) fun c' w1 w2 G3 tc i1 i2 x3 f1 f2 => ?_
  rw [← hT] at tc i1 i2 ⊢
  obtain ⟨w0, w0', rfl, i0, i0'⟩ := tc
  have f0 := i0.flat
  have f0' := i0'.flat
  have y3 := y2.trans x3
  have x5 := Ext.push G3 [w0, w0']
  have y5 := y3.trans x5
  simp [x3, flat_cells f0, flat_tup f0, flat_cells f0', flat_tup f0', store_push2x]
  obtain ⟨Gw, hGw⟩ : ∃ Gw, Gw = G3.push [w0, w0'] := ⟨_, rfl⟩
  rw [← hGw] at y5 x5 ⊢
  have t8 : Gw.bk G3.n = some ⟨[w0, w0'], true⟩ := by rw [hGw]; exact push_new
  have nw : Gw.n = G3.n + 1 := by rw [hGw]; simp
  have j0 : SeesZ Gw w0 T.1.vars := (i0.ext x5).sees
  have j0' := i0'.ext x5
  have j1 := i1.ext x5
  have j2 : SeesZ Gw w2 T.2.2.1 := (i2.ext x5).sees
  have ivw := iv2.ext y5
  have sfw := sf2.ext y5
  have bbw := bb2.ext y5
  have t4 : Gw.bk H.n = some ⟨[vv, vr], true⟩ := (y5.2 _ n2).trans q2
  have n4 : H.n < Gw.n := by have := y5.1; omega
  clear o1 p1 nd1 o2 hb1 hbl1 lo1 hb2 x1 x2 x3 x5 y2 y3 y5 q2 iv2 sf2 bb2 i0 i0' i1 i2 hGw
  have J0 := j0
  have J0' := j0'
  have J1 := j1
  have J2 := j2
  have IV_ := ivw
  have SF_ := sfw
  have BB := bbw
  have T8 := t8
  have T4 := t4
  simp [loadN_bk t4]
  refine K_wtoTask ivw.sees sfw fun a1 b1 a1' fp1 G1 o1 p1 nd1 hb1 hbl1 lo1 x1 => ?_
  have fa1 : a1.flat = true := o1.flat
  have fa1' : a1'.flat = true := p1.flat
  have x3 := Ext.push G1 [a1, a1']
  simp [flat_cells fa1, flat_tup fa1, flat_cells fa1', flat_tup fa1', store_push2x]
  refine K_wtoBoxS (bbw.ext (x1.trans x3)) fun a2 b2 rs2 G2 o2 hb2 x4 => ?_
  have t13 : G2.bk G1.n = some ⟨[a1, a1'], true⟩ := (x4.2 _ (by simp)).trans push_new
  have y3 := (x1.trans x3).trans x4
  have o1' := (o1.ext x3).ext x4
  have p1' := (p1.ext x3).ext x4
  have m1 := x1.1
  have m4 := x4.1
  simp only [push_n] at m4 hb2
  have mm0 : ∀ x ∈ grB a1 b1, Gw.n ≤ x ∧ x < G1.n ∧ x ∉ fp1 := fun x hx => ⟨by have := grB_sub hx; omega, by have := grB_sub hx; omega, fun hm => by have := grB_sub hx; have := lo1 x hm; omega⟩
  have mm1 : ∀ x ∈ fp1, Gw.n ≤ x ∧ x < G1.n := fun x hx => ⟨by have := lo1 x hx; omega, p1.mem x hx⟩
  have mm2 : ∀ x ∈ fpO a2 b2 rs2, G1.n + 1 ≤ x ∧ x < G2.n := fun x hx => ⟨hb2 x hx, o2.mem hx⟩
  simp [loadN_bk t13]
  refine K_iTaskStepF (ok := fun _ => True) (t := ⟨vars, f⟩) ⟨_, _, rfl, OI.iv o1' (fun _ => trivial), p1'.svT⟩ (o2.bv fun _ _ => trivial) (show ctS f ≤ 8000000 by omega) fun g0 g0' g1 g2 V fr B rs O G4' tr x5 => ?_
  rw [← hT] at tr ⊢
  have fg0 : g0.flat = true := tr.v.flat
  have fg0' : g0'.flat = true := tr.r.flat
  have x6 := Ext.push G4' [g0, g0']
  simp [flat_cells fg0, flat_tup fg0, flat_cells fg0', flat_tup fg0', store_push2x]
  obtain ⟨Gg, hGg⟩ : ∃ Gg, Gg = G4'.push [g0, g0'] := ⟨_, rfl⟩
  rw [← hGg] at x6 ⊢
  have t15 : Gg.bk G4'.n = some ⟨[g0, g0'], true⟩ := by rw [hGg]; exact push_new
  have ng : Gg.n = G4'.n + 1 := by rw [hGg]; simp
  have X := y3.trans (x5.trans x6)
  have m5 := x5.1
  have tg := tr.ext x6
  have v1 := o1'.ext (x5.trans x6)
  have v1' := p1'.ext (x5.trans x6)
  have v2 := o2.ext (x5.trans x6)
  have t13 := ((x5.trans x6).2 _ (by omega)).trans t13
  have t8 := (X.2 _ (by omega)).trans t8
  have t4 := (X.2 _ n4).trans t4
  have j0 := j0.ext X
  have j0' := j0'.ext X
  have j1 := j1.ext X
  have j2 := j2.ext X
  have ivw := ivw.ext X
  have sfw := sfw.ext X
  have bbw := bbw.ext X
  simp [loadN_bk t15, loadN_bk t8]
  refine T_weqTask (OI.sees tg.v) j0 tg.r.svT j0' fun E1 e1 => ?_
  simp
  refine T_weqBoxS ((tg.b.ext e1).bv (ok := fun _ => True) fun _ _ => trivial) (j1.ext e1) fun E2 e2 => ?_
  have z2 := e1.trans e2
  simp [K_weqIntS (OI.sees (tg.ext z2).o) (j2.ext z2)]
  have k13 := (z2.2 _ (by omega)).trans t13
  have k4 := (z2.2 _ (by omega)).trans t4
  simp [loadN_bk k13, loadN_bk k4]
  refine K_wtoTask (ivw.ext z2).sees (sfw.ext z2) fun a5 b5 a5' fp5 E5 o5 p5 _ _ _ _ e5 => ?_
  have z5 := z2.trans e5
  simp [e5]
  refine T_weqTask (OI.sees (v1.ext z5)) (OI.sees o5) (v1'.ext z5).svT p5.svT fun E6 e6 => ?_
  have z6 := z5.trans e6
  simp [e6]
  refine K_wtoBoxS (bbw.ext z6) fun a7 b7 rs7 E7 o7 _ e7 => ?_
  have z7 := z6.trans e7
  simp
  refine T_weqBoxS ((v2.ext z7).bv (ok := fun _ => True) fun _ _ => trivial) (o7.bv (ok := fun _ => True) fun _ _ => trivial) fun E8 e8 => ?_
  have z8 := z7.trans e8
  simp
  have hszb := szB_le (m := 1048576) (l := bs) h4
  have hszb2 : szB bs ≤ 1099512676352 := Nat.le_trans hszb (Nat.le_trans (Nat.mul_le_mul_right _ h3) (by omega))
  have hmS := @mS_le f
  have r13 := (z8.2 _ (by omega)).trans t13
  simp [loadN_bk r13]
  refine K_wmarkTask (v1.ext z8) (v1'.ext z8) nd1 (fun x hx => (mm0 x hx).2.2) (by omega) (by omega) fun E10 _ _ w10 => ?_
  simp
  refine K_wmarkBoxS ((v2.ext z8).only w10 (fun x hx hm => by
    have := mm2 _ hx
    rcases List.mem_append.1 hm with hm | hm
    · have := mm0 _ hm; omega
    · have := mm1 _ hm; omega)) (by omega) fun E11 _ w11 => ?_
  obtain ⟨xs, hxs⟩ : ∃ xs, xs = (grB a1 b1 ++ fp1) ++ fpO a2 b2 rs2 := ⟨_, rfl⟩
  have hx1 : ∀ x ∈ xs, Gw.n ≤ x ∧ x < G2.n := fun x hx => by
    rw [hxs] at hx
    rcases List.mem_append.1 hx with hx | hx
    · rcases List.mem_append.1 hx with hx | hx
      · have := mm0 x hx; omega
      · have := mm1 x hx; omega
    · have := mm2 x hx; omega
  have wx : Only xs Gg E11 := by
    have a10 : Only xs E8 E10 := ⟨w10.1, fun b hb hm => w10.2 b hb (fun h => hm (by rw [hxs]; exact List.mem_append_left _ h))⟩
    have a11 : Only xs E10 E11 := ⟨w11.1, fun b hb hm => w11.2 b hb (fun h => hm (by rw [hxs]; exact List.mem_append_right _ h))⟩
    exact (z8.only.trans a10).trans a11
  have X11 : Ext Gw E11 := Only.fresh wx X (fun b hb => (hx1 b hb).1)
  have t11 := tg.only wx (fun b hb => (hx1 b hb).2)
  have r15 := wx.bk (by omega) (fun hm => by have := hx1 _ hm; omega) t15
  have r8 := (X11.2 _ (by omega)).trans T8
  have hk : ¬ (1 : Int) + vars.length + mS f + szB bs < 0 := by omega
  clear w10 w11 r13 z8 z7 z6 z5 z2 e1 e2 e5 e6 e7 e8 o1' p1' v1 v1' v2 o5 p5 o7 k13 k4
  have n11 := wx.1
  simp (disch := omega) [hk, loadN_bk r15, loadN_bk r8]
  refine T_weqTask (OI.sees t11.v) (J0.ext X11) t11.r.svT (J0'.ext X11) fun E12 e12 => ?_
  simp
  refine T_weqBoxS ((t11.b.ext e12).bv (ok := fun _ => True) fun _ _ => trivial) ((J1.ext X11).ext e12) fun E13 e13 => ?_
  have z13 := e12.trans e13
  simp [K_weqIntS (OI.sees (t11.ext z13).o) ((J2.ext X11).ext z13)]
  have n13 := z13.1
  obtain ⟨sm1, sm0, sm2, sm3⟩ := stepF_small (t := ⟨vars, f⟩) (bs := bs)
  rw [← hT] at sm1 sm0 sm2 sm3
  simp only at sm0
  have hmT := @mS_le T.1.rest
  have t13' := t11.ext z13
  have r15 := (z13.2 _ (by omega)).trans r15
  simp [loadN_bk r15]
  refine K_wmarkTask t13'.v t13'.r t13'.nd (fun x hx => (t13'.d0 x hx).2.1) (by omega) (by omega) fun E14 u14 u14' w14 => ?_
  have wd : ∀ x ∈ grB g0 V ++ fr, x ∉ fpO g1 B rs ∧ x ∉ grB g2 O ∧ G2.n ≤ x := fun x hx => by
    rcases List.mem_append.1 hx with hx | hx
    · have := t13'.d0 x hx; exact ⟨this.2.2.1, this.2.2.2, this.1⟩
    · have := t13'.d1 x hx; exact ⟨this.2.1, this.2.2, this.1⟩
  simp
  refine K_wmarkBoxS (t13'.b.only w14 (fun x hx hm => (wd x hm).1 hx)) (by omega) fun E15 u15 w15 => ?_
  simp
  refine K_wmarkI ((t13'.o.only w14 (fun x hx hm => (wd x hm).2.1 hx)).only w15 (fun x hx hm => (t13'.d2 x hm).2 hx)) (by omega) fun E16 u16 w16 => ?_
  have n14 := w14.1
  have n15 := w15.1
  have n16 := w16.1
  have h14 := (u14.only w15 (fun x hx hm => (t13'.d0 x hx).2.2.1 hm)).only w16 (fun x hx hm => (t13'.d0 x hx).2.2.2 hm)
  have h14' := (u14'.only w15 (fun x hx hm => (t13'.d1 x hx).2.1 hm)).only w16 (fun x hx hm => (t13'.d1 x hx).2.2 hm)
  have h15 := u15.only w16 (fun x hx hm => (t13'.d2 x hx).2 hm)
  have X16 : Ext Gw E16 := Only.fresh w16 (Only.fresh w15 (Only.fresh w14 (X11.trans z13) (fun b hb => by have := wd b hb; omega)) (fun b hb => by have := (t13'.d2 b hb).1; omega)) (fun b hb => by have := t13'.d3 b hb; omega)
  have below1 : ∀ b ∈ grB g0 V ++ fr, b < G4'.n := fun b hb => by
    rcases List.mem_append.1 hb with hb | hb
    · have := tr.v.mem hb; omega
    · exact tr.r.mem b hb
  have below2 : ∀ b ∈ fpO g1 B rs, b < G4'.n := fun b hb => tr.b.mem hb
  have below3 : ∀ b ∈ grB g2 O, b < G4'.n := fun b hb => by have := tr.o.mem hb; omega
  have q15 : E16.bk G4'.n = some ⟨[g0, g0'], true⟩ := w16.bk (by omega) (fun hm => by have := below3 _ hm; omega) (w15.bk (by omega) (fun hm => by have := below2 _ hm; omega) (w14.bk (by omega) (fun hm => by have := below1 _ hm; omega) r15))
  simp [loadN_bk q15]
  refine K_wheldTask h14 h14'.svT (by omega) (by omega) fun E17 e17 => ?_
  have hk1 : ¬ (1 : Int) + T.1.vars.length + mS T.1.rest < 0 := by omega
  simp [hk1]
  refine K_wheldBoxS (h15.ext e17) (by omega) ?_
  have hk2 : ¬ (1 : Int) + T.1.vars.length + mS T.1.rest + szB T.2.1 < 0 := by omega
  simp [hk2]
  refine K_wheldI (u16.ext e17) (by omega) ?_
  have hk3 : ¬ (1 : Int) + T.1.vars.length + mS T.1.rest + szB T.2.1 + T.2.2.1.length < 0 := by omega
  have X17 := X16.trans e17
  have n17 := e17.1
  have r4 := (X17.2 _ n4).trans T4
  simp [hk3, loadN_bk r4]
  refine K_wtoTask (IV_.ext X17).sees (SF_.ext X17) fun c1 d1 c1' fq1 F1 o1 p1 ndq hd1 hdl1 loq1 x1 => ?_
  simp [x1]
  refine K_wtoBoxS ((BB.ext X17).ext x1) fun c2 d2 ds2 F2 o2 hd2 x3 => ?_
  have y3 := x1.trans x3
  simp [x3]
  refine K_iTaskStepF (ok := fun _ => True) (t := ⟨vars, f⟩) ⟨_, _, rfl, OI.iv (o1.ext x3) (fun _ => trivial), (p1.ext x3).svT⟩ (o2.bv fun _ _ => trivial) (show ctS f ≤ 8000000 by omega) fun q0 q0' q1 q2 V' fr' B' rs' O' F4 tq x4 => ?_
  rw [← hT] at tq ⊢
  have fq0 : q0.flat = true := tq.v.flat
  have fq0' : q0'.flat = true := tq.r.flat
  have x5 := Ext.push F4 [q0, q0']
  have y5 := (y3.trans x4).trans x5
  have X18 := X17.trans y5
  have tq' := tq.ext x5
  have r8 : (F4.push [q0, q0']).bk G3.n = some ⟨[w0, w0'], true⟩ := (X18.2 _ (by omega)).trans T8
  simp [x4, flat_cells fq0, flat_tup fq0, flat_cells fq0', flat_tup fq0', store_push2x, loadN_push, loadN_bk r8]
  refine T_weqTask (OI.sees tq'.v) (J0.ext X18) tq'.r.svT (J0'.ext X18) fun E21 e21 => ?_
  simp
  refine T_weqBoxS ((tq'.b.ext e21).bv (ok := fun _ => True) fun _ _ => trivial) ((J1.ext X18).ext e21) fun E22 e22 => ?_
  have z22 := e21.trans e22
  simp [K_weqIntS (OI.sees (tq'.ext z22).o) ((J2.ext X18).ext z22)]
  have zz := (e17.trans y5).trans z22
  have r15 := (zz.2 _ (by omega)).trans q15
  simp [loadN_bk r15]
  refine K_wheldTask (h14.ext zz) (h14'.ext zz).svT (by omega) (by omega) fun E23 e23 => ?_
  simp [hk1]
  refine K_wheldBoxS ((h15.ext zz).ext e23) (by omega) ?_
  simp [hk2]
  refine K_wheldI ((u16.ext zz).ext e23) (by omega) ?_
  simp [hk3]
end Go.Proofs.YtcibjklpaljadaaGreat.AM
namespace Go.Proofs.YtcibjklpaljadaaGreat.AM
set_option linter.unusedSimpArgs false
set_option linter.unusedVariables false
set_option maxRecDepth 100000
set_option maxHeartbeats 4000000
open Go Go.RowKit
attribute [-simp] AM.elems
inductive XR where
  | nil
  | cons (op n : Int) (a : Option Addr) (len cap : Nat) (sub rest : XR)
def XR.n : XR → Nat
  | .nil => 0
  | .cons _ _ _ _ _ _ r => r.n + 1
def XIn (w : World) : XR → Addr → Nat → Prop
  | .nil, _, _ => True
  | .cons op n a len cap sub rest, x, i => w.cell? (x.add (i * 3)) = some (.int .i64 op) ∧ w.cell? (x.add (i * 3 + 1)) = some (.int .i64 n) ∧ w.cell? (x.add (i * 3 + 2)) = some (.slice a len cap) ∧
    ((a = none ∧ len = 0 ∧ cap = 0 ∧ sub = .nil) ∨ ∃ y, a = some y ∧ len ≤ cap ∧ cap ≤ maxLen ∧ sub.n = cap ∧ XIn w sub y 0) ∧ XIn w rest x (i + 1)
def IsX (w : World) (a : Option Addr) (len cap : Nat) (T : XR) : Prop := (a = none ∧ len = 0 ∧ cap = 0 ∧ T = .nil) ∨ ∃ y, a = some y ∧ len ≤ cap ∧ cap ≤ maxLen ∧ T.n = cap ∧ XIn w T y 0
def xN : XR → Nat
  | .nil => 0
  | .cons _ _ _ _ _ sub rest => 1 + xN sub + xN rest
def xC (S : Nat) : XR → Nat → List AV
  | .nil, _ => []
  | .cons op m a len cap sub rest, n => .I op :: .I m :: rowV (S + n) a len cap :: xC S rest (n + 1 + xN sub)
def xB (S : Nat) : XR → Nat → Bs
  | .nil, _ => []
  | .cons _ _ a _ _ sub rest, n => recB a (xC S sub (n + 1)) :: (xB S sub (n + 1) ++ xB S rest (n + 1 + xN sub))
theorem xC_len {S : Nat} : ∀ {T : XR} {n : Nat}, (xC S T n).length = T.n * 3
  | .nil, _ => rfl
  | .cons _ _ _ _ _ sub rest, n => by simp [xC, XR.n, xC_len (T := rest)]; omega
theorem xB_len {S : Nat} : ∀ {T : XR} {n : Nat}, (xB S T n).length = xN T
  | .nil, _ => rfl
  | .cons _ _ _ _ _ sub rest, n => by simp [xB, xN, xB_len (T := sub), xB_len (T := rest)]; omega
def SgB (bs : Bs) (n : Nat) (l : Bs) : Prop := ∀ (i : Nat) r, l[i]? = some r → bs[n + i]? = some r
theorem SgB.head {bs : Bs} {n : Nat} {r} {l : Bs} (h : SgB bs n (r :: l)) : bs[n]? = some r := h 0 r rfl
theorem SgB.tail {bs : Bs} {n : Nat} {r} {l : Bs} (h : SgB bs n (r :: l)) : SgB bs (n + 1) l := fun i r' hi => by
  have := h (i + 1) r' (by simpa using hi)
  rwa [show n + (i + 1) = n + 1 + i by omega] at this
theorem SgB.left {bs : Bs} {n : Nat} {l1 l2 : Bs} (h : SgB bs n (l1 ++ l2)) : SgB bs n l1 := fun i r hi => h i r (by rw [List.getElem?_append_left (List.getElem?_eq_some_iff.1 hi).1]; exact hi)
theorem SgB.right {bs : Bs} {n m : Nat} {l1 l2 : Bs} (h : SgB bs n (l1 ++ l2)) (hm : m = n + l1.length) : SgB bs m l2 := fun i r hi => by
  have := h (l1.length + i) r (by rw [List.getElem?_append_right (by omega), Nat.add_sub_cancel_left]; exact hi)
  rwa [← Nat.add_assoc, ← hm] at this
theorem xB_parts {bs : Bs} {S n : Nat} {op m : Int} {a len cap sub rest} (h : SgB bs n (xB S (.cons op m a len cap sub rest) n)) : bs[n]? = some (recB a (xC S sub (n + 1))) ∧ SgB bs (n + 1) (xB S sub (n + 1)) ∧ SgB bs (n + 1 + xN sub) (xB S rest (n + 1 + xN sub)) :=
  ⟨h.head, h.tail.left, h.tail.right (by rw [xB_len])⟩
theorem xIn_at {w : World} {bs : Bs} : ∀ {T : XR} {x : Addr} {i n : Nat}, XIn w T x i → SgB bs n (xB w.heap.size T n) → ∀ (j : Nat) c, (xC w.heap.size T n)[j]? = some c → c.flat = true ∧ ∃ v, w.cell? (x.add (i * 3 + j)) = some v ∧ VR (rho0 w.heap.size bs) c v
  | .nil, _, _, _, _, _, j, c, hc => by simp [xC] at hc
  | .cons op m a len cap sub rest, x, i, n, h, hs, j, c, hc => by
    obtain ⟨h0, h1, h2, h3, h4⟩ := h
    obtain ⟨s0, s1, s2⟩ := xB_parts hs
    match j, hc with
    | 0, hc => simp [xC] at hc; subst hc; exact ⟨rfl, _, h0, .i _ _⟩
    | 1, hc => simp [xC] at hc; subst hc; exact ⟨rfl, _, h1, .i _ _⟩
    | 2, hc =>
      simp [xC] at hc; subst hc
      refine ⟨rowV_flat, _, h2, ?_⟩
      have hr : IsRec w (rho0 w.heap.size bs) a len cap 3 (xC w.heap.size sub (n + 1)) := by
        rcases h3 with ⟨rfl, rfl, rfl, rfl⟩ | ⟨y, rfl, q1, q2, q3, q4⟩
        · exact .inl ⟨rfl, rfl, rfl, rfl⟩
        · refine .inr ⟨y, rfl, q1, q2, by rw [xC_len, q3], fun j' c' hc' => ?_⟩
          have := xIn_at q4 s1 j' c' hc'
          simpa using this
      exact rec_v hr (by omega) s0
    | j + 3, hc =>
      have := xIn_at h4 s2 j c (by simpa [xC] using hc)
      rwa [show (i + 1) * 3 + j = i * 3 + (j + 3) by omega] at this
theorem isX_rec {w : World} {bs : Bs} {a len cap} {T : XR} {n : Nat} (h : IsX w a len cap T) (hs : SgB bs n (xB w.heap.size T n)) : IsRec w (rho0 w.heap.size bs) a len cap 3 (xC w.heap.size T n) := by
  rcases h with ⟨rfl, rfl, rfl, rfl⟩ | ⟨y, rfl, q1, q2, q3, q4⟩
  · exact .inl ⟨rfl, rfl, rfl, rfl⟩
  · refine .inr ⟨y, rfl, q1, q2, by rw [xC_len, q3], fun j' c' hc' => ?_⟩
    have := xIn_at q4 hs j' c' hc'
    simpa using this
def LieR (w : World) (bs : Bs) (r : Nat × Nat × List AV) : Prop := ∀ (i : Nat) x, r.2.2[i]? = some x → x.flat = true ∧ ∃ v, w.cell? ⟨r.1, r.2.1 + i, none⟩ = some v ∧ VR (rho0 w.heap.size bs) x v
theorem xB_lies {w : World} {bs : Bs} : ∀ {T : XR} {x : Addr} {i n : Nat}, XIn w T x i → SgB bs n (xB w.heap.size T n) → ∀ r ∈ xB w.heap.size T n, LieR w bs r
  | .nil, _, _, _, _, _, r, hr => by simp [xB] at hr
  | .cons op m a len cap sub rest, x, i, n, h, hs, r, hr => by
    obtain ⟨h0, h1, h2, h3, h4⟩ := h
    obtain ⟨s0, s1, s2⟩ := xB_parts hs
    simp only [xB, List.mem_cons, List.mem_append] at hr
    rcases hr with rfl | hr | hr
    · exact rec_lies (isX_rec h3 s1)
    · rcases h3 with ⟨rfl, rfl, rfl, rfl⟩ | ⟨y, rfl, q1, q2, q3, q4⟩
      · simp [xB] at hr
      · exact xB_lies q4 s1 r hr
    · exact xB_lies h4 s2 r hr
theorem isX_lies {w : World} {bs : Bs} {a len cap} {T : XR} {n : Nat} (h : IsX w a len cap T) (hs : SgB bs n (xB w.heap.size T n)) : ∀ r ∈ xB w.heap.size T n, LieR w bs r := by
  rcases h with ⟨rfl, rfl, rfl, rfl⟩ | ⟨y, rfl, q1, q2, q3, q4⟩
  · simp [xB]
  · exact xB_lies q4 hs
def xT : XR → Nat → Exs
  | .nil, _ => .nil
  | .cons _ _ _ _ _ _ _, 0 => .nil
  | .cons op m _ len _ sub rest, k + 1 => .cons op m (xT sub len) (xT rest k)
theorem xT_len : ∀ {T : XR} {k : Nat}, k ≤ T.n → (xT T k).list.length = k
  | .nil, k, h => by simp [XR.n] at h; subst h; rfl
  | .cons _ _ _ _ _ _ _, 0, _ => rfl
  | .cons op m _ len _ sub rest, k + 1, h => by simp only [XR.n] at h; simp only [xT, Exs.list, List.length_cons, xT_len (T := rest) (k := k) (by omega)]
theorem as_of {w : World} {bs : Bs} {a len cap sz cs} {n j : Nat} {P : List AV → Prop} (h : IsRec w (rho0 w.heap.size bs) a len cap sz cs) (hj : bs[j]? = some (recB a cs)) (hn : n = len) (hP : P (cs.take (len * sz))) : AS (heap0 w.heap.size bs) (rowV (w.heap.size + j) a len cap) n sz P := by
  subst hn
  obtain ⟨a1, a2⟩ := rec_alen (b := w.heap.size + j) h
  exact ⟨a1, a2, rowV_flat, fun hle => ⟨_, rec_sees h hj hle, hP⟩⟩
theorem xIn_arg {w : World} {bs : Bs} : ∀ {T : XR} {x : Addr} {i n k : Nat}, XIn w T x i → SgB bs n (xB w.heap.size T n) → AEF (heap0 w.heap.size bs) (xT T k) ((xC w.heap.size T n).take (k * 3))
  | .nil, _, _, _, _, _, _ => by simp [xC, xT]; rfl
  | .cons _ _ _ _ _ _ _, _, _, _, 0, _, _ => by simp [xT]; rfl
  | .cons op m a len cap sub rest, x, i, n, k + 1, h, hs => by
    obtain ⟨h0, h1, h2, h3, h4⟩ := h
    obtain ⟨s0, s1, s2⟩ := xB_parts hs
    refine ⟨rowV (w.heap.size + n) a len cap, (xC w.heap.size rest (n + 1 + xN sub)).take (k * 3), by simp [xC, Nat.add_mul], ?_, xIn_arg h4 s2⟩
    refine as_of (isX_rec h3 s1) s0 ?_ ?_
    · rcases h3 with ⟨rfl, rfl, rfl, rfl⟩ | ⟨y, rfl, q1, q2, q3, q4⟩
      · rfl
      · exact xT_len (by omega)
    · rcases h3 with ⟨rfl, rfl, rfl, rfl⟩ | ⟨y, rfl, q1, q2, q3, q4⟩
      · simp [xC, xT]; rfl
      · exact xIn_arg q4 s1
theorem isX_arg {w : World} {bs : Bs} {a len cap} {T : XR} {n j : Nat} (h : IsX w a len cap T) (hs : SgB bs n (xB w.heap.size T n)) (hj : bs[j]? = some (recB a (xC w.heap.size T n))) : AE (heap0 w.heap.size bs) (rowV (w.heap.size + j) a len cap) (xT T len) := by
  refine as_of (isX_rec h hs) hj ?_ ?_
  · rcases h with ⟨rfl, rfl, rfl, rfl⟩ | ⟨y, rfl, q1, q2, q3, q4⟩
    · rfl
    · exact xT_len (by omega)
  · rcases h with ⟨rfl, rfl, rfl, rfl⟩ | ⟨y, rfl, q1, q2, q3, q4⟩
    · simp [xC, xT]; rfl
    · exact xIn_arg q4 hs
end Go.Proofs.YtcibjklpaljadaaGreat.AM
namespace Go.Proofs.YtcibjklpaljadaaGreat.AM
set_option linter.unusedSimpArgs false
set_option linter.unusedVariables false
set_option maxRecDepth 100000
set_option maxHeartbeats 4000000
open Go Go.RowKit
attribute [-simp] AM.elems
inductive YR where
  | nil
  | cons (k v b op n : Int) (ae : Option Addr) (le ce : Nat) (e : XR) (ay : Option Addr) (ly cy : Nat) (y : YR) (az : Option Addr) (lz cz : Nat) (z : YR) (rest : YR)
def YR.n : YR → Nat
  | .nil => 0
  | .cons _ _ _ _ _ _ _ _ _ _ _ _ _ _ _ _ _ r => r.n + 1
def YIn (w : World) : YR → Addr → Nat → Prop
  | .nil, _, _ => True
  | .cons k v b op n ae le ce e ay ly cy y az lz cz z rest, x, i =>
    (w.cell? (x.add (i * 8)) = some (.int .i64 k) ∧ w.cell? (x.add (i * 8 + 1)) = some (.int .i64 v) ∧ w.cell? (x.add (i * 8 + 2)) = some (.int .i64 b) ∧ w.cell? (x.add (i * 8 + 3)) = some (.int .i64 op) ∧ w.cell? (x.add (i * 8 + 4)) = some (.int .i64 n) ∧
      w.cell? (x.add (i * 8 + 5)) = some (.slice ae le ce) ∧ w.cell? (x.add (i * 8 + 6)) = some (.slice ay ly cy) ∧ w.cell? (x.add (i * 8 + 7)) = some (.slice az lz cz)) ∧
    IsX w ae le ce e ∧
    ((ay = none ∧ ly = 0 ∧ cy = 0 ∧ y = .nil) ∨ ∃ u, ay = some u ∧ ly ≤ cy ∧ cy ≤ maxLen ∧ y.n = cy ∧ YIn w y u 0) ∧
    ((az = none ∧ lz = 0 ∧ cz = 0 ∧ z = .nil) ∨ ∃ u, az = some u ∧ lz ≤ cz ∧ cz ≤ maxLen ∧ z.n = cz ∧ YIn w z u 0) ∧ YIn w rest x (i + 1)
def IsY (w : World) (a : Option Addr) (len cap : Nat) (T : YR) : Prop := (a = none ∧ len = 0 ∧ cap = 0 ∧ T = .nil) ∨ ∃ y, a = some y ∧ len ≤ cap ∧ cap ≤ maxLen ∧ T.n = cap ∧ YIn w T y 0
def ytN : YR → Nat
  | .nil => 0
  | .cons _ _ _ _ _ _ _ _ e _ _ _ y _ _ _ z rest => 3 + xN e + ytN y + ytN z + ytN rest
def ytC (S : Nat) : YR → Nat → List AV
  | .nil, _ => []
  | .cons k v b op m ae le ce e ay ly cy y az lz cz z rest, n => .I k :: .I v :: .I b :: .I op :: .I m :: rowV (S + n) ae le ce :: rowV (S + (n + 1 + xN e)) ay ly cy :: rowV (S + (n + 1 + xN e + 1 + ytN y)) az lz cz :: ytC S rest (n + 1 + xN e + 1 + ytN y + 1 + ytN z)
def ytB (S : Nat) : YR → Nat → Bs
  | .nil, _ => []
  | .cons _ _ _ _ _ ae _ _ e ay _ _ y az _ _ z rest, n => (recB ae (xC S e (n + 1)) :: xB S e (n + 1)) ++ ((recB ay (ytC S y (n + 1 + xN e + 1)) :: ytB S y (n + 1 + xN e + 1)) ++ ((recB az (ytC S z (n + 1 + xN e + 1 + ytN y + 1)) :: ytB S z (n + 1 + xN e + 1 + ytN y + 1)) ++ ytB S rest (n + 1 + xN e + 1 + ytN y + 1 + ytN z)))
theorem ytC_len {S : Nat} : ∀ {T : YR} {n : Nat}, (ytC S T n).length = T.n * 8
  | .nil, _ => rfl
  | .cons _ _ _ _ _ _ _ _ _ _ _ _ _ _ _ _ _ rest, n => by simp [ytC, YR.n, ytC_len (T := rest)]; omega
theorem yB_len {S : Nat} : ∀ {T : YR} {n : Nat}, (ytB S T n).length = ytN T
  | .nil, _ => rfl
  | .cons _ _ _ _ _ _ _ _ e _ _ _ y _ _ _ z rest, n => by simp [ytB, ytN, xB_len, yB_len (T := y), yB_len (T := z), yB_len (T := rest)]; omega
theorem yB_parts {bs : Bs} {S n : Nat} {k v b op m : Int} {ae le ce e ay ly cy y az lz cz z rest} (h : SgB bs n (ytB S (.cons k v b op m ae le ce e ay ly cy y az lz cz z rest) n)) :
    (bs[n]? = some (recB ae (xC S e (n + 1))) ∧ SgB bs (n + 1) (xB S e (n + 1))) ∧ (bs[n + 1 + xN e]? = some (recB ay (ytC S y (n + 1 + xN e + 1))) ∧ SgB bs (n + 1 + xN e + 1) (ytB S y (n + 1 + xN e + 1))) ∧
    (bs[n + 1 + xN e + 1 + ytN y]? = some (recB az (ytC S z (n + 1 + xN e + 1 + ytN y + 1))) ∧ SgB bs (n + 1 + xN e + 1 + ytN y + 1) (ytB S z (n + 1 + xN e + 1 + ytN y + 1))) ∧ SgB bs (n + 1 + xN e + 1 + ytN y + 1 + ytN z) (ytB S rest (n + 1 + xN e + 1 + ytN y + 1 + ytN z)) := by
  have h1 := h.left
  have h2 := h.right (m := n + 1 + xN e) (by simp [xB_len]; omega)
  have h3 := h2.left
  have h4 := h2.right (m := n + 1 + xN e + 1 + ytN y) (by simp [yB_len]; omega)
  have h5 := h4.left
  have h6 := h4.right (m := n + 1 + xN e + 1 + ytN y + 1 + ytN z) (by simp [yB_len]; omega)
  exact ⟨⟨h1.head, h1.tail⟩, ⟨h3.head, h3.tail⟩, ⟨h5.head, h5.tail⟩, h6⟩
theorem yIn_at {w : World} {bs : Bs} : ∀ {T : YR} {x : Addr} {i n : Nat}, YIn w T x i → SgB bs n (ytB w.heap.size T n) → ∀ (j : Nat) c, (ytC w.heap.size T n)[j]? = some c → c.flat = true ∧ ∃ v, w.cell? (x.add (i * 8 + j)) = some v ∧ VR (rho0 w.heap.size bs) c v
  | .nil, _, _, _, _, _, j, c, hc => by simp [ytC] at hc
  | .cons k v b op m ae le ce e ay ly cy y az lz cz z rest, x, i, n, h, hs, j, c, hc => by
    obtain ⟨⟨h0, h1, h2, h3, h4, h5, h6, h7⟩, he, hy, hz, hr⟩ := h
    obtain ⟨⟨s0, s1⟩, ⟨s2, s3⟩, ⟨s4, s5⟩, s6⟩ := yB_parts hs
    match j, hc with
    | 0, hc => simp [ytC] at hc; subst hc; exact ⟨rfl, _, h0, .i _ _⟩
    | 1, hc => simp [ytC] at hc; subst hc; exact ⟨rfl, _, h1, .i _ _⟩
    | 2, hc => simp [ytC] at hc; subst hc; exact ⟨rfl, _, h2, .i _ _⟩
    | 3, hc => simp [ytC] at hc; subst hc; exact ⟨rfl, _, h3, .i _ _⟩
    | 4, hc => simp [ytC] at hc; subst hc; exact ⟨rfl, _, h4, .i _ _⟩
    | 5, hc =>
      simp [ytC] at hc; subst hc
      exact ⟨rowV_flat, _, h5, rec_v (isX_rec he s1) (by omega) s0⟩
    | 6, hc =>
      simp [ytC] at hc; subst hc
      refine ⟨rowV_flat, _, h6, ?_⟩
      have hq : IsRec w (rho0 w.heap.size bs) ay ly cy 8 (ytC w.heap.size y (n + 1 + xN e + 1)) := by
        rcases hy with ⟨rfl, rfl, rfl, rfl⟩ | ⟨u, rfl, q1, q2, q3, q4⟩
        · exact .inl ⟨rfl, rfl, rfl, rfl⟩
        · refine .inr ⟨u, rfl, q1, q2, by rw [ytC_len, q3], fun j' c' hc' => ?_⟩
          have := yIn_at q4 s3 j' c' hc'
          simpa using this
      exact rec_v hq (by omega) s2
    | 7, hc =>
      simp [ytC] at hc; subst hc
      refine ⟨rowV_flat, _, h7, ?_⟩
      have hq : IsRec w (rho0 w.heap.size bs) az lz cz 8 (ytC w.heap.size z (n + 1 + xN e + 1 + ytN y + 1)) := by
        rcases hz with ⟨rfl, rfl, rfl, rfl⟩ | ⟨u, rfl, q1, q2, q3, q4⟩
        · exact .inl ⟨rfl, rfl, rfl, rfl⟩
        · refine .inr ⟨u, rfl, q1, q2, by rw [ytC_len, q3], fun j' c' hc' => ?_⟩
          have := yIn_at q4 s5 j' c' hc'
          simpa using this
      exact rec_v hq (by omega) s4
    | j + 8, hc =>
      have := yIn_at hr s6 j c (by simpa [ytC] using hc)
      rwa [show (i + 1) * 8 + j = i * 8 + (j + 8) by omega] at this
theorem isY_rec {w : World} {bs : Bs} {a len cap} {T : YR} {n : Nat} (h : IsY w a len cap T) (hs : SgB bs n (ytB w.heap.size T n)) : IsRec w (rho0 w.heap.size bs) a len cap 8 (ytC w.heap.size T n) := by
  rcases h with ⟨rfl, rfl, rfl, rfl⟩ | ⟨y, rfl, q1, q2, q3, q4⟩
  · exact .inl ⟨rfl, rfl, rfl, rfl⟩
  · refine .inr ⟨y, rfl, q1, q2, by rw [ytC_len, q3], fun j' c' hc' => ?_⟩
    have := yIn_at q4 hs j' c' hc'
    simpa using this
theorem yB_lies {w : World} {bs : Bs} : ∀ {T : YR} {x : Addr} {i n : Nat}, YIn w T x i → SgB bs n (ytB w.heap.size T n) → ∀ r ∈ ytB w.heap.size T n, LieR w bs r
  | .nil, _, _, _, _, _, r, hr => by simp [ytB] at hr
  | .cons k v b op m ae le ce e ay ly cy y az lz cz z rest, x, i, n, h, hs, r, hr => by
    obtain ⟨_, he, hy, hz, hrest⟩ := h
    obtain ⟨⟨s0, s1⟩, ⟨s2, s3⟩, ⟨s4, s5⟩, s6⟩ := yB_parts hs
    simp only [ytB, List.mem_cons, List.mem_append] at hr
    rcases hr with (rfl | hr) | (rfl | hr) | (rfl | hr) | hr
    · exact rec_lies (isX_rec he s1)
    · exact isX_lies he s1 r hr
    · exact rec_lies (isY_rec hy s3)
    · rcases hy with ⟨rfl, rfl, rfl, rfl⟩ | ⟨u, rfl, q1, q2, q3, q4⟩
      · simp [ytB] at hr
      · exact yB_lies q4 s3 r hr
    · exact rec_lies (isY_rec hz s5)
    · rcases hz with ⟨rfl, rfl, rfl, rfl⟩ | ⟨u, rfl, q1, q2, q3, q4⟩
      · simp [ytB] at hr
      · exact yB_lies q4 s5 r hr
    · exact yB_lies hrest s6 r hr
theorem isY_lies {w : World} {bs : Bs} {a len cap} {T : YR} {n : Nat} (h : IsY w a len cap T) (hs : SgB bs n (ytB w.heap.size T n)) : ∀ r ∈ ytB w.heap.size T n, LieR w bs r := by
  rcases h with ⟨rfl, rfl, rfl, rfl⟩ | ⟨y, rfl, q1, q2, q3, q4⟩
  · simp [ytB]
  · exact yB_lies q4 hs
def yT : YR → Nat → Sts
  | .nil, _ => .nil
  | .cons _ _ _ _ _ _ _ _ _ _ _ _ _ _ _ _ _ _, 0 => .nil
  | .cons k v b op m _ le _ e _ ly _ y _ lz _ z rest, q + 1 => .cons k v b ⟨op, m, xT e le⟩ (yT y ly) (yT z lz) (yT rest q)
theorem yT_len : ∀ {T : YR} {k : Nat}, k ≤ T.n → (yT T k).list.length = k
  | .nil, k, h => by simp [YR.n] at h; subst h; rfl
  | .cons _ _ _ _ _ _ _ _ _ _ _ _ _ _ _ _ _ _, 0, _ => rfl
  | .cons _ _ _ _ _ _ _ _ _ _ _ _ _ _ _ _ _ rest, k + 1, h => by simp only [YR.n] at h; simp only [yT, Sts.list, List.length_cons, yT_len (T := rest) (k := k) (by omega)]
theorem yIn_arg {w : World} {bs : Bs} : ∀ {T : YR} {x : Addr} {i n q : Nat}, YIn w T x i → SgB bs n (ytB w.heap.size T n) → ASF (heap0 w.heap.size bs) (yT T q) ((ytC w.heap.size T n).take (q * 8))
  | .nil, _, _, _, _, _, _ => by simp [ytC, yT]; rfl
  | .cons _ _ _ _ _ _ _ _ _ _ _ _ _ _ _ _ _ _, _, _, _, 0, _, _ => by simp [yT]; rfl
  | .cons k v b op m ae le ce e ay ly cy y az lz cz z rest, x, i, n, q + 1, h, hs => by
    obtain ⟨_, he, hy, hz, hrest⟩ := h
    obtain ⟨⟨s0, s1⟩, ⟨s2, s3⟩, ⟨s4, s5⟩, s6⟩ := yB_parts hs
    refine ⟨rowV (w.heap.size + n) ae le ce, rowV (w.heap.size + (n + 1 + xN e)) ay ly cy, rowV (w.heap.size + (n + 1 + xN e + 1 + ytN y)) az lz cz, (ytC w.heap.size rest (n + 1 + xN e + 1 + ytN y + 1 + ytN z)).take (q * 8), by simp [ytC, Nat.add_mul], isX_arg he s1 s0, ?_, ?_, yIn_arg hrest s6⟩
    · refine as_of (isY_rec hy s3) s2 ?_ ?_
      · rcases hy with ⟨rfl, rfl, rfl, rfl⟩ | ⟨u, rfl, q1, q2, q3, q4⟩
        · rfl
        · exact yT_len (by omega)
      · rcases hy with ⟨rfl, rfl, rfl, rfl⟩ | ⟨u, rfl, q1, q2, q3, q4⟩
        · simp [ytC, yT]; rfl
        · exact yIn_arg q4 s3
    · refine as_of (isY_rec hz s5) s4 ?_ ?_
      · rcases hz with ⟨rfl, rfl, rfl, rfl⟩ | ⟨u, rfl, q1, q2, q3, q4⟩
        · rfl
        · exact yT_len (by omega)
      · rcases hz with ⟨rfl, rfl, rfl, rfl⟩ | ⟨u, rfl, q1, q2, q3, q4⟩
        · simp [ytC, yT]; rfl
        · exact yIn_arg q4 s5
theorem isY_arg {w : World} {bs : Bs} {a len cap} {T : YR} {n j : Nat} (h : IsY w a len cap T) (hs : SgB bs n (ytB w.heap.size T n)) (hj : bs[j]? = some (recB a (ytC w.heap.size T n))) : ATs (heap0 w.heap.size bs) (rowV (w.heap.size + j) a len cap) (yT T len) := by
  refine as_of (isY_rec h hs) hj ?_ ?_
  · rcases h with ⟨rfl, rfl, rfl, rfl⟩ | ⟨y, rfl, q1, q2, q3, q4⟩
    · rfl
    · exact yT_len (by omega)
  · rcases h with ⟨rfl, rfl, rfl, rfl⟩ | ⟨y, rfl, q1, q2, q3, q4⟩
    · simp [ytC, yT]; rfl
    · exact yIn_arg q4 hs
theorem exact_task_lift {P : Program} {C : FuncId → Option AFn} {f : FuncId} (hC : Fits P 0 C) (hmix : P.follows .mixedOrders = true) {w : World} {a1 len1 cap1 zs} (hr : IsRow .i64 w a1 len1 cap1 zs) {a len cap} {T : YR} (hy : IsY w a len cap T) {a2 len2 cap2} {R : List BRow} (hb : IsBs w a2 len2 cap2 R)
    (K : ∀ H vv vr vb vars g bs, ArgI H vv vars → ATs H vr g → ArgB H vb bs → CallK C f [.agg [vv, vr], vb] H fun v _ => v = .b true) :
    Calls P f #[.agg #[.slice a1 len1 cap1, .slice a len cap], .slice a2 len2 cap2] w fun e w' => e = .returned (.bool true) ∧ Below w.heap.size w w' := by
  obtain ⟨bs, hbs⟩ : ∃ bs : Bs, bs = [recB a1 (Ints zs), recB a (ytC w.heap.size T 3), recB a2 (boxCells (w.heap.size + (3 + ytN T)) R)] ++ (ytB w.heap.size T 3 ++ itemsB R) := ⟨_, rfl⟩
  have j0 : bs[0]? = some (recB a1 (Ints zs)) := by rw [hbs]; rfl
  have j1 : bs[1]? = some (recB a (ytC w.heap.size T 3)) := by rw [hbs]; rfl
  have j2 : bs[2]? = some (recB a2 (boxCells (w.heap.size + (3 + ytN T)) R)) := by rw [hbs]; rfl
  have sg : SgB bs 3 (ytB w.heap.size T 3) := fun i r h => by
    rw [hbs, List.getElem?_append_right (by simp), List.getElem?_append_left (by have := (List.getElem?_eq_some_iff.1 h).1; simp; omega)]
    simpa using h
  have hit : ∀ (i : Nat) r, R[i]? = some r → bs[3 + ytN T + i]? = some (recB r.a (Ints r.zs)) := fun i r h => by
    rw [hbs, List.getElem?_append_right (by simp; omega), List.getElem?_append_right (by simp [yB_len]; omega), itemsB, List.getElem?_map]
    simp only [List.length_cons, List.length_nil, yB_len]
    rw [show 3 + ytN T + i - (0 + 1 + 1 + 1) - ytN T = i by omega, h]; rfl
  have hir : ∀ r ∈ R, IsRow .i64 w r.a r.len r.cap r.zs := fun r hm => by
    obtain ⟨i, hi, e⟩ := List.getElem_of_mem hm
    rcases hb with ⟨rfl, rfl, rfl, rfl⟩ | ⟨x, rfl, h1, h2, h3, h4⟩
    · simp at hm
    · exact (h4 i r (by rw [List.getElem?_eq_getElem hi, e])).2.2
  have hv : VR (rho0 w.heap.size bs) (.agg [rowV (w.heap.size + 0) a1 len1 cap1, rowV (w.heap.size + 1) a len cap]) (.agg #[.slice a1 len1 cap1, .slice a len cap]) := by
    have q := VRs.cons (rec_v (row_rec (ρ := rho0 w.heap.size bs) hr) (by omega) j0) (VRs.cons (rec_v (isY_rec hy sg) (by omega) j1) (VRs.nil _))
    exact .agg (by simp only [List.all_cons, List.all_nil, rowV_flat]; rfl) (by simp) q.2
  refine lift (bs := bs) hC hmix (Nat.zero_le _) (fun r hm => ?_) (VRs.cons hv (VRs.cons (rec_v (isBs_rec hb hit) (by omega) j2) (VRs.nil _))) (K _ _ _ _ _ _ _ (row_argI hr j0) (isY_arg hy sg j1) (isBs_arg hb hit j2))
  rw [hbs] at hm
  rcases List.mem_append.1 hm with hm | hm
  · simp only [List.mem_cons, List.not_mem_nil, or_false] at hm
    rcases hm with rfl | rfl | rfl
    · exact rec_lies (row_rec hr)
    · exact rec_lies (isY_rec hy sg)
    · exact rec_lies (isBs_rec hb hit)
  rcases List.mem_append.1 hm with hm | hm
  · exact isY_lies hy sg r hm
  · obtain ⟨r', hr', rfl⟩ := List.mem_map.1 hm
    exact rec_lies (row_rec (hir r' hr'))
end Go.Proofs.YtcibjklpaljadaaGreat.AM
namespace Go.Proofs.YtcibjklpaljadaaGreat.AM
set_option linter.unusedSimpArgs false
set_option linter.unusedVariables false
set_option maxRecDepth 100000
open Go Go.RowKit Go.ChangeShapes Go.WideShapes Go.ChangeAt Go.Joins Go.Deep
section
variable {D0 : Type} {enc : TypeId × Value → D0} {P : Program} {w : World} {base : Nat} {held : Bool}
theorem open_sliceF {t e : TypeId} {fuel : Nat} {u : Value} {x : DataW D0 × List MemPlace} (ht : P.underlying t = some (.slice e)) (h : DataW.trod enc P w base (fun _ => true) held fuel t [u] = some x) :
    u = .slice none 0 0 ∨ ∃ a len cap n, fuel = n + 1 ∧ u = .slice (some a) len cap ∧ len ≤ cap ∧ cap ≤ maxLen ∧ ∀ i, i < cap → ∃ cs' y, w.cells? base (a.add (i * P.cellsOf e)) (P.cellsOf e) = some cs' ∧ DataW.trod enc P w base (fun _ => true) held n e cs' = some y := by
  rcases DataW.trod_slice ht h with ⟨hcs, _⟩ | ⟨a, len, cap, elems, rest, n, hf, hcs, _, _, hl, hm, hlen, hel, hsp, _⟩
  · simp only [List.cons.injEq, and_true] at hcs
    exact .inl hcs
  · simp only [List.cons.injEq, and_true] at hcs
    obtain ⟨hr, hrs⟩ := hsp rfl
    refine .inr ⟨a, len, cap, n, hf, hcs, hl, hm, fun i hi => ?_⟩
    by_cases hil : i < len
    · have := hel i hil
      rw [List.getElem?_eq_getElem (by omega)] at this
      obtain ⟨cs', g1, g2⟩ := Option.bind_eq_some_iff.1 this
      exact ⟨cs', _, g1, g2⟩
    · have := hrs (i - len) (by omega)
      rw [List.getElem?_eq_getElem (by omega), show len + (i - len) = i by omega] at this
      obtain ⟨cs', g1, g2⟩ := Option.bind_eq_some_iff.1 this
      exact ⟨cs', _, g1, g2⟩
structure XRow where
  op : Int
  n : Int
  a : Option Addr
  len : Nat
  cap : Nat
  sub : XR
instance : Inhabited XRow := ⟨⟨0, 0, none, 0, 0, .nil⟩⟩
def XR.of : List XRow → XR
  | [] => .nil
  | r :: l => .cons r.op r.n r.a r.len r.cap r.sub (XR.of l)
theorem XR.of_n : ∀ {l : List XRow}, (XR.of l).n = l.length
  | [] => rfl
  | r :: l => by simp [XR.of, XR.n, XR.of_n (l := l)]
def XAt (w : World) (x : Addr) (i : Nat) (r : XRow) : Prop := w.cell? (x.add (i * 3)) = some (.int .i64 r.op) ∧ w.cell? (x.add (i * 3 + 1)) = some (.int .i64 r.n) ∧ w.cell? (x.add (i * 3 + 2)) = some (.slice r.a r.len r.cap) ∧ IsX w r.a r.len r.cap r.sub
theorem xIn_of {x : Addr} : ∀ {l : List XRow} {i : Nat}, (∀ j r, l[j]? = some r → XAt w x (i + j) r) → XIn w (XR.of l) x i
  | [], _, _ => trivial
  | r :: l, i, h => by
    obtain ⟨h0, h1, h2, h3⟩ := h 0 r rfl
    exact ⟨h0, h1, h2, h3, xIn_of fun j r' hj => by
      have := h (j + 1) r' (by simpa using hj)
      rwa [show i + (j + 1) = i + 1 + j by omega] at this⟩
theorem open_exprs {tx te ti : TypeId} {f0 f1 f2 : Field} (ht : P.underlying tx = some (.slice te)) (he : P.underlying te = some (.struct #[f0, f1, f2])) (hi : P.underlying ti = some (.int .i64))
    (ce : P.cellsOf te = 3) (ci : P.cellsOf ti = 1) (cx : P.cellsOf tx = 1) (t0 : f0.type = ti ∧ f0.offset = 0) (t1 : f1.type = ti ∧ f1.offset = 1) (t2 : f2.type = tx ∧ f2.offset = 2) :
    ∀ (fuel : Nat) {u : Value} {x : DataW D0 × List MemPlace}, DataW.trod enc P w base (fun _ => true) held fuel tx [u] = some x → ∃ a len cap T, u = .slice a len cap ∧ IsX w a len cap T := by
  intro fuel
  induction fuel using Nat.strongRecOn with
  | ind fuel ih =>
  intro u x h
  rcases open_sliceF ht h with rfl | ⟨a, len, cap, n, hf, rfl, hl, hm, hx⟩
  · exact ⟨none, 0, 0, .nil, rfl, .inl ⟨rfl, rfl, rfl, rfl⟩⟩
  · have each : ∀ i, i < cap → ∃ r : XRow, XAt w a i r := by
      intro i hi'
      obtain ⟨cs', y, h1, h2⟩ := hx i hi'
      rw [ce] at h1
      obtain ⟨_, hlen, hcell⟩ := World.cells?_some h1
      obtain ⟨xs, k, hk, _, _, hxl, hg⟩ := DataW.trod_struct he h2
      match xs, hxl, cs', hlen with
      | [y0, y1, y2], _, [v0, v1, v2], _ =>
        have g0 := hg 0 f0 rfl
        have g1 := hg 1 f1 rfl
        have g2 := hg 2 f2 rfl
        simp [t0.1, t0.2, ci] at g0
        simp [t1.1, t1.2, ci] at g1
        simp [t2.1, t2.2, cx] at g2
        obtain ⟨z0, e0, _⟩ := DataW.trod_int hi g0
        obtain ⟨z1, e1, _⟩ := DataW.trod_int hi g1
        obtain ⟨a', l', c', T', e2, hT⟩ := ih k (by omega) g2
        simp only [List.cons.injEq, and_true] at e0 e1
        have c0 := hcell 0 (by omega)
        have c1 := hcell 1 (by omega)
        have c2 := hcell 2 (by omega)
        rw [add_add] at c0 c1 c2
        simp [e0] at c0
        simp [e1] at c1
        simp [e2] at c2
        exact ⟨⟨z0, z1, a', l', c', T'⟩, c0, c1, c2, hT⟩
    obtain ⟨q, hq⟩ := choose_lt each
    refine ⟨some a, len, cap, XR.of ((List.range cap).map q), rfl, .inr ⟨a, rfl, hl, hm, by rw [XR.of_n]; simp, xIn_of fun j r hj => ?_⟩⟩
    have hlt := (List.getElem?_eq_some_iff.1 hj).1
    simp at hlt
    rw [List.getElem?_map, List.getElem?_range hlt] at hj
    simp at hj
    subst hj
    rw [Nat.zero_add]
    exact hq j hlt
structure YRow where
  k : Int
  v : Int
  b : Int
  op : Int
  n : Int
  ae : Option Addr
  le : Nat
  ce : Nat
  e : XR
  ay : Option Addr
  ly : Nat
  cy : Nat
  y : YR
  az : Option Addr
  lz : Nat
  cz : Nat
  z : YR
instance : Inhabited YRow := ⟨⟨0, 0, 0, 0, 0, none, 0, 0, .nil, none, 0, 0, .nil, none, 0, 0, .nil⟩⟩
def YR.of : List YRow → YR
  | [] => .nil
  | r :: l => .cons r.k r.v r.b r.op r.n r.ae r.le r.ce r.e r.ay r.ly r.cy r.y r.az r.lz r.cz r.z (YR.of l)
theorem YR.of_n : ∀ {l : List YRow}, (YR.of l).n = l.length
  | [] => rfl
  | r :: l => by simp [YR.of, YR.n, YR.of_n (l := l)]
def YAt (w : World) (x : Addr) (i : Nat) (r : YRow) : Prop :=
  (w.cell? (x.add (i * 8)) = some (.int .i64 r.k) ∧ w.cell? (x.add (i * 8 + 1)) = some (.int .i64 r.v) ∧ w.cell? (x.add (i * 8 + 2)) = some (.int .i64 r.b) ∧ w.cell? (x.add (i * 8 + 3)) = some (.int .i64 r.op) ∧ w.cell? (x.add (i * 8 + 4)) = some (.int .i64 r.n) ∧
    w.cell? (x.add (i * 8 + 5)) = some (.slice r.ae r.le r.ce) ∧ w.cell? (x.add (i * 8 + 6)) = some (.slice r.ay r.ly r.cy) ∧ w.cell? (x.add (i * 8 + 7)) = some (.slice r.az r.lz r.cz)) ∧ IsX w r.ae r.le r.ce r.e ∧ IsY w r.ay r.ly r.cy r.y ∧ IsY w r.az r.lz r.cz r.z
theorem yIn_of {x : Addr} : ∀ {l : List YRow} {i : Nat}, (∀ j r, l[j]? = some r → YAt w x (i + j) r) → YIn w (YR.of l) x i
  | [], _, _ => trivial
  | r :: l, i, h => by
    obtain ⟨h0, h1, h2, h3⟩ := h 0 r rfl
    exact ⟨h0, h1, h2, h3, yIn_of fun j r' hj => by
      have := h (j + 1) r' (by simpa using hj)
      rwa [show i + (j + 1) = i + 1 + j by omega] at this⟩
theorem open_stmts {ty ts tx te ti : TypeId} {f0 f1 f2 g0 g1 g2 g3 g4 g5 : Field} (hy : P.underlying ty = some (.slice ts)) (hs : P.underlying ts = some (.struct #[g0, g1, g2, g3, g4, g5])) (ht : P.underlying tx = some (.slice te)) (he : P.underlying te = some (.struct #[f0, f1, f2])) (hi : P.underlying ti = some (.int .i64))
    (cs : P.cellsOf ts = 8) (cy : P.cellsOf ty = 1) (ce : P.cellsOf te = 3) (ci : P.cellsOf ti = 1) (cx : P.cellsOf tx = 1) (t0 : f0.type = ti ∧ f0.offset = 0) (t1 : f1.type = ti ∧ f1.offset = 1) (t2 : f2.type = tx ∧ f2.offset = 2)
    (u0 : g0.type = ti ∧ g0.offset = 0) (u1 : g1.type = ti ∧ g1.offset = 1) (u2 : g2.type = ti ∧ g2.offset = 2) (u3 : g3.type = te ∧ g3.offset = 3) (u4 : g4.type = ty ∧ g4.offset = 6) (u5 : g5.type = ty ∧ g5.offset = 7) :
    ∀ (fuel : Nat) {u : Value} {x : DataW D0 × List MemPlace}, DataW.trod enc P w base (fun _ => true) held fuel ty [u] = some x → ∃ a len cap T, u = .slice a len cap ∧ IsY w a len cap T := by
  intro fuel
  induction fuel using Nat.strongRecOn with
  | ind fuel ih =>
  intro u x h
  rcases open_sliceF hy h with rfl | ⟨a, len, cap, n, hf, rfl, hl, hm, hx⟩
  · exact ⟨none, 0, 0, .nil, rfl, .inl ⟨rfl, rfl, rfl, rfl⟩⟩
  · have each : ∀ i, i < cap → ∃ r : YRow, YAt w a i r := by
      intro i hi'
      obtain ⟨cs', y, h1, h2⟩ := hx i hi'
      rw [cs] at h1
      obtain ⟨_, hlen, hcell⟩ := World.cells?_some h1
      obtain ⟨xs, k, hk, _, _, hxl, hg⟩ := DataW.trod_struct hs h2
      match xs, hxl, cs', hlen with
      | [y0, y1, y2, y3, y4, y5], _, [v0, v1, v2, v3, v4, v5, v6, v7], _ =>
        have q0 := hg 0 g0 rfl
        have q1 := hg 1 g1 rfl
        have q2 := hg 2 g2 rfl
        have q3 := hg 3 g3 rfl
        have q4 := hg 4 g4 rfl
        have q5 := hg 5 g5 rfl
        simp [u0.1, u0.2, ci] at q0
        simp [u1.1, u1.2, ci] at q1
        simp [u2.1, u2.2, ci] at q2
        simp [u3.1, u3.2, ce] at q3
        simp [u4.1, u4.2, cy] at q4
        simp [u5.1, u5.2, cy] at q5
        obtain ⟨z0, e0, _⟩ := DataW.trod_int hi q0
        obtain ⟨z1, e1, _⟩ := DataW.trod_int hi q1
        obtain ⟨z2, e2, _⟩ := DataW.trod_int hi q2
        obtain ⟨zs, k', hk', _, _, hzl, hz⟩ := DataW.trod_struct he q3
        obtain ⟨a6, l6, c6, T6, e6, h6⟩ := ih k (by omega) q4
        obtain ⟨a7, l7, c7, T7, e7, h7⟩ := ih k (by omega) q5
        match zs, hzl with
        | [w0, w1, w2], _ =>
          have r0 := hz 0 f0 rfl
          have r1 := hz 1 f1 rfl
          have r2 := hz 2 f2 rfl
          simp [t0.1, t0.2, ci] at r0
          simp [t1.1, t1.2, ci] at r1
          simp [t2.1, t2.2, cx] at r2
          obtain ⟨z3, e3, _⟩ := DataW.trod_int hi r0
          obtain ⟨z4, e4, _⟩ := DataW.trod_int hi r1
          obtain ⟨a5, l5, c5, T5, e5, h5⟩ := open_exprs ht he hi ce ci cx t0 t1 t2 k' r2
          simp only [List.cons.injEq, and_true] at e0 e1 e2 e3 e4
          have c0 := hcell 0 (by omega)
          have c1 := hcell 1 (by omega)
          have c2 := hcell 2 (by omega)
          have c3 := hcell 3 (by omega)
          have c4 := hcell 4 (by omega)
          have d5 := hcell 5 (by omega)
          have d6 := hcell 6 (by omega)
          have d7 := hcell 7 (by omega)
          rw [add_add] at c0 c1 c2 c3 c4 d5 d6 d7
          simp [e0] at c0
          simp [e1] at c1
          simp [e2] at c2
          simp [e3] at c3
          simp [e4] at c4
          simp [e5] at d5
          simp [e6] at d6
          simp [e7] at d7
          exact ⟨⟨z0, z1, z2, z3, z4, a5, l5, c5, T5, a6, l6, c6, T6, a7, l7, c7, T7⟩, ⟨c0, c1, c2, c3, c4, d5, d6, d7⟩, h5, h6, h7⟩
    obtain ⟨q, hq⟩ := choose_lt each
    refine ⟨some a, len, cap, YR.of ((List.range cap).map q), rfl, .inr ⟨a, rfl, hl, hm, by rw [YR.of_n]; simp, yIn_of fun j r hj => ?_⟩⟩
    have hlt := (List.getElem?_eq_some_iff.1 hj).1
    simp at hlt
    rw [List.getElem?_map, List.getElem?_range hlt] at hj
    simp at hj
    subst hj
    rw [Nat.zero_add]
    exact hq j hlt
end
end Go.Proofs.YtcibjklpaljadaaGreat.AM
