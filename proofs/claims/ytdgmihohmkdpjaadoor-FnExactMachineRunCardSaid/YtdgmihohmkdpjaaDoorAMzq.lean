/-
  From the abstract machine to a law's call, where package-level variables are read: they are read-only blocks too. No condition.
-/
import Derived.Test.YtdgmihohmkdpjaaDoorAMzo
import Derived.OpenShut
import Derived.OpenVars
import Derived.Lib.SmallJoins
namespace Go.Proofs.YtdgmihohmkdpjaaDoor.AM
set_option linter.unusedSimpArgs false
set_option linter.unusedVariables false
open Go Go.RowKit

/-- What the variables hold, by their numbers. -/
abbrev Gl := Nat → List AV
def rhoG (gl : Gl) (n : Nat) (bs : Bs) : Rho := fun b => if b < n then some (b, 0, (gl b).length) else (bs[b - n]?).bind fun r => if r.2.2.length = 0 then none else some (r.1, r.2.1, r.2.2.length)
def heapG (gl : Gl) (n : Nat) (bs : Bs) : AH := ⟨n + bs.length, fun b => if b < n then (if gl b = [] then none else some ⟨gl b, false⟩) else (bs[b - n]?).map fun r => ⟨r.2.2, false⟩⟩
def LiesG (gl : Gl) (w : World) (bs : Bs) : Prop := ∀ r ∈ bs, ∀ (i : Nat) a, r.2.2[i]? = some a → a.flat = true ∧ ∃ v, w.cell? ⟨r.1, r.2.1 + i, none⟩ = some v ∧ VR (rhoG gl w.heap.size bs) a v
/-- The variables hold what is told; these cells hold no address. -/
def Vars (gl : Gl) (w : World) : Prop := ∀ g, g < w.heap.size → ∀ (i : Nat) a, (gl g)[i]? = some a → a.flat = true ∧ ∃ v, w.cell? ⟨g, i, none⟩ = some v ∧ ∀ ρ, VR ρ a v

theorem heapG_wr {gl : Gl} {n : Nat} {bs : Bs} {b : Nat} {k : Blk} (h : (heapG gl n bs).bk b = some k) : k.wr = false := by
  simp only [heapG] at h
  split at h
  · split at h
    · cases h
    · cases h; rfl
  · cases hb : bs[b - n]? with
    | none => rw [hb] at h; cases h
    | some r => rw [hb] at h; cases h; rfl
theorem rhoG_some {gl : Gl} {n : Nat} {bs : Bs} {b B o x : Nat} (h : rhoG gl n bs b = some (B, o, x)) : (b < n ∧ b = B ∧ o = 0 ∧ x = (gl b).length) ∨ (¬ b < n ∧ ∃ cs, bs[b - n]? = some (B, o, cs) ∧ cs.length = x ∧ cs.length ≠ 0) := by
  simp only [rhoG] at h
  split at h
  · simp only [Option.some.injEq, Prod.mk.injEq] at h
    exact .inl ⟨‹_›, h.1, h.2.1.symm, h.2.2.symm⟩
  · refine .inr ⟨‹_›, ?_⟩
    cases hq : bs[b - n]? with
    | none => rw [hq] at h; cases h
    | some r =>
      rw [hq] at h
      simp only [Option.bind_some] at h
      split at h
      · cases h
      · simp only [Option.some.injEq, Prod.mk.injEq] at h
        obtain ⟨rfl, rfl, rfl⟩ := h
        exact ⟨_, rfl, rfl, ‹_›⟩
theorem relHG {gl : Gl} {NG : Nat} {w : World} {bs : Bs} (hNG : NG ≤ w.heap.size) (hv : Vars gl w) (h : LiesG gl w bs) : RelH NG (rhoG gl w.heap.size bs) (heapG gl w.heap.size bs) w := by
  refine ⟨fun b hb => ?_, fun g hg => ?_, fun b B o x hb => ?_, fun b B o x k hb hk => ?_, fun b B o x k hb hk hw => ?_, fun b b' B o x o' x' k k' _ _ _ hk _ => heapG_wr hk⟩
  · simp only [heapG] at hb ⊢
    rw [if_neg (by omega), List.getElem?_eq_none (by omega)]; rfl
  · exact ⟨(gl g).length, by simp only [rhoG]; rw [if_pos (by omega)]⟩
  · rcases rhoG_some hb with ⟨h1, rfl, _, _⟩ | ⟨_, cs, h2, _, h4⟩
    · exact h1
    · cases cs with
      | nil => exact absurd rfl h4
      | cons a cs =>
        obtain ⟨_, v, hv, _⟩ := h _ (List.mem_of_getElem? h2) 0 a rfl
        exact cell_lt hv
  · simp only [heapG] at hk
    rcases rhoG_some hb with ⟨h1, rfl, rfl, rfl⟩ | ⟨h1, cs, h2, h3, h4⟩
    · rw [if_pos h1] at hk
      split at hk
      · cases hk
      · cases hk
        refine ⟨Nat.le_refl _, fun i a ha => ?_⟩
        obtain ⟨q1, v, q2, q3⟩ := hv b h1 i a ha
        exact ⟨q1, v, by rw [Nat.zero_add]; exact q2, q3 _⟩
    · rw [if_neg h1, h2] at hk
      cases hk
      exact ⟨Nat.le_of_eq h3, h _ (List.mem_of_getElem? h2)⟩
  · rw [heapG_wr hk] at hw; cases hw
theorem liftG {P : Program} {NG : Nat} {C : FuncId → Option AFn} {f : FuncId} (hC : Fits P NG C) (hmix : P.follows .mixedOrders = true) {w : World} (hNG : NG ≤ w.heap.size) {gl : Gl} (hv : Vars gl w) {bs : Bs} (h : LiesG gl w bs)
    {args : List AV} {cargs : Array Value} (ha : VRs (rhoG gl w.heap.size bs) args cargs.toList) (K : CallK C f args (heapG gl w.heap.size bs) fun v _ => v = .b true) :
    Calls P f cargs w fun e w' => e = .returned (.bool true) ∧ Below w.heap.size w w' := by
  obtain ⟨v, H', hg, rfl⟩ := K
  have s := sound hC hmix hg (rhoG gl w.heap.size bs) cargs w ha (relHG hNG hv h) (fun b hb _ => by
    simp only [heapG] at hb
    simp only [rhoG]
    rw [if_neg (by omega), List.getElem?_eq_none (by omega)]; rfl)
  refine s.mono ?_
  rintro e w' ⟨ρ', cv, rfl, hadv, _, hv⟩
  cases hv
  exact ⟨rfl, hadv.fr.os, hadv.fr.tape, hadv.fr.output, hadv.fr.size, fun k hk => hadv.fr.heap k hk fun b o x kk _ hb => heapG_wr hb⟩
theorem rowG_lies {gl : Gl} {k w a len cap zs} {bs : Bs} (h : IsRow k w a len cap zs) : ∀ (i : Nat) x, (rowB k a zs).2.2[i]? = some x → x.flat = true ∧ ∃ v, w.cell? ⟨(rowB k a zs).1, (rowB k a zs).2.1 + i, none⟩ = some v ∧ VR (rhoG gl w.heap.size bs) x v := by
  intro i x hx
  simp only [rowB, List.getElem?_map, Option.map_eq_some_iff] at hx
  obtain ⟨n, hn, rfl⟩ := hx
  have hi := (List.getElem?_eq_some_iff.1 hn).1
  have hc : cap ≠ 0 := by
    rcases h with ⟨_, _, rfl, rfl⟩ | ⟨x, rfl, h1, _, h3, h4, _⟩
    · simp at hi
    · omega
  obtain ⟨x, rfl, hs, h1, h3, h4⟩ := row_spot h hc
  refine ⟨rfl, _, h4 i hi, ?_⟩
  have : zs.getD i 0 = n := by simp [List.getD, hn]
  rw [this]
  exact .i _ _
theorem rowG_v {gl : Gl} {k w a len cap zs} {bs : Bs} (h : IsRow k w a len cap zs) {j : Nat} (hj : bs[j]? = some (rowB k a zs)) : VR (rhoG gl w.heap.size bs) (rowV (w.heap.size + j) a len cap) (.slice a len cap) := by
  unfold rowV
  by_cases hc : cap = 0
  · rcases h with ⟨rfl, rfl, rfl, rfl⟩ | ⟨x, rfl, h1, _, h3, h4, _⟩
    · simp only [if_true]; exact .nils
    · subst hc
      have : len = 0 := by omega
      subst this
      simp only [reduceCtorEq, if_false, if_true]
      exact .esl x 0
  · obtain ⟨x, rfl, hs, h1, h3, h4⟩ := row_spot h hc
    simp only [reduceCtorEq, if_false, hc]
    have := @VR.slR (rhoG gl w.heap.size bs) (w.heap.size + j) 0 x.block x.off zs.length len cap (by
      simp only [rhoG]
      rw [if_neg (by omega), Nat.add_sub_cancel_left, hj]
      simp only [rowB, Option.bind_some, List.length_map, Option.map_some, Option.getD_some]
      rw [if_neg (by omega)]) h1
    have e : x = ⟨x.block, x.off + 0, none⟩ := by cases x; cases hs; rfl
    rw [← e] at this
    exact this
theorem rowG_sees {gl : Gl} {k w a len cap zs} {bs : Bs} (h : IsRow k w a len cap zs) {j : Nat} (hj : bs[j]? = some (rowB k a zs)) :
    SlI (heapG gl w.heap.size bs) k (rowV (w.heap.size + j) a len cap) (zs.take len) := by
  unfold rowV
  by_cases hc : cap = 0
  · rcases h with ⟨rfl, rfl, rfl, rfl⟩ | ⟨x, rfl, h1, _, h3, h4, _⟩
    · simp only [if_true]; exact .inl ⟨rfl, rfl⟩
    · subst hc
      have : len = 0 := by omega
      subst this
      simp only [reduceCtorEq, if_false, if_true]
      exact .inr (.inl ⟨rfl, rfl⟩)
  · obtain ⟨x, rfl, hs, h1, h3, h4⟩ := row_spot h hc
    simp only [reduceCtorEq, if_false, hc]
    refine .inr (.inr ⟨w.heap.size + j, zs.drop len, ?_, ?_, ?_⟩)
    · have := (List.getElem?_eq_some_iff.1 hj).1
      simp only [heapG]; omega
    · rw [List.length_take, Nat.min_eq_left (by omega)]
    · simp only [heapG]
      rw [if_neg (by omega), Nat.add_sub_cancel_left, hj, List.take_append_drop]
      rfl
theorem rowG_argZ {gl : Gl} {w a len cap zs} {bs : Bs} (h : IsRow .i64 w a len cap zs) {j : Nat} (hj : bs[j]? = some (rowB .i64 a zs)) :
    ArgZ (heapG gl w.heap.size bs) (rowV (w.heap.size + j) a len cap) (zs.take len) := by
  have hmax : zs.length ≤ 9223372036854775807 := by
    rcases h with ⟨_, _, _, rfl⟩ | ⟨x, _, _, hm, hz, _⟩
    · simp
    · simp [maxLen] at hm; omega
  have hlen : (zs.take len).length ≤ 9223372036854775807 := by rw [List.length_take]; omega
  rcases rowG_sees h hj with ⟨e, e'⟩ | ⟨e, e'⟩ | ⟨b, rest, hbn, e, hbk⟩
  · rw [e, e']; exact ⟨rfl, by simp, rfl, fun i x hx => by simp at hx⟩
  · rw [e, e']; exact ⟨rfl, by simp, rfl, fun i x hx => by simp at hx⟩
  · rw [e]
    refine ⟨rfl, hlen, rfl, fun i x hx => ⟨b, 0, rfl, hbn, ?_⟩⟩
    have hi := (List.getElem?_eq_some_iff.1 hx).1
    unfold AH.load
    rw [hbk]
    simp only [Option.bind_some, Nat.zero_add, List.getElem?_map, List.getElem?_append_left hi, hx, Option.map_some]
theorem byte_of {w a len cap zs} (h : IsRow .u8 w a len cap zs) : ∀ n ∈ zs.take len, 0 ≤ n ∧ n < 256 := fun n hn => by
  have := row_wf h n (List.mem_of_mem_take hn)
  simp only [Lit.wf, IntKind.min, IntKind.max, IntKind.signed, IntKind.bits, Bool.and_eq_true, decide_eq_true_eq] at this
  simp at this
  omega

/-! ### The two tables -/
def glT (ns : Nat → ByteArray) : Gl := fun g => if g = 0 then (tabRows ns).flatten else if g = 1 then Ints mops else []
theorem tab_len {ns : Nat → ByteArray} : (tabRows ns).flatten.length = 84 := rfl
theorem glob_start {ns : Nat → ByteArray} {n : Nat} {bs : Bs} (hn : 2 ≤ n) : Glob (heapG (glT ns) n bs) := by
  refine ⟨by simp only [heapG]; omega, ⟨ns, false, ?_⟩, false, ?_⟩
  · simp only [heapG]
    rw [if_pos (by omega)]
    have h : glT ns 0 = (tabRows ns).flatten := rfl
    rw [h, if_neg (by intro e; have := tab_len (ns := ns); rw [e] at this; cases this)]
  · simp only [heapG]
    rw [if_pos (by omega)]
    have h : glT ns 1 = Ints mops := rfl
    rw [h, if_neg (by simp [Ints, mops])]
/-- What the tables' cells are. -/
def TabCells (w : World) : Prop := (∀ j, j < 21 → ∃ s, w.cell? ⟨0, j * 4, none⟩ = some (.string s) ∧ w.cell? ⟨0, j * 4 + 1, none⟩ = some (.int .i64 (opcM ((j : Int) + 1))) ∧ w.cell? ⟨0, j * 4 + 2, none⟩ = some (.int .i64 (threeM ((j : Int) + 1))) ∧ w.cell? ⟨0, j * 4 + 3, none⟩ = some (.int .i64 (sevenM ((j : Int) + 1)))) ∧
  ∀ j n, mops[j]? = some n → w.cell? ⟨1, j, none⟩ = some (.int .i64 n)
theorem flat4 : ∀ {l : List (List AV)}, (∀ x ∈ l, x.length = 4) → ∀ {i : Nat} {a : AV}, l.flatten[i]? = some a → ∃ x, l[i / 4]? = some x ∧ x[i % 4]? = some a
  | [], _, i, a, h => by simp at h
  | y :: l, hs, i, a, h => by
    have hy := hs y (by simp)
    simp only [List.flatten_cons] at h
    by_cases hi : i < 4
    · rw [List.getElem?_append_left (by omega)] at h
      refine ⟨y, ?_, ?_⟩
      · rw [show i / 4 = 0 by omega]; rfl
      · rw [show i % 4 = i by omega]; exact h
    · rw [List.getElem?_append_right (by omega), hy] at h
      obtain ⟨x, h1, h2⟩ := flat4 (l := l) (fun z hz => hs z (by simp [hz])) h
      refine ⟨x, ?_, ?_⟩
      · rw [show i / 4 = (i - 4) / 4 + 1 by omega]; simpa using h1
      · rw [show i % 4 = (i - 4) % 4 by omega]; exact h2
theorem vars_of {w : World} (h : TabCells w) : ∃ ns, Vars (glT ns) w := by
  obtain ⟨h0, h1⟩ := h
  have h0' : ∀ j, ∃ s, j < 21 → w.cell? ⟨0, j * 4, none⟩ = some (.string s) ∧ w.cell? ⟨0, j * 4 + 1, none⟩ = some (.int .i64 (opcM ((j : Int) + 1))) ∧ w.cell? ⟨0, j * 4 + 2, none⟩ = some (.int .i64 (threeM ((j : Int) + 1))) ∧ w.cell? ⟨0, j * 4 + 3, none⟩ = some (.int .i64 (sevenM ((j : Int) + 1))) := fun j => by
    by_cases hj : j < 21
    · obtain ⟨s, hs⟩ := h0 j hj; exact ⟨s, fun _ => hs⟩
    · exact ⟨.empty, fun q => absurd q hj⟩
  obtain ⟨ns, hns⟩ := Classical.axiomOfChoice h0'
  refine ⟨ns, fun g hg i a ha => ?_⟩
  unfold glT at ha
  split at ha
  · rename_i e; subst e
    obtain ⟨x, q1, q2⟩ := flat4 (fun x hx => by simp only [tabRows, List.mem_map] at hx; obtain ⟨j, _, rfl⟩ := hx; rfl) ha
    simp only [tabRows, List.getElem?_map, Option.map_eq_some_iff] at q1
    obtain ⟨j, q1, rfl⟩ := q1
    obtain ⟨hj, rfl⟩ := List.getElem?_eq_some_iff.1 q1
    simp only [List.length_range] at hj
    simp only [List.getElem_range] at q2
    obtain ⟨k0, k1, k2, k3⟩ := hns (i / 4) hj
    have hm : i % 4 = 0 ∨ i % 4 = 1 ∨ i % 4 = 2 ∨ i % 4 = 3 := by omega
    rcases hm with e | e | e | e
    all_goals rw [e] at q2
    all_goals simp only [List.getElem?_cons_zero, List.getElem?_cons_succ, Option.some.injEq] at q2
    all_goals subst q2
    · exact ⟨rfl, _, by rw [show i = i / 4 * 4 by omega, show i / 4 * 4 / 4 = i / 4 by omega]; exact k0, fun ρ => .str _⟩
    · exact ⟨rfl, _, by rw [show i = i / 4 * 4 + 1 by omega, show (i / 4 * 4 + 1) / 4 = i / 4 by omega]; exact k1, fun ρ => .i _ _⟩
    · exact ⟨rfl, _, by rw [show i = i / 4 * 4 + 2 by omega, show (i / 4 * 4 + 2) / 4 = i / 4 by omega]; exact k2, fun ρ => .i _ _⟩
    · exact ⟨rfl, _, by rw [show i = i / 4 * 4 + 3 by omega, show (i / 4 * 4 + 3) / 4 = i / 4 by omega]; exact k3, fun ρ => .i _ _⟩
  · split at ha
    · rename_i e; subst e
      simp only [Ints, List.getElem?_map, Option.map_eq_some_iff] at ha
      obtain ⟨n, hn, rfl⟩ := ha
      exact ⟨rfl, _, h1 i n hn, fun ρ => .i _ _⟩
    · simp at ha
/-! ### The tables' cells, from what they read as -/
section
variable {P : Program} {H : Type} {enc : TypeId × Value → H} {w : World} {base : Nat} {sp : Nat → Bool} {held : Bool} {fuel : Nat} {cs : List Value}
def rowD (nm : Nat → List UInt8) (j : Nat) : DataW H := .agg [.lit (.string (nm j)), .lit (.int .i64 (opcM ((j : Int) + 1))), .lit (.int .i64 (threeM ((j : Int) + 1))), .lit (.int .i64 (sevenM ((j : Int) + 1)))]
theorem one_of {l : List Value} {i : Nat} {v : Value} (h : (l.drop i).take 1 = [v]) : l[i]? = some v := by
  have : ((l.drop i).take 1)[0]? = some v := by rw [h]; rfl
  rw [List.getElem?_take, if_pos (by omega), List.getElem?_drop] at this
  simpa using this
theorem take_drop4 {l : List Value} {i o : Nat} (ho : o < 4) {v : Value} (h : ((l.drop i).take 4)[o]? = some v) : l[i + o]? = some v := by
  rw [List.getElem?_take, if_pos ho, List.getElem?_drop] at h; exact h
theorem tab_of {t e tS tI : TypeId} {f0 f1 f2 f3 : Field} (ht : P.underlying t = some (.array 21 e)) (he : P.underlying e = some (.struct #[f0, f1, f2, f3])) (hS : P.underlying tS = some .string) (hI : P.underlying tI = some (.int .i64))
    (k0 : f0.type = tS ∧ f0.offset = 0) (k1 : f1.type = tI ∧ f1.offset = 1) (k2 : f2.type = tI ∧ f2.offset = 2) (k3 : f3.type = tI ∧ f3.offset = 3) (ce : P.cellsOf e = 4) (cS : P.cellsOf tS = 1) (cI : P.cellsOf tI = 1)
    {nm : Nat → List UInt8} {p : List MemPlace} (h : DataW.trod enc P w base sp held fuel t cs = some (.agg ((List.range 21).map (rowD nm)), p)) {j : Nat} (hj : j < 21) :
    ∃ s, cs[j * 4]? = some (.string s) ∧ cs[j * 4 + 1]? = some (.int .i64 (opcM ((j : Int) + 1))) ∧ cs[j * 4 + 2]? = some (.int .i64 (threeM ((j : Int) + 1))) ∧ cs[j * 4 + 3]? = some (.int .i64 (sevenM ((j : Int) + 1))) := by
  obtain ⟨xs, m, rfl, hx, hl, hn, hel⟩ := DataW.trod_array ht h
  have hd := hel j hj
  rw [ce] at hd
  have hlen : j < xs.length := by omega
  rw [List.getElem?_eq_getElem hlen] at hd
  have hxj : xs[j].1 = rowD nm j := by
    simp only [Prod.mk.injEq, DataW.agg.injEq] at hx
    have : (xs.map (·.1))[j]? = some (rowD nm j) := by rw [← hx.1]; simp [hj]
    simpa [hlen] using this
  obtain ⟨y0, y1, y2, y3, n, hq, _, a0, a1, a2, a3⟩ := Go.Joins.trod_struct4 he hd
  have e4 : xs[j].1 = .agg [y0.1, y1.1, y2.1, y3.1] := by rw [hq]
  rw [hxj] at e4
  unfold rowD at e4
  simp only [DataW.agg.injEq, List.cons.injEq, and_true] at e4
  obtain ⟨b0, b1, b2, b3⟩ := e4
  rw [k0.1, k0.2, cS] at a0
  rw [k1.1, k1.2, cI] at a1
  rw [k2.1, k2.2, cI] at a2
  rw [k3.1, k3.2, cI] at a3
  obtain ⟨s, c0, _, _⟩ := DataW.trod_string hS a0
  obtain ⟨n1, c1, d1, _⟩ := DataW.trod_int hI a1
  obtain ⟨n2, c2, d2, _⟩ := DataW.trod_int hI a2
  obtain ⟨n3, c3, d3, _⟩ := DataW.trod_int hI a3
  rw [d1] at b1; rw [d2] at b2; rw [d3] at b3
  simp only [DataW.lit.injEq, Lit.int.injEq, true_and] at b1 b2 b3
  subst b1 b2 b3
  refine ⟨s, ?_, ?_, ?_, ?_⟩
  · have := take_drop4 (by omega) (one_of c0); simpa using this
  · exact take_drop4 (by omega) (one_of c1)
  · exact take_drop4 (by omega) (one_of c2)
  · exact take_drop4 (by omega) (one_of c3)
theorem ops_of {t tI : TypeId} (ht : P.underlying t = some (.array 11 tI)) (hI : P.underlying tI = some (.int .i64)) (cI : P.cellsOf tI = 1) {p : List MemPlace}
    (h : DataW.trod enc P w base sp held fuel t cs = some (.agg (mops.map fun n => .lit (.int .i64 n)), p)) {j : Nat} {n : Int} (hj : mops[j]? = some n) : cs[j]? = some (.int .i64 n) := by
  obtain ⟨xs, m, rfl, hx, hl, hn, hel⟩ := DataW.trod_array ht h
  have hjl := (List.getElem?_eq_some_iff.1 hj).1
  have hd := hel j hjl
  rw [cI, Nat.mul_one] at hd
  have hlen : j < xs.length := by simp only [mops, List.length_cons, List.length_nil] at hjl; omega
  rw [List.getElem?_eq_getElem hlen] at hd
  have hxj : xs[j].1 = .lit (.int .i64 n) := by
    simp only [Prod.mk.injEq, DataW.agg.injEq] at hx
    have : (xs.map (·.1))[j]? = some (.lit (.int .i64 n)) := by rw [← hx.1, List.getElem?_map, hj]; rfl
    simpa [hlen] using this
  obtain ⟨n1, c1, d1, _⟩ := DataW.trod_int hI hd
  rw [d1] at hxj
  simp only [DataW.lit.injEq, Lit.int.injEq, true_and] at hxj
  subst hxj
  exact one_of c1
end
end Go.Proofs.YtdgmihohmkdpjaaDoor.AM
