/-
  From the abstract machine to a law's call: arguments that lie in memory are read-only blocks. No condition.
-/
import Derived.Test.YtdgmihohmkdpjaaDoorAMm
namespace Go.Proofs.YtdgmihohmkdpjaaDoor.AM
set_option linter.unusedSimpArgs false
set_option linter.unusedVariables false
open Go Go.RowKit

/-- A block of the start: where it lies, and its cells. -/
abbrev Bs := List (Nat × Nat × List AV)
def rho0 (n : Nat) (bs : Bs) : Rho := fun b => if b < n then some (b, 0, 0) else (bs[b - n]?).bind fun r => if r.2.2.length = 0 then none else some (r.1, r.2.1, r.2.2.length)
def heap0 (n : Nat) (bs : Bs) : AH := ⟨n + bs.length, fun b => if b < n then none else (bs[b - n]?).map fun r => ⟨r.2.2, false⟩⟩

/-- What the blocks of the start must be. -/
def Lies (w : World) (bs : Bs) : Prop := ∀ r ∈ bs, ∀ (i : Nat) a, r.2.2[i]? = some a → a.flat = true ∧ ∃ v, w.cell? ⟨r.1, r.2.1 + i, none⟩ = some v ∧ VR (rho0 w.heap.size bs) a v

theorem heap0_wr {n : Nat} {bs : Bs} {b : Nat} {k : Blk} (h : (heap0 n bs).bk b = some k) : k.wr = false := by
  simp only [heap0] at h
  split at h
  · cases h
  · cases hb : bs[b - n]? with
    | none => rw [hb] at h; cases h
    | some r => rw [hb] at h; cases h; rfl

theorem cell_lt {w : World} {x : Addr} {v : Value} (h : w.cell? x = some v) : x.block < w.heap.size := by
  unfold World.cell? at h
  cases hx : w.heap[x.block]? with
  | none => rw [hx] at h; cases h
  | some o => exact (Array.getElem?_eq_some_iff.1 hx).1

theorem rho0_some {n : Nat} {bs : Bs} {b B o x : Nat} (h : rho0 n bs b = some (B, o, x)) : (b < n ∧ b = B ∧ o = 0 ∧ x = 0) ∨ (¬ b < n ∧ ∃ cs, bs[b - n]? = some (B, o, cs) ∧ cs.length = x ∧ cs.length ≠ 0) := by
  simp only [rho0] at h
  split at h
  · simp only [Option.some.injEq, Prod.mk.injEq] at h
    exact .inl ⟨‹_›, h.1, h.2.1.symm, h.2.2.symm⟩
  · refine .inr ⟨‹_›, ?_⟩
    cases hq : bs[b - n]? with
    | none => rw [hq] at h; cases h
    | some r =>
      rw [hq] at h
      simp only [Option.bind_some] at h
      split at h
      · cases h
      · simp only [Option.some.injEq, Prod.mk.injEq] at h
        obtain ⟨rfl, rfl, rfl⟩ := h
        exact ⟨_, rfl, rfl, ‹_›⟩

theorem relH0 {NG : Nat} {w : World} {bs : Bs} (hNG : NG ≤ w.heap.size) (h : Lies w bs) : RelH NG (rho0 w.heap.size bs) (heap0 w.heap.size bs) w := by
  refine ⟨fun b hb => ?_, fun g hg => ?_, fun b B o x hb => ?_, fun b B o x k hb hk => ?_, fun b B o x k hb hk hw => ?_, fun b b' B o x o' x' k k' _ _ _ hk _ => heap0_wr hk⟩
  · simp only [heap0] at hb ⊢
    rw [if_neg (by omega), List.getElem?_eq_none (by omega)]; rfl
  · exact ⟨0, by simp only [rho0]; rw [if_pos (by omega)]⟩
  · rcases rho0_some hb with ⟨h1, rfl, _, _⟩ | ⟨_, cs, h2, _, h4⟩
    · exact h1
    · cases cs with
      | nil => exact absurd rfl h4
      | cons a cs =>
        obtain ⟨_, v, hv, _⟩ := h _ (List.mem_of_getElem? h2) 0 a rfl
        exact cell_lt hv
  · simp only [heap0] at hk
    rcases rho0_some hb with ⟨h1, rfl, _, _⟩ | ⟨h1, cs, h2, h3, h4⟩
    · rw [if_pos h1] at hk; cases hk
    · rw [if_neg h1, h2] at hk
      cases hk
      exact ⟨Nat.le_of_eq h3, h _ (List.mem_of_getElem? h2)⟩
  · rw [heap0_wr hk] at hw; cases hw

theorem lift {P : Program} {NG : Nat} {C : FuncId → Option AFn} {f : FuncId} (hC : Fits P NG C) (hmix : P.follows .mixedOrders = true) {w : World} (hNG : NG ≤ w.heap.size) {bs : Bs} (h : Lies w bs)
    {args : List AV} {cargs : Array Value} (ha : VRs (rho0 w.heap.size bs) args cargs.toList) (K : CallK C f args (heap0 w.heap.size bs) fun v _ => v = .b true) :
    Calls P f cargs w fun e w' => e = .returned (.bool true) ∧ Below w.heap.size w w' := by
  obtain ⟨v, H', hg, rfl⟩ := K
  have s := sound hC hmix hg (rho0 w.heap.size bs) cargs w ha (relH0 hNG h) (fun b hb _ => by
    simp only [heap0] at hb
    simp only [rho0]
    rw [if_neg (by omega), List.getElem?_eq_none (by omega)]; rfl)
  refine s.mono ?_
  rintro e w' ⟨ρ', cv, rfl, hadv, _, hv⟩
  cases hv
  exact ⟨rfl, hadv.fr.os, hadv.fr.tape, hadv.fr.output, hadv.fr.size, fun k hk => hadv.fr.heap k hk fun b o x kk _ hb => heap0_wr hb⟩

/-- A row of integers, as the law's guard tells of it. -/
def IsRow (k : IntKind) (w : World) (a : Option Addr) (len cap : Nat) (zs : List Int) : Prop :=
  (a = none ∧ len = 0 ∧ cap = 0 ∧ zs = []) ∨
  ∃ x, a = some x ∧ len ≤ cap ∧ cap ≤ maxLen ∧ zs.length = cap ∧ (∀ i, i < zs.length → w.cell? (x.add i) = some (.int k (zs.getD i 0))) ∧ ∀ n ∈ zs, (Lit.int k n).wf = true

/-- The slice of a row that lies in block b of the start. -/
def rowV (b : Nat) (a : Option Addr) (len cap : Nat) : AV := if a = none then .nils else if cap = 0 then .esl else .sl b 0 len .ro
def rowB (k : IntKind) (a : Option Addr) (zs : List Int) : Nat × Nat × List AV := ((a.map (·.block)).getD 0, (a.map (·.off)).getD 0, zs.map (.i k))

theorem row_spot {k w a len cap zs} (h : IsRow k w a len cap zs) (hc : cap ≠ 0) : ∃ x, a = some x ∧ x.spot = none ∧ len ≤ cap ∧ zs.length = cap ∧ (∀ i, i < zs.length → w.cell? ⟨x.block, x.off + i, none⟩ = some (.int k (zs.getD i 0))) := by
  rcases h with ⟨_, _, h, _⟩ | ⟨x, rfl, h1, _, h3, h4, _⟩
  · exact absurd h hc
  have hs : x.spot = none := by
    have := h4 0 (by omega)
    unfold Addr.add at this
    rw [if_pos rfl] at this
    unfold World.cell? at this
    cases hx : x.spot with
    | none => rfl
    | some q =>
      rw [hx] at this
      split at this
      · simp at this
      · cases this
  refine ⟨x, rfl, hs, h1, h3, fun i hi => ?_⟩
  have := h4 i hi
  unfold Addr.add at this
  split at this
  · subst i
    cases x; cases hs; exact this
  · exact this

theorem row_wf {k w a len cap zs} (h : IsRow k w a len cap zs) : ∀ n ∈ zs, (Lit.int k n).wf = true := by
  rcases h with ⟨_, _, _, rfl⟩ | ⟨x, rfl, h1, _, h3, h4, h5⟩
  · intro n hn; cases hn
  · exact h5

theorem row_lies {k w a len cap zs} {bs : Bs} (h : IsRow k w a len cap zs) : ∀ (i : Nat) x, (rowB k a zs).2.2[i]? = some x → x.flat = true ∧ ∃ v, w.cell? ⟨(rowB k a zs).1, (rowB k a zs).2.1 + i, none⟩ = some v ∧ VR (rho0 w.heap.size bs) x v := by
  intro i x hx
  simp only [rowB, List.getElem?_map, Option.map_eq_some_iff] at hx
  obtain ⟨n, hn, rfl⟩ := hx
  have hi := (List.getElem?_eq_some_iff.1 hn).1
  have hc : cap ≠ 0 := by
    rcases h with ⟨_, _, rfl, rfl⟩ | ⟨x, rfl, h1, _, h3, h4, _⟩
    · simp at hi
    · omega
  obtain ⟨x, rfl, hs, h1, h3, h4⟩ := row_spot h hc
  refine ⟨rfl, _, h4 i hi, ?_⟩
  have : zs.getD i 0 = n := by simp [List.getD, hn]
  rw [this]
  exact .i _ _

theorem row_v {k w a len cap zs} {bs : Bs} (h : IsRow k w a len cap zs) {j : Nat} (hj : bs[j]? = some (rowB k a zs)) : VR (rho0 w.heap.size bs) (rowV (w.heap.size + j) a len cap) (.slice a len cap) := by
  unfold rowV
  by_cases hc : cap = 0
  · rcases h with ⟨rfl, rfl, rfl, rfl⟩ | ⟨x, rfl, h1, _, h3, h4, _⟩
    · simp only [if_true]; exact .nils
    · subst hc
      have : len = 0 := by omega
      subst this
      simp only [reduceCtorEq, if_false, if_true]
      exact .esl x 0
  · obtain ⟨x, rfl, hs, h1, h3, h4⟩ := row_spot h hc
    simp only [reduceCtorEq, if_false, hc]
    have := @VR.slR (rho0 w.heap.size bs) (w.heap.size + j) 0 x.block x.off zs.length len cap (by
      simp only [rho0]
      rw [if_neg (by omega), Nat.add_sub_cancel_left, hj]
      simp only [rowB, Option.bind_some, List.length_map, Option.map_some, Option.getD_some]
      rw [if_neg (by omega)]) h1
    have e : x = ⟨x.block, x.off + 0, none⟩ := by cases x; cases hs; rfl
    rw [← e] at this
    exact this

/-- What a law sees of a slice of integers. -/
def SlI (H : AH) (k : IntKind) (v : AV) (zs : List Int) : Prop :=
  (v = .nils ∧ zs = []) ∨ (v = .esl ∧ zs = []) ∨ ∃ b rest, b < H.n ∧ v = .sl b 0 zs.length .ro ∧ H.bk b = some ⟨(zs ++ rest).map (.i k), false⟩

theorem row_sees {k w a len cap zs} {bs : Bs} (h : IsRow k w a len cap zs) {j : Nat} (hj : bs[j]? = some (rowB k a zs)) :
    SlI (heap0 w.heap.size bs) k (rowV (w.heap.size + j) a len cap) (zs.take len) := by
  unfold rowV
  by_cases hc : cap = 0
  · rcases h with ⟨rfl, rfl, rfl, rfl⟩ | ⟨x, rfl, h1, _, h3, h4, _⟩
    · simp only [if_true]; exact .inl ⟨rfl, rfl⟩
    · subst hc
      have : len = 0 := by omega
      subst this
      simp only [reduceCtorEq, if_false, if_true]
      exact .inr (.inl ⟨rfl, rfl⟩)
  · obtain ⟨x, rfl, hs, h1, h3, h4⟩ := row_spot h hc
    simp only [reduceCtorEq, if_false, hc]
    refine .inr (.inr ⟨w.heap.size + j, zs.drop len, ?_, ?_, ?_⟩)
    · have := (List.getElem?_eq_some_iff.1 hj).1
      simp only [heap0]; omega
    · rw [List.length_take, Nat.min_eq_left (by omega)]
    · simp only [heap0]
      rw [if_neg (by omega), Nat.add_sub_cancel_left, hj, List.take_append_drop]
      rfl

theorem bytes_lift {P : Program} {C : FuncId → Option AFn} {f : FuncId} (hC : Fits P 0 C) (hmix : P.follows .mixedOrders = true) {w : World} {a len cap zs} (h : IsRow .u8 w a len cap zs)
    (K : ∀ H v zs, SlI H .u8 v zs → (∀ n ∈ zs, 0 ≤ n ∧ n < 256) → CallK C f [v] H fun v _ => v = .b true) :
    Calls P f #[.slice a len cap] w fun e w' => e = .returned (.bool true) ∧ Below w.heap.size w w' := by
  refine lift (bs := [rowB .u8 a zs]) hC hmix (Nat.zero_le _) (fun r hr => ?_) (VRs.cons (row_v (j := 0) h rfl) (VRs.nil _)) (K _ _ _ (row_sees (j := 0) h rfl) fun n hn => ?_)
  · simp only [List.mem_singleton] at hr
    subst hr
    exact row_lies h
  · have := row_wf h n (List.mem_of_mem_take hn)
    simp only [Lit.wf, IntKind.min, IntKind.max, IntKind.signed, IntKind.bits, Bool.and_eq_true, decide_eq_true_eq] at this
    simp at this
    omega
end Go.Proofs.YtdgmihohmkdpjaaDoor.AM
