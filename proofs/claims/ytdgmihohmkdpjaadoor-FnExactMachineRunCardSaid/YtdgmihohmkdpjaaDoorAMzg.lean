/-
  What the encoding and the decoding of the program compute. No condition.
-/
import Derived.Test.YtdgmihohmkdpjaaDoorAMzf
namespace Go.Proofs.YtdgmihohmkdpjaaDoor.AM
set_option linter.unusedSimpArgs false
set_option linter.unusedVariables false
set_option maxRecDepth 10000
open Go

theorem B1 {u lo : Int} : 0 ≤ bitsM u lo 1 ∧ bitsM u lo 1 < 2 := bits_lt
theorem B4 {u lo : Int} : 0 ≤ bitsM u lo 4 ∧ bitsM u lo 4 < 16 := bits_lt
/-- The program's tables, as they are laid. -/
def tabRows (ns : Nat → ByteArray) : List (List AV) := (List.range 21).map fun j => [.str (ns j), .I (opcM ((j : Int) + 1)), .I (threeM ((j : Int) + 1)), .I (sevenM ((j : Int) + 1))]
def mops : List Int := [8, 9, 10, 11, 12, 3, 1, 2, 6, 7, 5]
def Glob (H : AH) : Prop := 2 ≤ H.n ∧ (∃ ns q, H.bk 0 = some ⟨(tabRows ns).flatten, q⟩) ∧ ∃ q, H.bk 1 = some ⟨Ints mops, q⟩
theorem Glob.ext {H H' : AH} (h : Glob H) (e : Ext H H') : Glob H' := by
  obtain ⟨h0, ⟨ns, q, h1⟩, q', h2⟩ := h
  exact ⟨Nat.le_trans h0 e.1, ⟨ns, q, (e.2 0 (by omega)).trans h1⟩, q', (e.2 1 (by omega)).trans h2⟩
theorem Glob.row {H : AH} (h : Glob H) {op : Int} (ho : 1 ≤ op ∧ op ≤ 21) : ∃ s, H.loadN 0 ((op.toNat - 1) * 4) 4 = some [.str s, .I (opcM op), .I (threeM op), .I (sevenM op)] := by
  obtain ⟨_, ⟨ns, q, h1⟩, _⟩ := h
  refine ⟨ns (op.toNat - 1), ?_⟩
  rw [loadN_bk h1]
  refine seg_flatten (fun x hx => ?_) ?_
  · simp only [tabRows, List.mem_map] at hx
    obtain ⟨j, _, rfl⟩ := hx
    rfl
  · have e : ((op.toNat - 1 : Nat) : Int) + 1 = op := by omega
    simp only [tabRows, List.getElem?_map]
    rw [List.getElem?_range (by omega)]
    simp only [Option.map_some, e]
section
variable {H : AH} {K : AV → AH → Prop} {n a b op u : Int} {w : Fk K}
theorem K_iinstrRow_matches {s : ByteArray} (h : 1 ≤ op ∧ op ≤ 21) (hu : 0 ≤ u ∧ u ≤ 4294967295) : CallF Cd f_iinstrRow_matches [.agg [.str s, .I (opcM op), .I (threeM op), .I (sevenM op)], .I op, .I u] H K w = K (.b (matchM op u)) (H.push [.str s, .I (opcM op), .I (threeM op), .I (sevenM op)]) := by
  rw [CallF_eq e_iinstrRow_matches rfl]
  have em : ibits .i64 (· &&& ·) u 127 = some (.I (bitsM u 0 7)) := by
    have := @ibits_mask u 7 (by omega) (by omega)
    simp at this
    rw [this]; unfold bitsM; rw [if_pos (by omega)]; simp
  have em' : matchM op u = (decide (opcM op = bitsM u 0 7) && (if op ≤ 11 then decide (threeM op = bitsM u 12 3 ∧ sevenM op = bitsM u 25 7) else if op ≤ 18 then decide (threeM op = bitsM u 12 3) else true)) := rfl
  rw [em']
  clear em'
  generalize opcM op = A at *
  generalize threeM op = B at *
  generalize sevenM op = C at *
  simp [load_push, em]
  refine cnd_iff (fun h1 => ?_) (fun h1 => ?_)
  · simp; exact Kb_false (by simp [h1])
  have h1 := Decidable.of_not_not h1
  simp [K_iformatOf]
  by_cases q1 : op ≤ 11
  · simp [fmt82 ⟨h.1, q1⟩, load_push, K_iBits]
    by_cases h2 : B = bitsM u 12 3
    · simp [h2, load_push, K_iBits, h1, q1]
    · simp [h2, h1, q1]
  by_cases q2 : op ≤ 15
  · have q3 : op ≤ 18 := by omega
    simp [fmt73 (n := op) (by omega), load_push, K_iBits, h1, q1, q3]
  by_cases q2 : op = 16
  · have q3 : op ≤ 18 := by omega
    simp [fmt83 q2, load_push, K_iBits, h1, q1, q3]
  by_cases q3 : op ≤ 18
  · simp [fmt66 (n := op) (by omega), load_push, K_iBits, h1, q1, q3]
  by_cases q4 : op = 19
  · simp [fmt85 q4, h1, q1, q3]
  by_cases q5 : op = 20
  · simp [fmt74 q5, h1, q1, q3]
  · simp [fmt69 (n := op) (by omega), h1, q1, q3]
theorem K_idecodeAs (h : 1 ≤ op ∧ op ≤ 21) (k : ∀ H', Ext H H' → K (.agg (fldM op u).cs) H') : CallF Cd f_idecodeAs [.I op, .I u] H K w := by
  rw [CallF_eq e_idecodeAs rfl]
  have h7 := @b5 u 7
  have q25 := @b7 u 25
  have q31 := @b1 u 31
  have q7 := @b1 u 7
  have q256 := @b6 u 25
  have q8 := @b4 u 8
  have q12 := @b8 u 12
  have q20 := @b1 u 20
  have q21 := @b10 u 21
  have fin : ∀ (c : List AV) G, c = (fldM op u).cs → Ext H G → K (.agg c) G := fun c G e hE => e ▸ k G hE
  clear k
  simp [K_iBits, K_iformatOf]
  have ret : ∀ c : List AV, c = (fldM op u).cs → K (.agg c) (H.push c) := fun c e => fin c _ e (Ext.push _ _)
  by_cases b1 : op ≤ 11
  · simp [fmt82 ⟨h.1, b1⟩, AH.store, push_put, loadN_push]
    exact ret _ (by unfold fldM; rw [if_pos b1]; rfl)
  by_cases b2 : op ≤ 15
  · simp [fmt73 (n := op) (by omega), AH.store, push_put, loadN_push, K_iBits, K_iSignExtend]
    exact ret _ (by unfold fldM; rw [if_neg b1, if_pos b2]; rfl)
  by_cases b3 : op = 16
  · simp (disch := omega) [fmt83 b3, AH.store, push_put, loadN_push, K_iBits, or_0_5, K_iSignExtend]
    exact ret _ (by unfold fldM; rw [if_neg b1, if_neg b2, if_pos b3]; rfl)
  by_cases b4 : op ≤ 18
  · simp (disch := omega) [fmt66 (n := op) (by omega), AH.store, push_put, loadN_push, K_iBits, or_11_12, or_5_11, or_1_5, K_iSignExtend]
    exact ret _ (by unfold fldM; rw [if_neg b1, if_neg b2, if_neg b3, if_pos b4]; rfl)
  by_cases b5 : op = 19
  · simp (disch := omega) [fmt85 b5, AH.store, push_put, loadN_push, K_iBits]
    exact ret _ (by unfold fldM; rw [if_neg b1, if_neg b2, if_neg b3, if_neg b4, if_pos b5]; rfl)
  by_cases b6 : op = 20
  · simp (disch := omega) [fmt74 b6, AH.store, push_put, loadN_push, K_iBits, or_12_20, or_11_12, or_1_11, K_iSignExtend]
    exact ret _ (by unfold fldM; rw [if_neg b1, if_neg b2, if_neg b3, if_neg b4, if_neg b5, if_pos b6]; rfl)
  · simp [fmt69 (n := op) (by omega), AH.store, push_put, loadN_push]
    exact ret _ (by unfold fldM; rw [if_neg b1, if_neg b2, if_neg b3, if_neg b4, if_neg b5, if_neg b6]; rfl)
theorem cs0 {i : Ins} : i.cs[0]? = some (.I i.op) := rfl
theorem cs1 {i : Ins} : i.cs[1]? = some (.I i.rd) := rfl
theorem cs2 {i : Ins} : i.cs[2]? = some (.I i.rs) := rfl
theorem cs3 {i : Ins} : i.cs[3]? = some (.I i.rt) := rfl
theorem cs4 {i : Ins} : i.cs[4]? = some (.I i.imm) := rfl
attribute [simp] cs0 cs1 cs2 cs3 cs4
theorem K_part {lo many place imm : Int} {b o : Nat} (hl : H.load b o = some (.I imm)) (hp : 0 ≤ place ∧ place ≤ 31) (hm : 0 ≤ many ∧ many ≤ 31) : CallF Cd f_iInstrEncode_1 [.I lo, .I many, .I place, .ptr b o] H K w = K (.I (bitsM imm lo many * 2 ^ place.toNat)) H := by
  rw [CallF_eq e_iInstrEncode_1 rfl]
  have q := @bits_lt imm lo many
  have q1 := @pow_le2 place.toNat 31 (by omega)
  have q2 := @pow_pos2 place.toNat
  have q3 := @pow_le2 many.toNat 31 (by omega)
  have q4 : bitsM imm lo many * 2 ^ place.toNat ≤ 2147483648 * 2147483648 := Int.mul_le_mul (by omega) (by omega) (by omega) (by omega)
  have q5 : 0 ≤ bitsM imm lo many * 2 ^ place.toNat := Int.mul_nonneg q.1 (by omega)
  simp (disch := omega) [hl, K_iBits]
theorem K_part4 {a b c : List AV} {lo many place imm : Int} (hp : 0 ≤ place ∧ place ≤ 31) (hm : 0 ≤ many ∧ many ≤ 31) : CallF Cd f_iInstrEncode_1 [.I lo, .I many, .I place, .ptr (H.n + 1 + 1 + 1) 0] ((((H.push a).push b).push c).push [.I imm]) K w = K (.I (bitsM imm lo many * 2 ^ place.toNat)) ((((H.push a).push b).push c).push [.I imm]) :=
  K_part (by simp [load_push]) hp hm
theorem imm_a {imm : Int} (h : -2048 ≤ imm ∧ imm ≤ 2047) : bitsM (unsM imm) 0 12 = bitsM (mod2 imm 4096) 0 12 := by
  have e1 : unsM imm = imm % 4294967296 := by unfold unsM; rw [if_pos (by omega)]
  have e2 : mod2 imm 4096 = imm % 4096 := by unfold mod2; split <;> omega
  rw [e1, e2]; unfold bitsM; rw [if_pos (by omega), if_pos (by omega)]; simp; try omega
theorem imm_b {imm : Int} (h : -2048 ≤ imm ∧ imm ≤ 2047) : bitsM (unsM imm) 5 7 = bitsM (mod2 imm 4096) 5 7 := by
  have e1 : unsM imm = imm % 4294967296 := by unfold unsM; rw [if_pos (by omega)]
  have e2 : mod2 imm 4096 = imm % 4096 := by unfold mod2; split <;> omega
  rw [e1, e2]; unfold bitsM; rw [if_pos (by omega), if_pos (by omega)]; simp; try omega
theorem imm_c {imm : Int} (h : -2048 ≤ imm ∧ imm ≤ 2047) : bitsM (unsM imm) 0 5 = bitsM (mod2 imm 4096) 0 5 := by
  have e1 : unsM imm = imm % 4294967296 := by unfold unsM; rw [if_pos (by omega)]
  have e2 : mod2 imm 4096 = imm % 4096 := by unfold mod2; split <;> omega
  rw [e1, e2]; unfold bitsM; rw [if_pos (by omega), if_pos (by omega)]; simp; try omega
theorem imm_d {imm : Int} (h : -4096 ≤ imm ∧ imm ≤ 4095) : bitsM (unsM imm) 12 1 = bitsM (mod2 imm 8192) 12 1 := by
  have e1 : unsM imm = imm % 4294967296 := by unfold unsM; rw [if_pos (by omega)]
  have e2 : mod2 imm 8192 = imm % 8192 := by unfold mod2; split <;> omega
  rw [e1, e2]; unfold bitsM; rw [if_pos (by omega), if_pos (by omega)]; simp; try omega
theorem imm_e {imm : Int} (h : -4096 ≤ imm ∧ imm ≤ 4095) : bitsM (unsM imm) 5 6 = bitsM (mod2 imm 8192) 5 6 := by
  have e1 : unsM imm = imm % 4294967296 := by unfold unsM; rw [if_pos (by omega)]
  have e2 : mod2 imm 8192 = imm % 8192 := by unfold mod2; split <;> omega
  rw [e1, e2]; unfold bitsM; rw [if_pos (by omega), if_pos (by omega)]; simp; try omega
theorem imm_f {imm : Int} (h : -4096 ≤ imm ∧ imm ≤ 4095) : bitsM (unsM imm) 1 4 = bitsM (mod2 imm 8192) 1 4 := by
  have e1 : unsM imm = imm % 4294967296 := by unfold unsM; rw [if_pos (by omega)]
  have e2 : mod2 imm 8192 = imm % 8192 := by unfold mod2; split <;> omega
  rw [e1, e2]; unfold bitsM; rw [if_pos (by omega), if_pos (by omega)]; simp; try omega
theorem imm_g {imm : Int} (h : -4096 ≤ imm ∧ imm ≤ 4095) : bitsM (unsM imm) 11 1 = bitsM (mod2 imm 8192) 11 1 := by
  have e1 : unsM imm = imm % 4294967296 := by unfold unsM; rw [if_pos (by omega)]
  have e2 : mod2 imm 8192 = imm % 8192 := by unfold mod2; split <;> omega
  rw [e1, e2]; unfold bitsM; rw [if_pos (by omega), if_pos (by omega)]; simp; try omega
theorem imm_h {imm : Int} (h : -1048576 ≤ imm ∧ imm ≤ 1048575) : bitsM (unsM imm) 20 1 = bitsM (mod2 imm 2097152) 20 1 := by
  have e1 : unsM imm = imm % 4294967296 := by unfold unsM; rw [if_pos (by omega)]
  have e2 : mod2 imm 2097152 = imm % 2097152 := by unfold mod2; split <;> omega
  rw [e1, e2]; unfold bitsM; rw [if_pos (by omega), if_pos (by omega)]; simp; try omega
theorem imm_i {imm : Int} (h : -1048576 ≤ imm ∧ imm ≤ 1048575) : bitsM (unsM imm) 1 10 = bitsM (mod2 imm 2097152) 1 10 := by
  have e1 : unsM imm = imm % 4294967296 := by unfold unsM; rw [if_pos (by omega)]
  have e2 : mod2 imm 2097152 = imm % 2097152 := by unfold mod2; split <;> omega
  rw [e1, e2]; unfold bitsM; rw [if_pos (by omega), if_pos (by omega)]; simp; try omega
theorem imm_j {imm : Int} (h : -1048576 ≤ imm ∧ imm ≤ 1048575) : bitsM (unsM imm) 11 1 = bitsM (mod2 imm 2097152) 11 1 := by
  have e1 : unsM imm = imm % 4294967296 := by unfold unsM; rw [if_pos (by omega)]
  have e2 : mod2 imm 2097152 = imm % 2097152 := by unfold mod2; split <;> omega
  rw [e1, e2]; unfold bitsM; rw [if_pos (by omega), if_pos (by omega)]; simp; try omega
theorem imm_k {imm : Int} (h : -1048576 ≤ imm ∧ imm ≤ 1048575) : bitsM (unsM imm) 12 8 = bitsM (mod2 imm 2097152) 12 8 := by
  have e1 : unsM imm = imm % 4294967296 := by unfold unsM; rw [if_pos (by omega)]
  have e2 : mod2 imm 2097152 = imm % 2097152 := by unfold mod2; split <;> omega
  rw [e1, e2]; unfold bitsM; rw [if_pos (by omega), if_pos (by omega)]; simp; try omega
theorem imm_a' {imm : Int} (h : -2048 ≤ imm ∧ imm ≤ 2047) : bitsM (mod2 imm 4096) 0 12 = mod2 imm 4096 := by
  have e2 : mod2 imm 4096 = imm % 4096 := by unfold mod2; split <;> omega
  rw [e2]; unfold bitsM; rw [if_pos (by omega)]; simp
theorem imm_u {imm : Int} (h : 0 ≤ imm ∧ imm ≤ 1048575) : bitsM (unsM imm) 0 20 = imm := by
  have e1 : unsM imm = imm % 4294967296 := by unfold unsM; rw [if_pos (by omega)]
  rw [e1]; unfold bitsM; rw [if_pos (by omega)]; simp; omega
theorem opc_R {op : Int} (h : 1 ≤ op ∧ op ≤ 11) : opcM op = 51 := by
  rcases cases21 (op := op) (by omega) with rfl | rfl | rfl | rfl | rfl | rfl | rfl | rfl | rfl | rfl | rfl | rfl | rfl | rfl | rfl | rfl | rfl | rfl | rfl | rfl | rfl <;> first | rfl | omega
theorem opc_I {op : Int} (h : 12 ≤ op ∧ op ≤ 15) : 0 ≤ opcM op ∧ opcM op < 128 := by
  rcases cases21 (op := op) (by omega) with rfl | rfl | rfl | rfl | rfl | rfl | rfl | rfl | rfl | rfl | rfl | rfl | rfl | rfl | rfl | rfl | rfl | rfl | rfl | rfl | rfl <;> first | decide | omega
theorem K_iInstrEncode {i : Ins} (hg : Glob H) (hi : i.near) (hv : validM i = true) (k : ∀ H', Ext H H' → K (.tup [.I (encM i), .b true]) H') : CallF Cd f_iInstrEncode [.agg i.cs] H K w := by
  rw [CallF_eq e_iInstrEncode rfl]
  obtain ⟨h, h2, h3, h4, h5⟩ := id hi
  obtain ⟨s, hrow⟩ := (hg.ext ((Ext.push H i.cs).trans (Ext.push _ i.cs))).row h
  have hn := hg.1
  have fin : ∀ x G, x = encM i → Ext H G → K (.tup [.I x, .b true]) G := fun c G e hE => e ▸ k G hE
  clear k hg
  have t1 := three_lt h
  have x4 : ∀ a b c d, Ext H ((((H.push a).push b).push c).push d) := fun a b c d => (of_eq_true ext_pp).trans (of_eq_true ext_pp)
  by_cases b1 : i.op ≤ 11
  · have hs := seven_lt (n := i.op) (by omega)
    have ho := opc_R (op := i.op) (by omega)
    simp (disch := omega) [loadN_push, load_push, K_iInstrValid, hv, hrow, AH.store, push_put2, push_put3, K_iUnsigned, or_15_20, or_12_15, or_0_7, or_0_25, or_7_12, K_iformatOf, fmt82, ho]
    refine fin _ _ ?_ (x4 _ _ _ _)
    unfold encM midM; rw [if_pos b1]; omega
  by_cases b2 : i.op ≤ 15
  · have ho := opc_I (op := i.op) (by omega)
    have hv' : (i.rt = 0) ∧ (-2048 ≤ i.imm ∧ i.imm ≤ 2047) := by
      have := hv; unfold validM at this; rw [fmt73 (by omega)] at this; simp [shortM] at this; exact ⟨this.1.2, this.2⟩
    have q := @b12 (unsM i.imm) 0
    have q' := imm_a hv'.2
    rw [imm_a' hv'.2] at q'
    rw [hv'.1] at h4
    simp (disch := omega) [loadN_push, load_push, K_iInstrValid, hv, hrow, AH.store, push_put2, push_put3, K_iUnsigned, or_15_20, or_12_15, or_0_7, or_0_25, or_7_12, or_0_20, K_iformatOf, fmt73, K_part4, hv'.1]
    refine fin _ _ ?_ (x4 _ _ _ _)
    unfold encM midM; rw [if_neg b1, if_pos b2]; omega
  by_cases b3 : i.op = 16
  · have ho : opcM i.op = 35 := by rw [b3]; rfl
    have hv' : (-2048 ≤ i.imm ∧ i.imm ≤ 2047) := by
      have := hv; unfold validM at this; rw [fmt83 (by omega)] at this; simp [shortM] at this; exact this.2
    have q1 := @b7 (unsM i.imm) 5
    have q2 := @b5 (unsM i.imm) 0
    simp (disch := omega) [loadN_push, load_push, K_iInstrValid, hv, hrow, AH.store, push_put2, push_put3, K_iUnsigned, or_15_20, or_12_15, or_0_7, or_0_25, or_7_12, K_iformatOf, fmt83, K_part4, ho]
    refine fin _ _ ?_ (x4 _ _ _ _)
    unfold encM midM; rw [if_neg b1, if_neg b2, if_pos b3, imm_b hv', imm_c hv']; omega
  by_cases b4 : i.op ≤ 18
  · have ho : opcM i.op = 99 := by
      have : i.op = 17 ∨ i.op = 18 := by omega
      rcases this with e | e <;> rw [e] <;> rfl
    have hv' : (-4096 ≤ i.imm ∧ i.imm ≤ 4095) := by
      have := hv; unfold validM at this; rw [fmt66 (by omega)] at this; simp at this; omega
    have q1 := @B1 (unsM i.imm) 12
    have q2 := @b6 (unsM i.imm) 5
    have q3 := @B4 (unsM i.imm) 1
    have q4 := @B1 (unsM i.imm) 11
    simp (disch := omega) [loadN_push, load_push, K_iInstrValid, hv, hrow, AH.store, push_put2, push_put3, K_iUnsigned, or_15_20, or_12_15, or_0_7, or_0_25, or_25_31, or_8_12, or_7_8, K_iformatOf, fmt66, K_part4, ho]
    refine fin _ _ ?_ (x4 _ _ _ _)
    unfold encM midM; rw [if_neg b1, if_neg b2, if_neg b3, if_pos b4, imm_d hv', imm_e hv', imm_f hv', imm_g hv']; omega
  by_cases b5 : i.op = 19
  · have ho : opcM i.op = 55 := by rw [b5]; rfl
    have hv' : i.rs = 0 ∧ i.rt = 0 ∧ (0 ≤ i.imm ∧ i.imm ≤ 1048575) := by
      have := hv; unfold validM at this; rw [fmt85 (by omega)] at this; simp at this; omega
    have q1 := imm_u hv'.2.2
    have ht : threeM i.op = 0 := by rw [b5]; rfl
    simp (disch := omega) [loadN_push, load_push, K_iInstrValid, hv, hrow, AH.store, push_put2, push_put3, K_iUnsigned, or_15_20, or_12_15, or_0_7, or_7_12, K_iformatOf, fmt85, K_part4, ho, hv'.1, hv'.2.1, q1, ht]
    refine fin _ _ ?_ (x4 _ _ _ _)
    unfold encM; rw [if_neg b1, if_neg b2, if_neg b3, if_neg b4, if_pos b5]
  by_cases b6 : i.op = 20
  · have ho : opcM i.op = 111 := by rw [b6]; rfl
    have hv' : i.rs = 0 ∧ i.rt = 0 ∧ (-1048576 ≤ i.imm ∧ i.imm ≤ 1048575) := by
      have := hv; unfold validM at this; rw [fmt74 (by omega)] at this; simp at this; omega
    have q1 := @B1 (unsM i.imm) 20
    have q2 := @b10 (unsM i.imm) 1
    have q3 := @B1 (unsM i.imm) 11
    have q4 := @b8 (unsM i.imm) 12
    have ht : threeM i.op = 0 := by rw [b6]; rfl
    simp (disch := omega) [loadN_push, load_push, K_iInstrValid, hv, hrow, AH.store, push_put2, push_put3, K_iUnsigned, or_15_20, or_12_15, or_0_7, or_7_12, or_21_31, or_20_21, or_12_20, K_iformatOf, fmt74, K_part4, ho, hv'.1, hv'.2.1, ht]
    refine fin _ _ ?_ (x4 _ _ _ _)
    unfold encM; rw [if_neg b1, if_neg b2, if_neg b3, if_neg b4, if_neg b5, if_pos b6, imm_h hv'.2.2, imm_i hv'.2.2, imm_j hv'.2.2, imm_k hv'.2.2]
  · have ho : opcM i.op = 115 := by rw [show i.op = 21 by omega]; rfl
    have hv' : i = ⟨21, 0, 0, 0, 0⟩ := by
      have := hv; unfold validM at this; rw [fmt69 (by omega)] at this; simpa using this
    have ht : threeM i.op = 0 := by rw [show i.op = 21 by omega]; rfl
    have r1 : i.rs = 0 := by rw [hv']
    have r2 : i.rt = 0 := by rw [hv']
    simp (disch := omega) [loadN_push, load_push, K_iInstrValid, hv, hrow, AH.store, push_put2, push_put3, K_iUnsigned, or_15_20, or_12_15, or_0_7, or_7_12, K_iformatOf, fmt69, ho, ht, r1, r2]
    refine fin _ _ ?_ (x4 _ _ _ _)
    unfold encM; rw [if_neg b1, if_neg b2, if_neg b3, if_neg b4, if_neg b5, if_neg b6]
/-- What is still found from op on. -/
def okFrom (u op : Int) : Bool := okM u && decide (op ≤ opS u)
theorem K_iInstrDecode_l {u : Int} (hg : Glob H) (hu : 0 ≤ u ∧ u ≤ 4294967295) {Q : Out → Env → AH → Prop} (m : Nat) {op : Int} (hop : 1 ≤ op) (hm : op + m = 22) {G : AH} {A : Nat} (hG : Ext H G) (hA : A < G.n) (gA : G.bk A = some ⟨[.I 0, .I 0, .I 0, .I 0, .I 0], true⟩) (hHA : H.n ≤ A)
    (h1 : ∀ e G, Ext H G → G.bk A = some ⟨[.I 0, .I 0, .I 0, .I 0, .I 0], true⟩ → okFrom u op = false → Q (.brk 0) ([(0, .I u), (2, .ptr A 0)] ++ e) G)
    (h2 : ∀ G, Ext H G → G.bk A = some ⟨(decI u).cs, true⟩ → okM u = true → Q .ret [(2, .ptr A 0), (3, .b true)] G) :
    W Cd (.loop c_iInstrDecode_l0) [(0, .I u), (2, .ptr A 0), (4, .I op)] G Q := by
  induction m generalizing op G with
  | zero =>
    rw [W_loop_as c_iInstrDecode_l0.eq_1]
    have hj : op = 22 := by omega
    subst hj
    simp
    refine h1 [(4, .I 22), (13, .b false)] _ hG gA ?_
    unfold okFrom
    cases ho : okM u with
    | false => rfl
    | true =>
      have h0 : opS u ≠ 0 := by simp only [okM, Bool.and_eq_true, decide_eq_true_eq] at ho; exact ho.1.2
      have := ops_range h0
      simp; omega
  | succ m ih =>
    rw [W_loop_as c_iInstrDecode_l0.eq_1]
    have hlt : op ≤ 21 := by omega
    obtain ⟨s, hrow⟩ := (hg.ext hG).row ⟨hop, hlt⟩
    have next : ∀ G', Ext H G' → A < G'.n → G'.bk A = some ⟨[.I 0, .I 0, .I 0, .I 0, .I 0], true⟩ → (okM u = true → opS u ≠ op) → W Cd (.loop c_iInstrDecode_l0) [(0, .I u), (2, .ptr A 0), (4, .I (op + 1))] G' Q := fun G' hG' hA' gA' hn => by
      have e : okFrom u op = okFrom u (op + 1) := by
        unfold okFrom
        cases ho : okM u with
        | false => rfl
        | true => have := hn ho; simp; omega
      rw [e] at h1
      exact ih (op := op + 1) (by omega) (by omega) hG' hA' gA' h1
    simp (disch := omega) [hlt, hrow, K_iinstrRow_matches]
    refine cnd_mk (fun c1 => ?_) (fun c1 => ?_)
    · simp (disch := omega)
      refine next _ (hG.to_push) (Nat.lt_succ_of_lt hA) (push_old hA gA) (fun ho he => ?_)
      have := ok_match ho
      rw [he, c1] at this; cases this
    simp
    have hmo := match_op ⟨hop, hlt⟩ (by simpa using c1)
    refine K_idecodeAs ⟨hop, hlt⟩ fun H1 hE1 => ?_
    have hn := (fld_near (u := u) ⟨hop, hlt⟩).1
    have hv := fld_valid (u := u) ⟨hop, hlt⟩
    have x1 : Ext H H1 := hG.to_push.trans hE1
    have A1 : A < H1.n := Nat.lt_of_lt_of_le (Nat.lt_succ_of_lt hA) hE1.1
    have g1 := (hE1.2 A (Nat.lt_succ_of_lt hA)).trans (push_old hA gA)
    simp [AH.store, push_put, loadN_push]
    refine K_iInstrEncode (hg.ext x1.to_push) hn hv fun H2 hE2 => ?_
    have x2 : Ext H H2 := x1.to_push.trans hE2
    have A2 : A < H2.n := Nat.lt_of_lt_of_le (Nat.lt_succ_of_lt A1) hE2.1
    have g2 := (hE2.2 A (Nat.lt_succ_of_lt A1)).trans (push_old A1 g1)
    have g2' : H2.bk H1.n = some ⟨(fldM op u).cs, true⟩ := (hE2.2 _ (Nat.lt_succ_self _)).trans push_new
    have hok : okM u = decide (encM (fldM op u) = u) := by
      unfold okM isU
      rw [hmo]
      have : op ≠ 0 := by omega
      simp [hu, this]
    simp
    refine cnd_mk (fun c2 => ?_) (fun c2 => ?_)
    · have ho : okM u = true := by rw [hok]; simpa using c2
      simp [AH.store, g2, loadN_bk g2', loadN_put]
      refine h2 _ (x2.put hHA) ?_ ho
      rw [put_same]; unfold decI; rw [if_pos ho, hmo]
    · have ho : okM u = false := by rw [hok]; simpa using c2
      simp (disch := omega)
      exact next _ x2 A2 g2 (fun h => by rw [ho] at h; cases h)
theorem K_iInstrDecode (hg : Glob H) {u : Int} (k : ∀ H', Ext H H' → K (.tup [.agg (decI u).cs, .b (okM u)]) H') : CallF Cd f_iInstrDecode [.I u] H K w := by
  rw [CallF_eq e_iInstrDecode rfl]
  have fin : ∀ x c G, x = okM u → c = (decI u).cs → Ext H G → K (.tup [.agg c, .b x]) G := fun x c G e e' hE => by subst e e'; exact k G hE
  clear k
  by_cases b : 0 ≤ u ∧ u ≤ 4294967295
  · have hU : isU u = true := by simp [isU]; omega
    simp [K_iisUnsigned, hU]
    refine K_iInstrDecode_l (H := H) (A := H.n) (op := 1) hg b 21 (by omega) (by omega) (Ext.push _ _) (Nat.lt_succ_self _) push_new (Nat.le_refl _) (fun e G hG gA ho => ?_) (fun G hG gA ho => ?_)
    · have ho : okM u = false := by
        cases hk : okM u with
        | false => rfl
        | true =>
          have h0 : opS u ≠ 0 := by simp only [okM, Bool.and_eq_true, decide_eq_true_eq] at hk; exact hk.1.2
          have := ops_range h0
          rw [okFrom, hk] at ho; simp at ho; omega
      simp [AH.store, gA, loadN_put]
      exact fin _ _ _ ho.symm (by simp [decI, ho, zero_cs]) (hG.put (Nat.le_refl _))
    · simp [loadN_bk gA]
      exact fin _ _ _ ho.symm rfl hG
  · have hU : isU u = false := by simp [isU]; omega
    simp [K_iisUnsigned, hU, AH.store, push_put, loadN_push]
    exact fin _ _ _ (by simp [okM, hU]) (by simp [decI, okM, hU, zero_cs]) (Ext.push _ _)
end
end Go.Proofs.YtdgmihohmkdpjaaDoor.AM
