/-
  What the encoding and the decoding of the spec compute. No condition.
-/
import Derived.Test.YtdgmihohmkdpjaaDoorAMze
namespace Go.Proofs.YtdgmihohmkdpjaaDoor.AM
set_option linter.unusedSimpArgs false
set_option linter.unusedVariables false
open Go

theorem three_lt {n : Int} (h : 1 ≤ n ∧ n ≤ 21) : 0 ≤ threeM n ∧ threeM n < 8 := by
  rcases cases21 h with rfl | rfl | rfl | rfl | rfl | rfl | rfl | rfl | rfl | rfl | rfl | rfl | rfl | rfl | rfl | rfl | rfl | rfl | rfl | rfl | rfl <;> decide
theorem seven_lt {n : Int} (h : 1 ≤ n ∧ n ≤ 11) : 0 ≤ sevenM n ∧ sevenM n < 128 := by
  rcases cases21 (op := n) (by omega) with rfl | rfl | rfl | rfl | rfl | rfl | rfl | rfl | rfl | rfl | rfl | rfl | rfl | rfl | rfl | rfl | rfl | rfl | rfl | rfl | rfl <;> first | decide | omega
section
variable {H : AH} {K : AV → AH → Prop} {n a b : Int} {w : Fk K}
theorem K_sl42Three (h : 1 ≤ n ∧ n ≤ 21) (k : ∀ H', Ext H H' → K (.I (threeM n)) H') : CallF Cd f_sl42Three [.I n] H K w := by
  rw [CallF_eq e_sl42Three rfl]
  have e : (Ints [0, 0, 0, 4, 6, 7, 6, 4, 1, 5, 2, 0, 3, 2, 0, 2, 0, 1, 0, 0, 0])[n.toNat - 1]? = some (.I (threeM n)) := by
    rcases cases21 h with rfl | rfl | rfl | rfl | rfl | rfl | rfl | rfl | rfl | rfl | rfl | rfl | rfl | rfl | rfl | rfl | rfl | rfl | rfl | rfl | rfl <;> rfl
  simp only [Ints, List.map_cons, List.map_nil] at e
  simp (disch := omega) [load_push, e]
  exact k _ (Ext.push _ _)
theorem K_sl42Seven (h : 1 ≤ n ∧ n ≤ 11) (k : ∀ H', Ext H H' → K (.I (sevenM n)) H') : CallF Cd f_sl42Seven [.I n] H K w := by
  rw [CallF_eq e_sl42Seven rfl]
  have e : (Ints [0, 32, 1, 1, 1, 0, 0, 0, 0, 32, 0])[n.toNat - 1]? = some (.I (sevenM n)) := by
    rcases cases21 (op := n) (by omega) with rfl | rfl | rfl | rfl | rfl | rfl | rfl | rfl | rfl | rfl | rfl | rfl | rfl | rfl | rfl | rfl | rfl | rfl | rfl | rfl | rfl <;> first | rfl | omega
  simp only [Ints, List.map_cons, List.map_nil] at e
  simp (disch := omega) [load_push, e]
  exact k _ (Ext.push _ _)
theorem K_sl42Mod' (ha : -4611686018427387904 ≤ a ∧ a ≤ 4611686018427387904) (hb : 0 ≤ b ∧ b ≤ 4611686018427387904) : CallF Cd f_sl42Mod [.I a, .I b] H K w = K (.I (mod2 a b)) H := by
  rw [K_sl42Mod]
  unfold mod2
  split
  · rw [wrap64 (by omega)]
  · rfl
theorem K_sl42Mid {i : Ins} (hi : i.near) (hn : 0 ≤ n ∧ n < 128) (k : ∀ H', Ext H H' → K (.I (midM i n)) H') : CallF Cd f_sl42Mid [.agg i.cs, .I n] H K w := by
  rw [CallF_eq e_sl42Mid rfl]
  obtain ⟨h1, h2, h3, h4, h5⟩ := hi
  have ht := three_lt h1
  simp (disch := omega) [Ins.cs, load_push, K_sl42Put]
  refine K_sl42Three h1 fun H1 hE => ?_
  simp (disch := omega) [hE, K_sl42Put]
  exact k _ ((Ext.push _ _).trans hE)
theorem mid_lt {i : Ins} (hi : i.near) (hn : 0 ≤ n ∧ n < 128) : 0 ≤ midM i n ∧ midM i n < 1048576 := by
  obtain ⟨h1, h2, h3, h4, h5⟩ := hi
  have ht := three_lt h1
  unfold midM; omega
theorem mod_12 {x : Int} (h : -1048576 ≤ x ∧ x ≤ 1048575) : -1048576 ≤ mod2 x 4096 ∧ mod2 x 4096 ≤ 1048575 := by unfold mod2; split <;> omega
theorem K_sl42Imm {i : Ins} (hi : i.near) (hn : 0 ≤ n ∧ n < 128) (k : ∀ H', Ext H H' → K (.I (mod2 i.imm 4096 * 1048576 + midM i n + i.rd * 128)) H') : CallF Cd f_sl42Imm [.agg i.cs, .I n] H K w := by
  rw [CallF_eq e_sl42Imm rfl]
  obtain ⟨h1, h2, h3, h4, h5⟩ := id hi
  have hm := mod_12 h5
  have hmid := mid_lt hi hn
  simp (disch := omega) [Ins.cs, load_push, loadN_push, K_sl42Mod', K_sl42Put]
  refine K_sl42Mid (i := i) hi hn fun H1 hE => ?_
  have e1 : H1.load H.n 1 = some (.I i.rd) := by rw [load_ext hE (Nat.lt_succ_self _), load_push, if_pos rfl]; rfl
  simp (disch := omega) [hE, e1, K_sl42Put]
  exact k _ ((Ext.push _ _).trans hE)
theorem K_sl42Branch {i : Ins} (hi : i.near) (k : ∀ H', Ext H H' → K (.I (bitsM (mod2 i.imm 8192) 12 1 * 2147483648 + bitsM (mod2 i.imm 8192) 5 6 * 33554432 + i.rt * 1048576 + midM i 99 + bitsM (mod2 i.imm 8192) 1 4 * 256 + bitsM (mod2 i.imm 8192) 11 1 * 128)) H') : CallF Cd f_sl42Branch [.agg i.cs] H K w := by
  rw [CallF_eq e_sl42Branch rfl]
  obtain ⟨h1, h2, h3, h4, h5⟩ := id hi
  have hmid := mid_lt (n := 99) hi (by omega)
  have q1 := @b1 (mod2 i.imm 8192) 12
  have q2 := @b6 (mod2 i.imm 8192) 5
  have q3 := @b4 (mod2 i.imm 8192) 1
  have q4 := @b1 (mod2 i.imm 8192) 11
  simp (disch := omega) [Ins.cs, load_push, loadN_push, K_sl42Mod', K_sl42Put, K_sBits]
  refine K_sl42Mid (i := i) hi (by omega) fun H1 hE => ?_
  simp (disch := omega) [hE, K_sl42Put, K_sBits]
  exact k _ ((Ext.push _ _).trans hE)
theorem K_sl42Jump {i : Ins} (hi : i.near) (k : ∀ H', Ext H H' → K (.I (bitsM (mod2 i.imm 2097152) 20 1 * 2147483648 + bitsM (mod2 i.imm 2097152) 1 10 * 2097152 + bitsM (mod2 i.imm 2097152) 11 1 * 1048576 + bitsM (mod2 i.imm 2097152) 12 8 * 4096 + i.rd * 128 + 111)) H') : CallF Cd f_sl42Jump [.agg i.cs] H K w := by
  rw [CallF_eq e_sl42Jump rfl]
  obtain ⟨h1, h2, h3, h4, h5⟩ := id hi
  have q1 := @b1 (mod2 i.imm 2097152) 20
  have q2 := @b10 (mod2 i.imm 2097152) 1
  have q3 := @b1 (mod2 i.imm 2097152) 11
  have q4 := @b8 (mod2 i.imm 2097152) 12
  simp (disch := omega) [Ins.cs, load_push, loadN_push, K_sl42Mod', K_sl42Put, K_sBits]
  exact k _ (Ext.push _ _)
theorem K_sl42Encode {i : Ins} (hi : i.near) (k : ∀ H', Ext H H' → K (.I (encM i)) H') : CallF Cd f_sl42Encode [.agg i.cs] H K w := by
  rw [CallF_eq e_sl42Encode rfl]
  obtain ⟨h, h2, h3, h4, h5⟩ := id hi
  have fin : ∀ x H', Ext (H.push i.cs) H' → x = encM i → K (.I x) H' := fun x H' hE hx => hx ▸ k H' ((Ext.push _ _).trans hE)
  have e0 : (H.push i.cs).load H.n 0 = some (.I i.op) := by rw [load_push, if_pos rfl]; rfl
  have e1 : (H.push i.cs).load H.n 1 = some (.I i.rd) := by rw [load_push, if_pos rfl]; rfl
  have e3 : (H.push i.cs).load H.n 3 = some (.I i.rt) := by rw [load_push, if_pos rfl]; rfl
  have e4 : (H.push i.cs).load H.n 4 = some (.I i.imm) := by rw [load_push, if_pos rfl]; rfl
  have eN : (H.push i.cs).loadN H.n 0 5 = some i.cs := by rw [loadN_push, if_pos rfl]; rfl
  have hc : i.cs = [.I i.op, .I i.rd, .I i.rs, .I i.rt, .I i.imm] := rfl
  generalize i.cs = c at *
  simp [e0]
  refine cnd_mk (fun b => ?_) (fun b => ?_)
  · simp [b, eN]
    subst hc
    exact K_sl42Imm (i := i) hi (by omega) fun H1 hE => by simp; exact fin _ _ hE (by simp [encM, b, opcM])
  simp [b, e0]
  refine cnd_mk (fun b => ?_) (fun b => ?_)
  · simp [b, eN]
    subst hc
    exact K_sl42Imm (i := i) hi (by omega) fun H1 hE => by simp; exact fin _ _ hE (by simp [encM, b, opcM])
  simp [b, e0]
  refine cnd_mk (fun b => ?_) (fun b => ?_)
  · simp [b, eN]
    subst hc
    exact K_sl42Imm (i := i) hi (by omega) fun H1 hE => by simp; exact fin _ _ hE (by simp [encM, b, opcM])
  simp [b, e0]
  refine cnd_mk (fun b => ?_) (fun b => ?_)
  · simp [b, eN]
    subst hc
    exact K_sl42Imm (i := i) hi (by omega) fun H1 hE => by simp; exact fin _ _ hE (by simp [encM, b, opcM])
  simp [b, e0]
  refine cnd_mk (fun b => ?_) (fun b => ?_)
  · have q1 := @b7 (mod2 i.imm 4096) 5
    have q2 := @b5 (mod2 i.imm 4096) 0
    have hmid := mid_lt (n := 35) hi (by omega)
    simp (disch := omega) [b, e0, e1, e3, e4, eN, K_sl42Mod', K_sl42Put, K_sBits]
    subst hc
    refine K_sl42Mid (i := i) hi (by omega) fun H1 hE => ?_
    simp (disch := omega) [hE, K_sl42Put, K_sBits]
    exact fin _ _ hE (by simp [encM, b])
  simp [b, e0]
  refine cnd_mk (fun b => ?_) (fun b => ?_)
  · simp [b, eN]
    subst hc
    exact K_sl42Branch (i := i) hi fun H1 hE => by simp; exact fin _ _ hE (by simp [encM, b])
  simp [b, e0]
  refine cnd_mk (fun b => ?_) (fun b => ?_)
  · simp [b, eN]
    subst hc
    exact K_sl42Branch (i := i) hi fun H1 hE => by simp; exact fin _ _ hE (by simp [encM, b])
  simp [b, e0]
  refine cnd_mk (fun b => ?_) (fun b => ?_)
  · simp (disch := omega) [b, e0, e1, e3, e4, eN, K_sl42Put]
    exact fin _ _ (Ext.refl _) (by simp [encM, b])
  simp [b, e0]
  refine cnd_mk (fun b => ?_) (fun b => ?_)
  · simp [b, eN]
    subst hc
    exact K_sl42Jump (i := i) hi fun H1 hE => by simp; exact fin _ _ hE (by simp [encM, b])
  simp [b, e0]
  refine cnd_mk (fun b => ?_) (fun b => ?_)
  · simp
    exact fin _ _ (Ext.refl _) (by simp [encM, b])
  simp [e0]
  have hs := seven_lt (n := i.op) (by omega)
  have hmid := mid_lt (n := 51) hi (by omega)
  refine K_sl42Seven (by omega) fun H1 hE => ?_
  have f1 : H1.load H.n 1 = some (.I i.rd) := (load_ext hE (Nat.lt_succ_self _)).trans e1
  have f3 : H1.load H.n 3 = some (.I i.rt) := (load_ext hE (Nat.lt_succ_self _)).trans e3
  have fN : H1.loadN H.n 0 5 = some c := (loadN_ext hE (Nat.lt_succ_self _)).trans eN
  simp (disch := omega) [hE, f1, f3, fN, K_sl42Put]
  subst hc
  refine K_sl42Mid (i := i) hi (by omega) fun H2 hE2 => ?_
  have g1 : H2.load H.n 1 = some (.I i.rd) := (load_ext hE2 (Nat.lt_of_lt_of_le (Nat.lt_succ_self _) hE.1)).trans f1
  simp (disch := omega) [hE2, g1, K_sl42Put]
  exact fin _ _ (hE.trans hE2) (by unfold encM; rw [if_pos (by omega)])
theorem K_sl42Fields (h : 1 ≤ n ∧ n ≤ 21) {u : Int} (k : ∀ H', Ext H H' → K (.agg (fldM n u).cs) H') : CallF Cd f_sl42Fields [.I n, .I u] H K w := by
  rw [CallF_eq e_sl42Fields rfl]
  have h7 := @b5 u 7
  have q25 := @b7 u 25
  have q31 := @b1 u 31
  have q7 := @b1 u 7
  have q256 := @b6 u 25
  have q8 := @b4 u 8
  have q12 := @b8 u 12
  have q20 := @b1 u 20
  have q21 := @b10 u 21
  have fin : ∀ (c : List AV) G, c = (fldM n u).cs → Ext H G → K (.agg c) G := fun c G e hE => e ▸ k G hE
  clear k
  simp [K_sBits]
  repeat' (refine cnd_mk (fun b => ?_) (fun b => ?_) <;> try simp (disch := omega) [b, K_sBits, K_sSignExtend, AH.store, push_put, loadN_push])
  all_goals (refine fin _ _ ?_ (Ext.push _ _); unfold fldM Ins.cs)
  · rw [if_pos (by omega)]
  · rw [if_neg (by omega), if_pos (by omega)]
  · rw [if_neg (by omega), if_neg (by omega), if_pos (by omega)]; simp [*]
  · rw [if_neg (by omega), if_neg (by omega), if_neg (by omega), if_pos (by omega)]; simp [*]
  · rw [if_neg (by omega), if_neg (by omega), if_neg (by omega), if_pos (by omega)]; simp [*]
  · rw [if_neg (by omega), if_neg (by omega), if_neg (by omega), if_neg (by omega), if_pos (by omega)]; simp [*]
  · rw [if_neg (by omega), if_neg (by omega), if_neg (by omega), if_neg (by omega), if_neg (by omega), if_pos (by omega)]; simp [*]
  · rw [if_neg (by omega), if_neg (by omega), if_neg (by omega), if_neg (by omega), if_neg (by omega), if_neg (by omega)]
def rops : List Int := (List.range 11).map fun (n : Nat) => (n : Int) + 1
def isRop (u op : Int) : Bool := decide (bitsM u 12 3 = threeM op ∧ bitsM u 25 7 = sevenM op)
theorem rops_drop {j : Nat} (h : j < 11) : rops.drop j = ((j : Int) + 1) :: rops.drop (j + 1) := by
  have hl : j < rops.length := by simp [rops]; exact h
  rw [List.drop_eq_getElem_cons hl]
  congr 1
  simp [rops]
theorem K_sl42Op_l {u : Int} {Q : Out → Env → AH → Prop} (m j : Nat) (hm : j + m = 11) {G : AH} (hG : Ext H G)
    (h1 : ∀ e G, Ext H G → ((rops.drop j).find? (isRop u)).getD 0 = 0 → Q (.brk 1) e G)
    (h2 : ∀ x G, Ext H G → x = ((rops.drop j).find? (isRop u)).getD 0 → Q .ret [(2, .I x)] G) :
    W Cd (.loop c_sl42Op_l0) [(0, .I u), (3, .I ((j : Int) + 1))] G Q := by
  induction m generalizing j G with
  | zero =>
    rw [W_loop_as c_sl42Op_l0.eq_1]
    have hj : j = 11 := by omega
    subst hj
    simp
    exact h1 _ _ hG rfl
  | succ m ih =>
    rw [W_loop_as c_sl42Op_l0.eq_1]
    have hlt : (j : Int) + 1 ≤ 11 := by omega
    have hd := rops_drop (j := j) (by omega)
    simp (disch := omega) [hlt, K_sBits]
    refine K_sl42Three (by omega) fun H1 hE1 => ?_
    have next : ∀ G', Ext H G' → isRop u ((j : Int) + 1) = false → W Cd (.loop c_sl42Op_l0) [(0, .I u), (3, .I ((j : Int) + 1 + 1))] G' Q := fun G' hG' hn => by
      have := ih (j + 1) (by omega) (G := G') hG' (by rw [hd, List.find?_cons, hn] at h1; exact h1) (by rw [hd, List.find?_cons, hn] at h2; exact h2)
      simpa using this
    by_cases c1 : bitsM u 12 3 = threeM ((j : Int) + 1)
    · simp [c1, K_sBits]
      refine K_sl42Seven (by omega) fun H2 hE2 => ?_
      simp
      refine cnd_mk (fun c2 => ?_) (fun c2 => ?_)
      · simp
        exact h2 _ _ (hG.trans (hE1.trans hE2)) (by rw [hd, List.find?_cons]; simp [isRop, c1, c2])
      · simp (disch := omega)
        exact next _ (hG.trans (hE1.trans hE2)) (by simp [isRop, c1, c2])
    · simp (disch := omega) [c1]
      exact next _ (hG.trans hE1) (by simp [isRop, c1])
theorem K_sl42Op {u : Int} (k : ∀ H', Ext H H' → K (.I (opS u)) H') : CallF Cd f_sl42Op [.I u] H K w := by
  rw [CallF_eq e_sl42Op rfl]
  have fin : ∀ x G, x = opS u → Ext H G → K (.I x) G := fun c G e hE => e ▸ k G hE
  clear k
  simp [K_sBits]
  refine cnd_mk (fun b => ?_) (fun b => ?_)
  · have e : opS u = ((rops.drop 0).find? (isRop u)).getD 0 := by unfold opS; rw [if_pos b]; rfl
    simp
    refine K_sl42Op_l (H := H) (j := 0) 11 (by omega) (Ext.refl _) (fun e' G hG h0 => ?_) (fun x G hG hx => ?_)
    · simp; exact fin _ _ (by rw [e, h0]) hG
    · simp; exact fin _ _ (by rw [e, hx]) hG
  simp [b]
  repeat' (refine cnd_mk (fun b => ?_) (fun b => ?_) <;> try simp (disch := omega) [b, K_sBits])
  all_goals (refine fin _ _ ?_ (Ext.refl _); unfold opS; simp [*])
@[simp] theorem take5 {i : Ins} : List.take 5 i.cs = i.cs := rfl
@[simp] theorem len5 {i : Ins} : i.cs.length = 5 := rfl
@[simp] theorem drop5 {a b c d e : AV} {i : Ins} : i.cs ++ List.drop 5 [a, b, c, d, e] = i.cs := rfl
theorem zero_cs : (⟨0, 0, 0, 0, 0⟩ : Ins).cs = [.I 0, .I 0, .I 0, .I 0, .I 0] := rfl
theorem K_sInstrDecode {u : Int} (k : ∀ H', Ext H H' → K (.tup [.agg (decI u).cs, .b (okM u)]) H') : CallF Cd f_sInstrDecode [.I u] H K w := by
  rw [CallF_eq e_sInstrDecode rfl]
  have fin : ∀ x c G, x = okM u → c = (decI u).cs → Ext H G → K (.tup [.agg c, .b x]) G := fun x c G e e' hE => by subst e e'; exact k G hE
  clear k
  have hU : isU u = decide (0 ≤ u ∧ u ≤ 4294967295) := rfl
  by_cases b : 0 ≤ u ∧ u ≤ 4294967295
  · simp [K_sl6In, b]
    refine K_sl42Op fun H1 hE1 => ?_
    have g1 : H1.bk H.n = some ⟨[.I 0, .I 0, .I 0, .I 0, .I 0], true⟩ := (hE1.2 _ (Nat.lt_succ_self _)).trans push_new
    have x1 : Ext H H1 := (Ext.push _ _).trans hE1
    simp
    refine cnd_mk (fun b0 => ?_) (fun b0 => ?_)
    · simp [AH.store, g1, loadN_put]
      exact fin _ _ _ (by simp [okM, b0]) (by simp [decI, okM, b0, zero_cs]) (x1.put (Nat.le_refl _))
    simp
    have hr := ops_range b0
    refine K_sl42Op fun H2 hE2 => ?_
    simp
    refine K_sl42Fields hr fun H3 hE3 => ?_
    have hn := (fld_near (u := u) hr).1
    have x3 : Ext H1 H3 := hE2.trans hE3
    have g3 : H3.bk H.n = some ⟨[.I 0, .I 0, .I 0, .I 0, .I 0], true⟩ := (x3.2 _ (Nat.lt_of_lt_of_le (Nat.lt_succ_self _) hE1.1)).trans g1
    simp [AH.store, push_put, loadN_push]
    refine K_sl42Encode hn fun H4 hE4 => ?_
    have hlt : H.n < H3.n := Nat.lt_of_lt_of_le (Nat.lt_of_lt_of_le (Nat.lt_succ_self _) hE1.1) x3.1
    have g4 : H4.bk H.n = some ⟨[.I 0, .I 0, .I 0, .I 0, .I 0], true⟩ := (hE4.2 _ (Nat.lt_succ_of_lt hlt)).trans (push_old hlt g3)
    have g4' : H4.bk H3.n = some ⟨(fldM (opS u) u).cs, true⟩ := (hE4.2 _ (Nat.lt_succ_self _)).trans push_new
    have x4 : Ext H H4 := x1.trans (x3.trans ((Ext.push _ _).trans hE4))
    simp
    refine cnd_mk (fun c => ?_) (fun c => ?_)
    · simp [AH.store, g4, loadN_put]
      exact fin _ _ _ (by simp [okM, c]) (by simp [decI, okM, c, zero_cs]) (x4.put (Nat.le_refl _))
    · have c := Decidable.of_not_not c
      simp [AH.store, g4, loadN_put, loadN_bk g4']
      exact fin _ _ _ (by simp [okM, c, b0, hU, b]) (by simp [decI, okM, c, b0, hU, b]) (x4.put (Nat.le_refl _))
  · simp [K_sl6In, b, AH.store, push_put, loadN_push]
    exact fin _ _ _ (by simp [okM, hU, b]) (by simp [decI, okM, hU, b, zero_cs]) (Ext.push _ _)
end
end Go.Proofs.YtdgmihohmkdpjaaDoor.AM
