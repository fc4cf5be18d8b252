/-
  From the abstract machine to a law's call whose argument is a machine. No condition.
-/
import Derived.Test.YtdgmihohmkdpjaaDoorAMw
namespace Go.Proofs.YtdgmihohmkdpjaaDoor.AM
set_option linter.unusedSimpArgs false
set_option linter.unusedVariables false
open Go Go.RowKit

theorem row_argZ {w a len cap zs} {bs : Bs} (h : IsRow .i64 w a len cap zs) {j : Nat} (hj : bs[j]? = some (rowB .i64 a zs)) :
    ArgZ (heap0 w.heap.size bs) (rowV (w.heap.size + j) a len cap) (zs.take len) := by
  have hmax : zs.length ≤ 9223372036854775807 := by
    rcases h with ⟨_, _, _, rfl⟩ | ⟨x, _, _, hm, hz, _⟩
    · simp
    · simp [maxLen] at hm; omega
  have hb : w.heap.size + j < (heap0 w.heap.size bs).n := by
    have := (List.getElem?_eq_some_iff.1 hj).1
    simp only [heap0]; omega
  have hlen : (zs.take len).length ≤ 9223372036854775807 := by rw [List.length_take]; omega
  rcases row_sees h hj with ⟨e, e'⟩ | ⟨e, e'⟩ | ⟨b, rest, hbn, e, hbk⟩
  · rw [e, e']; exact ⟨rfl, by simp, rfl, fun i x hx => by simp at hx⟩
  · rw [e, e']; exact ⟨rfl, by simp, rfl, fun i x hx => by simp at hx⟩
  · rw [e]
    refine ⟨rfl, hlen, rfl, fun i x hx => ⟨b, 0, rfl, hbn, ?_⟩⟩
    have hi := (List.getElem?_eq_some_iff.1 hx).1
    unfold AH.load
    rw [hbk]
    simp only [Option.bind_some, Nat.zero_add, List.getElem?_map, List.getElem?_append_left hi, hx, Option.map_some]

theorem rowV_flat {b a len cap} : (rowV b a len cap).flat = true := by
  unfold rowV; split
  · rfl
  · split <;> rfl

theorem mach_lift {P : Program} {C : FuncId → Option AFn} {f : FuncId} (hC : Fits P 0 C) (hmix : P.follows .mixedOrders = true) {w : World} {a len cap zs a' len' cap' zs'} {pc : Int} (h : IsRow .i64 w a len cap zs) (h' : IsRow .i64 w a' len' cap' zs')
    (K : ∀ H r e pc lr le, ArgZ H r lr → ArgZ H e le → CallK C f [.agg [r, .I pc, e]] H fun v _ => v = .b true) :
    Calls P f #[.agg #[.slice a len cap, .int .i64 pc, .slice a' len' cap']] w fun e w' => e = .returned (.bool true) ∧ Below w.heap.size w w' := by
  refine lift (bs := [rowB .i64 a zs, rowB .i64 a' zs']) hC hmix (Nat.zero_le _) (fun r hr => ?_) (VRs.cons ?_ (VRs.nil _)) (K _ _ _ pc _ _ (row_argZ (j := 0) h rfl) (row_argZ (j := 1) h' rfl))
  · simp only [List.mem_cons, List.not_mem_nil, or_false] at hr
    rcases hr with rfl | rfl
    · exact row_lies h
    · exact row_lies h'
  · have q := VRs.cons (row_v (j := 0) h rfl) (VRs.cons (.i .i64 pc) (VRs.cons (row_v (bs := [rowB .i64 a zs, rowB .i64 a' zs']) (j := 1) h' rfl) (VRs.nil _)))
    exact .agg (by simp only [List.all_cons, List.all_nil, rowV_flat]; rfl) (by simp) q.2
end Go.Proofs.YtdgmihohmkdpjaaDoor.AM
