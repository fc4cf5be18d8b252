/-
  The law FnExactConstInstrs: the lists are the same, and the memory is new. No condition.
-/
import Derived.Test.YtdgmihohmkdpjaaDoorAMt
namespace Go.Proofs.YtdgmihohmkdpjaaDoor.AM
set_option linter.unusedSimpArgs false
set_option linter.unusedVariables false
open Go

theorem put_put {H : AH} {b : Nat} {x y : Option Blk} : (H.put b x).put b y = H.put b y := by
  unfold AH.put; congr 1; funext c; by_cases h : c = b <;> simp [h]
theorem ext_pp {H : AH} {a b : List AV} : Ext H ((H.push a).push b) = True := eq_true ((Ext.push _ _).trans (Ext.push _ _))

section
variable {H : AH} {K : AV → AH → Prop} {n rd rs imm : Int} {w : Fk K}
theorem NewI.sees {H : AH} {b : Nat} {cap : ACap} {l : List Ins} (hb : b < H.n) (h : H.bk b = some ⟨(l.map Ins.cs).flatten, true⟩) (hl : l.length ≤ 8589934592) : SeesI H (.sl b 0 l.length cap) l := by
  refine ⟨by simp [alen], by simpa using hl, fun i x hx => ⟨b, 0, by simp [asSl], hb, ?_⟩⟩
  unfold AH.loadN
  rw [h, Nat.zero_add]
  exact seg_flatten (fun y hy => by obtain ⟨j, _, rfl⟩ := List.mem_map.1 hy; rfl) hx
end
end Go.Proofs.YtdgmihohmkdpjaaDoor.AM
