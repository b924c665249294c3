/- path.says, the table. -/
import Derived.Test.YtgjlncfhghhaeaaGreatDoorPath2
import Derived.LaidMore
import Derived.Maps.OwnSet
set_option linter.unusedSimpArgs false
set_option linter.unusedVariables false
namespace Go.Proofs.YtgjlncfhghhaeaaGreatDoor
open Go.RowKit
def sayD : DataW (List UInt8) := .map [(.string [98, 111, 100, 121], .held [112, 111, 115, 116, 114, 105, 100, 101, 114, 47, 112, 97, 116, 104, 46, 115, 97, 121, 115, 36, 50]), (.string [115, 105, 122, 101], .held [112, 111, 115, 116, 114, 105, 100, 101, 114, 47, 112, 97, 116, 104, 46, 115, 97, 121, 115, 36, 49])]
noncomputable def sayR (W0 : World) (m : Nat) : Value → Option (DataW (List UInt8) × List MemPlace) := WideElems.elemAt (funcToken Tryz.prog) Tryz.prog W0 0 (fun _ => true) true m 77
def SaysIs (w : World) : Prop := ∃ W0 m bm n, w.cell? ⟨0, 0, none⟩ = some (.map (some bm)) ∧ w.ownsMap Tryz.prog 9 (sayR W0 (m + 1)) bm n sayD
theorem SaysIs.below {w w1 : World} (h : SaysIs w) (hb : Below w.heap.size w w1) : SaysIs w1 := by
  obtain ⟨W0, m, bm, n, hc, ho⟩ := h
  exact ⟨W0, m, bm, n, cell_below hb hc, ho.kept (grown_of_below hb none) (by simp)⟩
theorem zeroSay (w : World) : (zeroValue 77).run Tryz.prog w = .ok .nilFunc w := by kernel_rfl
theorem sayR_nil (W0 : World) (m : Nat) : sayR W0 (m + 1) .nilFunc = some (.nil, []) := by
  unfold sayR WideElems.elemAt
  rw [if_pos (by kernel_rfl)]
  simp [DataW.trod, Tryz.underlying77, Value.cells]
theorem sayD_has (name : List UInt8) : Maps.has sayD (.string name) = Sp.known name := by
  unfold Maps.has sayD Sp.known Sp.wSize Sp.wBody
  rw [Bool.eq_iff_iff]
  simp [Lit.sameKey]
  constructor
  · rintro (h | h)
    · exact .inr h.symm
    · exact .inl h.symm
  · rintro (h | h)
    · exact .inr h.symm
    · exact .inl h.symm
theorem sayR_func {W0 : World} {m : Nat} {v : Value} {b : UInt8} {r : List UInt8} {ps : List MemPlace} {f0 : FuncId} (h : sayR W0 m v = some (.held (b :: r), ps))
    (hone : ((List.range Tryz.prog.funcs.size).filter fun f => (Tryz.prog.funcs[f]?).any (·.name.toUTF8.data.toList == b :: r)) = [f0]) : v = .func (.func f0) #[] #[] := by
  unfold sayR WideElems.elemAt at h
  split at h
  · rename_i hf
    have hcells : v.cells.toList = [v] := by
      cases v with
      | agg cs => simp [Value.formed, Tryz.underlying77] at hf
      | tuple cs => simp [Value.formed] at hf
      | _ => rfl
    rw [hcells] at h
    exact func_of_trod Tryz.underlying77 hone h
  · cases h
theorem keyedStr : Maps.Keyed Tryz.prog 9 := Maps.string_keyed Tryz.underlying9
/-- A look-up in the table. -/
theorem say_look {w : World} (h : SaysIs w) : ∃ bm, w.cell? ⟨0, 0, none⟩ = some (.map (some bm)) ∧
    ∀ (W : World) (name : List UInt8), name.length ≤ 1000000 → Below w.heap.size w W → ∃ fv, (Instr.lookup 79 (.map (some bm)) (.string (S name)) true).run Tryz.prog W = .ok (.tuple #[fv, .bool (Sp.known name)]) W ∧
      (name = Sp.wSize → fv = .func (.func 192) #[] #[]) ∧ (name = Sp.wBody → fv = .func (.func 193) #[] #[]) := by
  obtain ⟨W0, m, bm, n, hc, ho⟩ := h
  refine ⟨bm, hc, fun W name hn hb => ?_⟩
  have ho' : W.ownsMap Tryz.prog 9 (sayR W0 (m + 1)) bm n sayD := ho.kept (grown_of_below hb none) (by simp)
  obtain ⟨v, ps, hrun, hv⟩ := ho'.look_ok (t := 79) keyedStr Tryz.underlying79 (zeroSay W) (sayR_nil W0 m) (WideMaps.keyOf_string_mk (s := S name) Tryz.underlying9 (by rw [S_size]; unfold maxLen; omega))
  rw [S_toList, sayD_has] at hrun
  refine ⟨v, hrun, fun e => ?_, fun e => ?_⟩
  · subst e
    rw [show sayD.atKey (.string (S Sp.wSize).data.toList) .nil = .held [112, 111, 115, 116, 114, 105, 100, 101, 114, 47, 112, 97, 116, 104, 46, 115, 97, 121, 115, 36, 49] by kernel_rfl] at hv
    exact sayR_func hv (by kernel_rfl)
  · subst e
    rw [show sayD.atKey (.string (S Sp.wBody).data.toList) .nil = .held [112, 111, 115, 116, 114, 105, 100, 101, 114, 47, 112, 97, 116, 104, 46, 115, 97, 121, 115, 36, 50] by kernel_rfl] at hv
    exact sayR_func hv (by kernel_rfl)
end Go.Proofs.YtgjlncfhghhaeaaGreatDoor
