/- The row of PathParams: what the condition gives the walk. -/
import Derived.Test.YtgjlncfhghhaeaaGreatDoorRows
import Derived.Test.YtgjlncfhghhaeaaGreatDoorLaw6e
import Derived.ProofKit
import Derived.OpenShut
import Derived.LaidMore
import Derived.LaidSub
import Derived.Lay
import Derived.HandedShaped
import Derived.Lib.LaidU8
import Derived.Stop.Joined
set_option linter.unusedSimpArgs false
set_option linter.unusedVariables false
namespace Go.Proofs.YtgjlncfhghhaeaaGreatDoor
open Go.ChangeShapes Go.WideShapes Go.ChangeAt Go.WideMaps Go.WideElems Go.RowKit
theorem tab_of {P : Program} {W : World} {name : String} {d : DataW Unit} {k : IntKind} {zs : List Int} {g : Nat} {t e : TypeId} {n : Nat} (hr : Lib.VarReads P W name d) (hd : d = Lib.tabData k zs)
    (hg : P.globalNamed name = some g) (hty : (P.globals[g]?).map (·.type) = some t) (ht : P.underlying t = some (.array n e)) (he : P.underlying e = some (.int k)) (hce : P.cellsOf e = 1) (hct : P.cellsOf t = n) : Lib.TabIs P W name k zs := by
  obtain ⟨g', t', cs, fuel, p, hg', ht', hvar, hx⟩ := hr
  subst hd
  obtain rfl := Option.some.inj (hg.symm.trans hg')
  obtain rfl := Option.some.inj (hty.symm.trans ht')
  unfold Lib.TabIs
  rw [hvar, ← Lib.cells_of_tab ht he hce hct hx]
theorem atab_of {W : World} (h : Lib.VarReads Tryz.prog W "postrider/text.atext" Rows.laid_postrider_text_atext) : AtabIs W := by
  have ht := tab_of (k := .u32) (zs := [0, 2751442170, 3355443198, 2147483647]) h (by kernel_rfl) (show Tryz.prog.globalNamed "postrider/text.atext" = some 8 by kernel_rfl) (t := 196) (by kernel_rfl) Tryz.underlying196 Tryz.underlying22 (by kernel_rfl) (by kernel_rfl)
  have hv : ∀ j : Nat, W.cell? ⟨8, j, none⟩ = _ := World.var?_cell (show Tryz.prog.globalNamed "postrider/text.atext" = some 8 by kernel_rfl) ht
  exact ⟨(hv 0).trans rfl, (hv 1).trans rfl, (hv 2).trans rfl, (hv 3).trans rfl⟩
theorem pow_of {W : World} (h : Lib.VarReads Tryz.prog W "internal/strconv.uint64pow10" Rows.laid_internal_strconv_uint64pow10) : PowIs W :=
  tab_of h (by kernel_rfl) (show Tryz.prog.globalNamed "internal/strconv.uint64pow10" = some 9 by kernel_rfl) (t := 204) (by kernel_rfl) Tryz.underlying204 Tryz.underlying143 (by kernel_rfl) (by kernel_rfl)
def sayIn : DataW Unit := match (Rows.laid_postrider_path_says : DataW Unit) with
  | .iface _ d => d
  | d => d
set_option maxRecDepth 100000 in
theorem says_of {W : World} (h : funcsAt Tryz.prog W "postrider/path.says" sayIn) : SaysIs W := by
  obtain ⟨g, t, cs, fuel, p, hg, ht, hv, hd⟩ := h
  obtain rfl := Option.some.inj ((show Tryz.prog.globalNamed "postrider/path.says" = some 0 by kernel_rfl).symm.trans hg)
  obtain rfl := Option.some.inj ((show (Tryz.prog.globals[0]?).map (·.type) = some 79 by kernel_rfl).symm.trans ht)
  rw [show sayIn.funcsOut = sayD by kernel_rfl] at hd
  rcases open_map Tryz.underlying79 hd with ⟨_, hx⟩ | ⟨bm, es, clock, m, rfl, hcs, hb, _, F, hx⟩
  · simp [sayD] at hx
  · simp only [Prod.mk.injEq] at hx
    refine ⟨W, m, bm, es.size, ?_, ?_⟩
    · have := World.var?_cell hg hv 0
      rw [Array.eq_one_of_toList hcs] at this
      simpa using this
    · rw [hx.1]
      refine World.ownsMap_of_fit hb F (fun x _ z hz => ?_)
      unfold sayR WideElems.elemAt
      unfold WideElems.elemAt at hz
      split at hz
      · rename_i hf
        rw [if_pos hf]
        exact DataW.trod_le (Nat.le_add_right m 1) hz
      · cases hz
theorem of_laid {W : World} (h : laidMetH Tryz.prog Rows.pathParamsRow.laid W) : AtabIs W ∧ PowIs W ∧ SaysIs W := by
  have hp := (laidMetH_iff.1 h).1
  refine ⟨atab_of (Lib.laidMet.reads hp (List.mem_filter.2 ⟨?_, rfl⟩)), pow_of (Lib.laidMet.reads hp (List.mem_filter.2 ⟨?_, rfl⟩)), says_of (h.funcs ?_)⟩
  · exact .tail _ (.tail _ (.tail _ (.tail _ (.head _))))
  · exact .tail _ (.tail _ (.head _))
  · exact .tail _ (.tail _ (.tail _ (.tail _ (.tail _ (.head _)))))
theorem max_of {W : World} (h : W.ShapedOpen Tryz.prog) : MaxIs W :=
  cell_of_shapedOpen_int (zero := #[.int .i64 0]) (t := 3) h (of_decide_eq_true (by kernel_rfl)) (by kernel_rfl) rfl (by kernel_rfl) (by kernel_rfl) Tryz.underlying3
end Go.Proofs.YtgjlncfhghhaeaaGreatDoor
