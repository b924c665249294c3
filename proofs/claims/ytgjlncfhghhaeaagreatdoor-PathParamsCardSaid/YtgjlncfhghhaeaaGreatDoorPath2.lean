/- path.says. -/
import Derived.Test.YtgjlncfhghhaeaaGreatDoorPath1
set_option linter.unusedSimpArgs false
set_option linter.unusedVariables false
namespace Go.Proofs.YtgjlncfhghhaeaaGreatDoor
open Go.RowKit
/-- Parameters in memory. -/
structure ParAt (w : World) (B : Nat) (p : Sp.Pars) : Prop where
  c0 : w.cell? ⟨B, 0, none⟩ = some (.bool p.has)
  c1 : w.cell? ⟨B, 1, none⟩ = some (.bool p.eight)
  c2 : w.cell? ⟨B, 2, none⟩ = some (.int .i64 p.size)
  f0 : w.frozen? ⟨B, 0, none⟩ = false
  f1 : w.frozen? ⟨B, 1, none⟩ = false
  f2 : w.frozen? ⟨B, 2, none⟩ = false
theorem ParAt.lt {w : World} {B : Nat} {p : Sp.Pars} (h : ParAt w B p) : B < w.heap.size := World.block_lt_of_cell? w _ h.c0
theorem ParAt.kept {w w1 : World} {B : Nat} {p : Sp.Pars} {row : Option Nat} (h : ParAt w B p) (hg : w.grownBy w1 row) (hne : row ≠ some B) : ParAt w1 B p := by
  have hb : w1.heap[B]? = w.heap[B]? := hg.block B h.lt (Ne.symm hne)
  have hc : ∀ o, w1.cell? ⟨B, o, none⟩ = w.cell? ⟨B, o, none⟩ := fun o => World.cell?_of_block (w := w) hb
  have hf : ∀ o, w1.frozen? ⟨B, o, none⟩ = w.frozen? ⟨B, o, none⟩ := fun o => World.frozen?_of_block (w := w) hb
  exact ⟨(hc 0).trans h.c0, (hc 1).trans h.c1, (hc 2).trans h.c2, (hf 0).trans h.f0, (hf 1).trans h.f1, (hf 2).trans h.f2⟩
theorem grown_of_below {w w1 : World} (h : Below w.heap.size w w1) (row : Option Nat) : w.grownBy w1 row := ⟨h.os, h.tape, h.output, h.size, fun i hi _ => h.block i hi⟩
theorem ParAt.below {w w1 : World} {B : Nat} {p : Sp.Pars} (h : ParAt w B p) (hb : Below w.heap.size w w1) : ParAt w1 B p := h.kept (grown_of_below hb none) (by simp)
theorem grown_setCell (w : World) (B o : Nat) (v : Value) : w.grownBy (w.setCell ⟨B, o, none⟩ v) (some B) :=
  ⟨rfl, rfl, rfl, by simp, fun i _ hne => Below.heap_setCell w _ _ i (fun h => hne (by simp at h; rw [h]))⟩
theorem grown_trans {a b c : World} {row : Option Nat} (h : a.grownBy b row) (k : b.grownBy c row) : a.grownBy c row :=
  ⟨k.os.trans h.os, k.tape.trans h.tape, k.output.trans h.output, Nat.le_trans h.size k.size, fun i hi hne => (k.block i (Nat.lt_of_lt_of_le hi h.size) hne).trans (h.block i hi hne)⟩
def sayPost (x : Sp.Pars × Int) (B : Nat) (w : World) (e : Ending) (w' : World) : Prop := e = .returned (.int .i64 x.2) ∧ w.grownBy w' (some B) ∧ ParAt w' B x.1
set_option maxHeartbeats 1000000 in
theorem saySize_any (p : Sp.Pars) (B : Nat) (v : List UInt8) (w : World) (hv : v.length ≤ 1000000) (h : ParAt w B p) : Calls Tryz.prog 192 #[.pointer (some ⟨B, 0, none⟩), .string (S v)] w (sayPost (Sp.saySize p v) B w) := by
  have hn := number_any v 9 (w.setCell ⟨B, 0, none⟩ (.bool true)) hv (.inr rfl)
  obtain ⟨c0, c1, c2, f0, f1, f2⟩ := h
  have hlt := World.block_lt_of_cell? w _ c0
  unfold sayPost Sp.saySize
  unfold numPost at hn
  generalize Sp.number v 9 = q at hn
  obtain ⟨n, er⟩ := q
  simp only at hn ⊢
  have d0 : (w.setCell ⟨B, 0, none⟩ (.bool true)).cell? ⟨B, 0, none⟩ = some (.bool true) := World.cell?_setCell_same _ _ _ c0
  have d1 : (w.setCell ⟨B, 0, none⟩ (.bool true)).cell? ⟨B, 1, none⟩ = some (.bool p.eight) := (World.cell?_setCell_other _ _ _ _ (by simp)).trans c1
  have d2 : (w.setCell ⟨B, 0, none⟩ (.bool true)).cell? ⟨B, 2, none⟩ = some (.int .i64 p.size) := (World.cell?_setCell_other _ _ _ _ (by simp)).trans c2
  have hgr := grown_setCell w B 0 (.bool true)
  go_enter Tryz.func192, Tryz.ntmps192
  go_wp2_with fail
  refine hn.mono ?_
  rintro e w1 ⟨rfl, hb1⟩
  have e0 : w1.cell? ⟨B, 0, none⟩ = some (.bool true) := cell_below hb1 d0
  have e1 : w1.cell? ⟨B, 1, none⟩ = some (.bool p.eight) := cell_below hb1 d1
  have e2 : w1.cell? ⟨B, 2, none⟩ = some (.int .i64 p.size) := cell_below hb1 d2
  have g0 : w1.frozen? ⟨B, 0, none⟩ = false := (hb1.frozen (p := ⟨B, 0, none⟩) (by simpa using hlt)).trans (by simpa using f0)
  have g1 : w1.frozen? ⟨B, 1, none⟩ = false := (hb1.frozen (p := ⟨B, 1, none⟩) (by simpa using hlt)).trans (by simpa using f1)
  have g2 : w1.frozen? ⟨B, 2, none⟩ = false := (hb1.frozen (p := ⟨B, 2, none⟩) (by simpa using hlt)).trans (by simpa using f2)
  clear d0 d1 d2 c0 c1 c2 f0 f1 f2
  go_wp2_with fail
  go_ret
  refine ⟨rfl, grown_trans (grown_trans hgr (grown_of_below hb1 _)) (grown_setCell w1 B 2 _), ?_⟩
  exact ⟨(World.cell?_setCell_other _ _ _ _ (by simp)).trans e0, (World.cell?_setCell_other _ _ _ _ (by simp)).trans e1, World.cell?_setCell_same _ _ _ e2, by simpa using g0, by simpa using g1, by simpa using g2⟩
def w8bytes : List UInt8 := [56, 98, 105, 116, 109, 105, 109, 101]
set_option maxHeartbeats 1000000 in
theorem sayBody_any (p : Sp.Pars) (B : Nat) (v : List UInt8) (w : World) (hv : v.length ≤ 1000000) (h : ParAt w B p) : Calls Tryz.prog 193 #[.pointer (some ⟨B, 0, none⟩), .string (S v)] w (sayPost (Sp.sayBody p v) B w) := by
  have hs8 := same_any v [56, 98, 105, 116, 109, 105, 109, 101] w hv (by decide)
  have hs7 := fun W => same_any v [55, 98, 105, 116] W hv (by decide)
  have hlt := h.lt
  unfold sayPost Sp.sayBody
  rw [show Sp.low [56, 98, 105, 116, 109, 105, 109, 101] = Sp.w8 by decide] at hs8
  simp only [show Sp.low [55, 98, 105, 116] = Sp.w7 by decide] at hs7
  have hbne : (Sp.low v != Sp.w7) = !(Sp.low v == Sp.w7) := rfl
  rw [hbne]
  generalize (Sp.low v == Sp.w8) = b8 at hs8
  generalize (Sp.low v == Sp.w7) = b7 at hs7
  clear hbne
  have hsto : ∀ w1, Below w.heap.size w w1 → ParAt (w1.setCell ⟨B, 1, none⟩ (.bool b8)) B { p with eight := b8 } := fun w1 hb => by
    obtain ⟨e0, e1, e2, g0, g1, g2⟩ := h.below hb
    exact ⟨(World.cell?_setCell_other _ _ _ _ (by simp)).trans e0, World.cell?_setCell_same _ _ _ e1, (World.cell?_setCell_other _ _ _ _ (by simp)).trans e2, by simpa using g0, by simpa using g1, by simpa using g2⟩
  have HP := Lib.hid h
  have HS := Lib.hid hsto
  clear h hsto
  cases b8
  all_goals
    go_enter Tryz.func193, Tryz.ntmps193
    go_wp2_with fail
    refine hs8.mono ?_
    rintro e w1 ⟨rfl, hb1⟩
    have e1 := (HP.out.below hb1).c1
    have g1 := (HP.out.below hb1).f1
    have hpa := HS.out w1 hb1
    have hd := hpa.c1
    have HPA := Lib.hid hpa
    clear hpa
  · cases b7
    all_goals
      go_wp2_with fail
      refine (hs7 _).mono ?_
      rintro e w2 ⟨rfl, hb2⟩
      go_wp2_with fail
      go_ret
      exact ⟨rfl, grown_trans (grown_trans (grown_of_below hb1 _) (grown_setCell w1 B 1 _)) (grown_of_below hb2 _), HPA.out.below hb2⟩
  · go_wp2_with fail
    go_ret
    exact ⟨rfl, grown_trans (grown_of_below hb1 _) (grown_setCell w1 B 1 _), HPA.out⟩
end Go.Proofs.YtgjlncfhghhaeaaGreatDoor
