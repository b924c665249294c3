/- path.From and path.To. -/
import Derived.Test.YtgjlncfhghhaeaaGreatDoorPath7
import Derived.RegionTactic
import Derived.BigRegion
import Derived.Deep.CutBlock
set_option linter.unusedSimpArgs false
set_option linter.unusedVariables false
namespace Go.Proofs.YtgjlncfhghhaeaaGreatDoor
open Go.RowKit
def ag3 (p : Sp.Pars) : Value := .agg #[.bool p.has, .bool p.eight, .int .i64 p.size]
def fromPost (s : List UInt8) (w : World) (e : Ending) (w' : World) : Prop := ∃ v, e = .returned (.tuple #[ag5 (Sp.fromP s).1 v, ag3 (Sp.fromP s).2.1, .int .i64 (Sp.fromP s).2.2]) ∧ Row encS w' v (Sp.fromP s).1.route ∧ Below w.heap.size w w'
def toPost (s : List UInt8) (w : World) (e : Ending) (w' : World) : Prop := ∃ v, e = .returned (.tuple #[ag5 (Sp.toP s).1 v, .int .i64 (Sp.toP s).2]) ∧ Row encS w' v (Sp.toP s).1.route ∧ Below w.heap.size w w'
theorem ParAt.below' {w w1 : World} {B : Nat} {p : Sp.Pars} (h : ParAt w B p) (hb : Below w.heap.size w w1) : ParAt w1 B p := by
  have hl := World.block_lt_of_cell? w _ h.c0
  have hf : ∀ o, w1.frozen? ⟨B, o, none⟩ = w.frozen? ⟨B, o, none⟩ := fun o => hb.frozen (p := ⟨B, o, none⟩) hl
  exact ⟨cell_below hb h.c0, cell_below hb h.c1, cell_below hb h.c2, (hf 0).trans h.f0, (hf 1).trans h.f1, (hf 2).trans h.f2⟩
theorem ParAt.new (w : World) (e : TypeId) : ParAt (w.alloc (.cells #[.bool false, .bool false, .int .i64 0] e)) w.heap.size Sp.pars0 :=
  ⟨by simp [Sp.pars0], by simp [Sp.pars0], by simp [Sp.pars0], by simp, by simp, by simp⟩
theorem below_drew {B : Nat} {w a : World} (h : Below B w a) : Below B w a.drew := below_drewN h 1
theorem row8 {w : World} {v : Value} {xs : List (List UInt8)} (h : Row encS w v xs) {B C : Nat} (hB : ∀ k, v.ownBlock = some k → k ≠ B) (hC : ∀ k, v.ownBlock = some k → k ≠ C) {a b c d e f g i : Value} : Row encS ((((((((w.setCell ⟨B, 0, none⟩ a).setCell ⟨B, 1, none⟩ b).setCell ⟨B, 2, none⟩ c).setCell ⟨B, 3, none⟩ d).setCell ⟨B, 4, none⟩ e).setCell ⟨C, 0, none⟩ f).setCell ⟨C, 1, none⟩ g).setCell ⟨C, 2, none⟩ i) v xs := by
  iterate 3 (refine Row.setCell ?_ _ _ _ hC)
  iterate 5 (refine Row.setCell ?_ _ _ _ hB)
  exact h
theorem parseP_len (s : List UInt8) : (Sp.parseP s).2.1.length ≤ s.length := by
  cases s with
  | nil => decide
  | cons c t =>
    by_cases h : c = 60
    · subst h
      rw [parseP_60]
      have hr := (route_len t).2.2
      split
      · rename_i k h1 h2
        unfold finOf
        split
        · simp
        · split
          · simp
          · simp only [List.length_drop, List.length_cons]; omega
      · simp
    · unfold Sp.parseP; simp only; rw [if_pos h]; simp
set_option maxHeartbeats 4000000 in
set_option maxRecDepth 100000 in
theorem from_any (s : List UInt8) (w : World) (hs : s.length ≤ 700000) (ht : AtabIs w) (hm : MaxIs w) (hp : PowIs w) (hsy : SaysIs w) : Calls Tryz.prog 11 #[.string (S s)] w (fromPost s w) := by
  have hW0 : Below w.heap.size w ((w.alloc (.cells #[.bool false, .bool false, .slice none 0 0, .string ByteArray.empty, .string ByteArray.empty] 36)).alloc (.cells #[.bool false, .bool false, .int .i64 0] 28)) := below_alloc (below_alloc (Below.refl _ _) _) _
  have hpa := parseP_any s _ hs (ht.below hW0) (hm.below hW0) (hp.below hW0)
  have hA := (PathAt.new w false false (.slice none 0 0) ByteArray.empty ByteArray.empty 36).below (below_alloc (Below.refl _ _) (.cells #[.bool false, .bool false, .int .i64 0] 28))
  have hB := ParAt.new (w.alloc (.cells #[.bool false, .bool false, .slice none 0 0, .string ByteArray.empty, .string ByteArray.empty] 36)) 28
  have hB1 : ParAt ((w.alloc (.cells #[.bool false, .bool false, .slice none 0 0, .string ByteArray.empty, .string ByteArray.empty] 36)).alloc (.cells #[.bool false, .bool false, .int .i64 0] 28)) (w.heap.size + 1) Sp.pars0 := by simpa using hB
  clear hB
  have HA := Lib.hid hA
  have HB := Lib.hid hB1
  have HW0 := Lib.hid hW0
  clear hA hB1 hW0
  have HS := Lib.hid (show Sp.fromP s = (let r := Sp.parseP s
    let e := if r.2.2 = 0 ∧ r.1.post then 5 else r.2.2
    if e ≠ 0 then (Sp.path0, Sp.pars0, e) else
    if (Sp.parseParams r.2.1).2 ≠ 0 then (Sp.path0, Sp.pars0, (Sp.parseParams r.2.1).2) else (r.1, (Sp.parseParams r.2.1).1, 0)) from rfl)
  have hl := parseP_len s
  unfold parsePPost ag5 at hpa
  generalize Sp.parseP s = r at hpa HS hl
  obtain ⟨⟨nu, po, ro, a1, a2⟩, rest, er⟩ := r
  simp only at hpa HS hl
  have HPP := Lib.hid (fun W (hW : Below w.heap.size w W) => parseParams_any rest W (by omega) (hm.below hW) (hsy.below hW))
  clear ht hm hp hsy
  go_enter Tryz.func11, Tryz.ntmps11
  go_wp2_with fail
  refine hpa.mono ?_
  rintro e w1 ⟨v, rfl, hrow, hvo, hb1⟩
  obtain ⟨A, c, rfl, hll, hx⟩ := hrow
  have HX := Lib.hid hx
  have HV0 := Lib.hid (show ∀ k, (Value.slice A ro.length c).ownBlock = some k → k ≠ w.heap.size from fun k hk => by have := hvo k hk; simp at this; omega)
  have HV1 := Lib.hid (show ∀ k, (Value.slice A ro.length c).ownBlock = some k → k ≠ w.heap.size + 1 from fun k hk => by have := hvo k hk; simp at this; omega)
  clear hx hpa hvo
  have hA := HA.out.below hb1
  have hB := HB.out.below' hb1
  have hW1 := below_trans' HW0.out hb1
  have hPPw := HPP.out _ (below_alloc hW1 (.cells #[.bool nu, .bool po, .slice A ro.length c, .string (S a1), .string (S a2)] 36))
  unfold ppPost at hPPw
  generalize Sp.parseParams rest = pp at hPPw HS
  obtain ⟨⟨ph, pe, ps⟩, pr⟩ := pp
  simp only at hPPw HS
  have HA1 := Lib.hid (hA.below (below_alloc (Below.refl _ _) (.cells #[.bool nu, .bool po, .slice A ro.length c, .string (S a1), .string (S a2)] 36)))
  have HB1 := Lib.hid (hB.below' (below_alloc (Below.refl _ _) (.cells #[.bool nu, .bool po, .slice A ro.length c, .string (S a1), .string (S a2)] 36)))
  have HD := Lib.hid (PathAt.new w1 nu po (.slice A ro.length c) (S a1) (S a2) 36)
  have HW1 := Lib.hid (below_alloc hW1 (.cells #[.bool nu, .bool po, .slice A ro.length c, .string (S a1), .string (S a2)] 36))
  have hl1 : w.heap.size < w1.heap.size := hA.lt
  have hl2 : w.heap.size + 1 < w1.heap.size := World.block_lt_of_cell? w1 _ hB.c0
  obtain ⟨p0, p1, p2, p3, p4, f0, f1, f2, f3, f4⟩ := hA
  obtain ⟨q0, q1, q2, g0, g1, g2⟩ := hB
  have HW1r := Lib.hid hW1
  clear hW1 hb1 HW0 HA HB
  by_cases he : er = 0
  · have he1 : (er == 0) = true := by simpa using he
    have he2 : (er != 0) = false := by subst he; rfl
    cases po with
    | true =>
      have HF := Lib.hid (show Sp.fromP s = (Sp.path0, Sp.pars0, 5) by rw [HS.out]; simp [he])
      clear he
      go_wp2_with fail
      unfold fromPost
      refine bodyPost_ret (v := .tuple #[ag5 Sp.path0 (.slice none 0 0), ag3 Sp.pars0, .int .i64 5]) (by simp [results, Tryz.results11, go_sem, ag5, ag3, Sp.path0, Sp.pars0, p0, p1, p2, p3, p4, f0, f1, f2, f3, f4, q0, q1, q2, g0, g1, g2, hl1, hl2] <;> rfl) rfl ⟨_, by rw [HF.out], by rw [HF.out]; exact row_none _, ?_⟩
      repeat (first | with_reducible exact HW1.out | with_reducible exact HW1r.out | with_reducible refine below_alloc ?_ _ | with_reducible refine Below.setCell ?_ (by simp) _)
    | false =>
      have HF := Lib.hid (show Sp.fromP s = (if pr ≠ 0 then (Sp.path0, Sp.pars0, pr) else (⟨nu, false, ro, (a1, a2)⟩, ⟨ph, pe, ps⟩, 0)) by rw [HS.out]; simp [he])
      clear he HS
      go_wp2_with fail
      refine hPPw.mono ?_
      rintro e w2 ⟨rfl, hb2⟩
      clear p0 p1 p2 p3 p4 f0 f1 f2 f3 f4 q0 q1 q2 g0 g1 g2
      have hA := HA1.out.below hb2
      have hB := HB1.out.below' hb2
      have hD := HD.out.below hb2
      have HW2 := Lib.hid (below_trans' HW1.out hb2)
      have hl3 : w.heap.size < w2.heap.size := hA.lt
      have hl4 : w.heap.size + 1 < w2.heap.size := World.block_lt_of_cell? w2 _ hB.c0
      have hl5 : w1.heap.size < w2.heap.size := hD.lt
      have HR := Lib.hid (Row.below (Row.below ⟨A, c, rfl, hll, HX.out⟩ (below_alloc (Below.refl _ _) (.cells #[.bool nu, .bool false, .slice A ro.length c, .string (S a1), .string (S a2)] 36))) hb2 : Row encS w2 (.slice A ro.length c) ro)
      obtain ⟨p0, p1, p2, p3, p4, f0, f1, f2, f3, f4⟩ := hA
      obtain ⟨q0, q1, q2, g0, g1, g2⟩ := hB
      obtain ⟨r0, r1, r2, r3, r4, i0, i1, i2, i3, i4⟩ := hD
      clear HA1 HB1 HD hb2 HW1 HW1r
      by_cases hq : pr = 0
      · have hq2 : (pr != 0) = false := by subst hq; rfl
        have HF2 := Lib.hid (HF.out.trans (if_neg (fun h => h hq)))
        clear hq
        go_wp2_with fail
        go_region
        go_wp2_with fail
        unfold fromPost
        refine bodyPost_ret (v := .tuple #[ag5 ⟨nu, false, ro, (a1, a2)⟩ (.slice A ro.length c), ag3 ⟨ph, pe, ps⟩, .int .i64 0]) (by simp [results, Tryz.results11, go_sem, ag5, ag3, Sp.path0, Sp.pars0, p0, p1, p2, p3, p4, f0, f1, f2, f3, f4, q0, q1, q2, g0, g1, g2, hl3, hl4] <;> rfl) rfl ⟨_, by rw [HF2.out], by rw [HF2.out]; exact Row.below (row8 HR.out HV0.out HV1.out) (below_drew (below_alloc (Below.refl _ _) _)), ?_⟩
        refine below_drew ?_
        repeat (first | with_reducible exact HW2.out | with_reducible refine below_alloc ?_ _ | with_reducible refine Below.setCell ?_ (by simp) _)
      · have hq2 : (pr != 0) = true := by simpa using hq
        have HF2 := Lib.hid (HF.out.trans (if_pos hq))
        clear hq
        go_wp2_with fail
        unfold fromPost
        refine bodyPost_ret (v := .tuple #[ag5 Sp.path0 (.slice none 0 0), ag3 Sp.pars0, .int .i64 pr]) (by simp [results, Tryz.results11, go_sem, ag5, ag3, Sp.path0, Sp.pars0, p0, p1, p2, p3, p4, f0, f1, f2, f3, f4, q0, q1, q2, g0, g1, g2, hl3, hl4] <;> rfl) rfl ⟨_, by rw [HF2.out], by rw [HF2.out]; exact row_none _, ?_⟩
        repeat (first | with_reducible exact HW2.out | with_reducible refine below_alloc ?_ _ | with_reducible refine Below.setCell ?_ (by simp) _)
  · have he1 : (er == 0) = false := by simpa using he
    have he2 : (er != 0) = true := by simpa using he
    have HF := Lib.hid (show Sp.fromP s = (Sp.path0, Sp.pars0, er) by rw [HS.out]; simp [he])
    clear he
    go_wp2_with fail
    unfold fromPost
    refine bodyPost_ret (v := .tuple #[ag5 Sp.path0 (.slice none 0 0), ag3 Sp.pars0, .int .i64 er]) (by simp [results, Tryz.results11, go_sem, ag5, ag3, Sp.path0, Sp.pars0, p0, p1, p2, p3, p4, f0, f1, f2, f3, f4, q0, q1, q2, g0, g1, g2, hl1, hl2] <;> rfl) rfl ⟨_, by rw [HF.out], by rw [HF.out]; exact row_none _, ?_⟩
    repeat (first | with_reducible exact HW1.out | with_reducible exact HW1r.out | with_reducible refine below_alloc ?_ _ | with_reducible refine Below.setCell ?_ (by simp) _)
end Go.Proofs.YtgjlncfhghhaeaaGreatDoor
