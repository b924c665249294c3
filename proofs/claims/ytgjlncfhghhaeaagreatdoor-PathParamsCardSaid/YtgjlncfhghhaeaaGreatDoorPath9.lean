/- path.To. -/
import Derived.Test.YtgjlncfhghhaeaaGreatDoorPath8
set_option linter.unusedSimpArgs false
set_option linter.unusedVariables false
namespace Go.Proofs.YtgjlncfhghhaeaaGreatDoor
open Go.RowKit
theorem row5 {w : World} {v : Value} {xs : List (List UInt8)} (h : Row encS w v xs) {B : Nat} (hB : ∀ k, v.ownBlock = some k → k ≠ B) {a b c d e : Value} : Row encS (((((w.setCell ⟨B, 0, none⟩ a).setCell ⟨B, 1, none⟩ b).setCell ⟨B, 2, none⟩ c).setCell ⟨B, 3, none⟩ d).setCell ⟨B, 4, none⟩ e) v xs := by
  iterate 5 (refine Row.setCell ?_ _ _ _ hB)
  exact h
set_option maxHeartbeats 4000000 in
set_option maxRecDepth 100000 in
theorem to_any (s : List UInt8) (w : World) (hs : s.length ≤ 700000) (ht : AtabIs w) (hm : MaxIs w) (hp : PowIs w) (hsy : SaysIs w) : Calls Tryz.prog 12 #[.string (S s)] w (toPost s w) := by
  have hW0 : Below w.heap.size w (w.alloc (.cells #[.bool false, .bool false, .slice none 0 0, .string ByteArray.empty, .string ByteArray.empty] 36)) := below_alloc (Below.refl _ _) _
  have hpa := parseP_any s _ hs (ht.below hW0) (hm.below hW0) (hp.below hW0)
  have hA := PathAt.new w false false (.slice none 0 0) ByteArray.empty ByteArray.empty 36
  have HA := Lib.hid hA
  have HW0 := Lib.hid hW0
  clear hA hW0
  have HS := Lib.hid (show Sp.toP s = (let r := Sp.parseP s
    let e := if r.2.2 = 0 ∧ r.1.null then 5 else r.2.2
    let e := if e = 0 ∧ r.2.1 ≠ [] then (if (Sp.parseParams r.2.1).2 = 0 then 1 else (Sp.parseParams r.2.1).2) else e
    if e ≠ 0 then (Sp.path0, e) else (r.1, 0)) from rfl)
  have hl := parseP_len s
  unfold parsePPost ag5 at hpa
  generalize Sp.parseP s = r at hpa HS hl
  obtain ⟨⟨nu, po, ro, a1, a2⟩, rest, er⟩ := r
  simp only at hpa HS hl
  have HPP := Lib.hid (fun W (hW : Below w.heap.size w W) => parseParams_any rest W (by omega) (hm.below hW) (hsy.below hW))
  clear ht hm hp hsy
  go_enter Tryz.func12, Tryz.ntmps12
  go_wp2_with fail
  refine hpa.mono ?_
  rintro e w1 ⟨v, rfl, hrow, hvo, hb1⟩
  obtain ⟨A, c, rfl, hll, hx⟩ := hrow
  have HX := Lib.hid hx
  have HV0 := Lib.hid (show ∀ k, (Value.slice A ro.length c).ownBlock = some k → k ≠ w.heap.size from fun k hk => by have := hvo k hk; simp at this; omega)
  clear hx hpa hvo
  have hA := HA.out.below hb1
  have hW1 := below_trans' HW0.out hb1
  have hPPw := HPP.out _ (below_alloc hW1 (.cells #[.bool nu, .bool po, .slice A ro.length c, .string (S a1), .string (S a2)] 36))
  unfold ppPost at hPPw
  generalize Sp.parseParams rest = pp at hPPw HS
  obtain ⟨⟨ph, pe, ps⟩, pr⟩ := pp
  simp only at hPPw HS
  have HA1 := Lib.hid (hA.below (below_alloc (Below.refl _ _) (.cells #[.bool nu, .bool po, .slice A ro.length c, .string (S a1), .string (S a2)] 36)))
  have HD := Lib.hid (PathAt.new w1 nu po (.slice A ro.length c) (S a1) (S a2) 36)
  have HW1 := Lib.hid (below_alloc hW1 (.cells #[.bool nu, .bool po, .slice A ro.length c, .string (S a1), .string (S a2)] 36))
  have HW1r := Lib.hid hW1
  have hl1 : w.heap.size < w1.heap.size := hA.lt
  obtain ⟨p0, p1, p2, p3, p4, f0, f1, f2, f3, f4⟩ := hA
  clear hW1 hb1 HW0 HA
  by_cases he : er = 0
  · have he1 : (er == 0) = true := by simpa using he
    have he2 : (er != 0) = false := by subst he; rfl
    cases nu with
    | true =>
      have HF := Lib.hid (show Sp.toP s = (Sp.path0, 5) by rw [HS.out]; simp [he])
      clear he
      go_wp2_with fail
      unfold toPost
      refine bodyPost_ret (v := .tuple #[ag5 Sp.path0 (.slice none 0 0), .int .i64 5]) (by simp [results, Tryz.results12, go_sem, ag5, Sp.path0, p0, p1, p2, p3, p4, f0, f1, f2, f3, f4, hl1] <;> rfl) rfl ⟨_, by rw [HF.out], by rw [HF.out]; exact row_none _, ?_⟩
      repeat (first | with_reducible exact HW1.out | with_reducible exact HW1r.out | with_reducible refine below_alloc ?_ _ | with_reducible refine Below.setCell ?_ (by simp) _)
    | false =>
      obtain ⟨ob, hob⟩ : ∃ ob, rest.isEmpty = ob := ⟨_, rfl⟩
      cases ob with
      | true =>
        have HF := Lib.hid (show Sp.toP s = (⟨false, po, ro, (a1, a2)⟩, 0) by
          have h1 : rest = [] := by simpa using hob
          subst h1
          rw [HS.out]; simp [he])
        have HR := Lib.hid (Row.below ⟨A, c, rfl, hll, HX.out⟩ (below_alloc (Below.refl _ _) (.cells #[.bool false, .bool po, .slice A ro.length c, .string (S a1), .string (S a2)] 36)) : Row encS _ (.slice A ro.length c) ro)
        have HR0 := Lib.hid (⟨A, c, rfl, hll, HX.out⟩ : Row encS w1 (.slice A ro.length c) ro)
        clear he
        go_wp2_with fail
        unfold toPost
        refine bodyPost_ret (v := .tuple #[ag5 ⟨false, po, ro, (a1, a2)⟩ (.slice A ro.length c), .int .i64 0]) (by simp [results, Tryz.results12, go_sem, ag5, Sp.path0, p0, p1, p2, p3, p4, f0, f1, f2, f3, f4, hl1] <;> rfl) rfl ⟨_, by rw [HF.out], by rw [HF.out]; exact Row.below (row5 HR0.out HV0.out) (below_alloc (Below.refl _ _) _), ?_⟩
        repeat (first | with_reducible exact HW1.out | with_reducible exact HW1r.out | with_reducible refine below_alloc ?_ _ | with_reducible refine Below.setCell ?_ (by simp) _)
      | false =>
        have HF := Lib.hid (show Sp.toP s = (Sp.path0, if pr = 0 then 1 else pr) by
          have h1 : rest ≠ [] := by simpa using hob
          rw [HS.out]; simp [he, h1]
          by_cases h : pr = 0 <;> simp [h])
        clear he
        go_wp2_with fail
        refine hPPw.mono ?_
        rintro e w2 ⟨rfl, hb2⟩
        clear p0 p1 p2 p3 p4 f0 f1 f2 f3 f4
        have hA := HA1.out.below hb2
        have HW2 := Lib.hid (below_trans' HW1.out hb2)
        have hl3 : w.heap.size < w2.heap.size := hA.lt
        obtain ⟨p0, p1, p2, p3, p4, f0, f1, f2, f3, f4⟩ := hA
        clear HA1 HD hb2 HW1 HW1r
        by_cases hq : pr = 0
        · have hq2 : (pr == 0) = true := by simpa using hq
          have HF2 := Lib.hid (HF.out.trans (by rw [if_pos hq]))
          clear hq
          go_wp2_with fail
          unfold toPost
          refine bodyPost_ret (v := .tuple #[ag5 Sp.path0 (.slice none 0 0), .int .i64 1]) (by simp [results, Tryz.results12, go_sem, ag5, Sp.path0, p0, p1, p2, p3, p4, f0, f1, f2, f3, f4, hl3] <;> rfl) rfl ⟨_, by rw [HF2.out], by rw [HF2.out]; exact row_none _, ?_⟩
          repeat (first | with_reducible exact HW2.out | with_reducible refine below_alloc ?_ _ | with_reducible refine Below.setCell ?_ (by simp) _)
        · have hq2 : (pr == 0) = false := by simpa using hq
          have hq3 : (pr != 0) = true := by simpa using hq
          have HF2 := Lib.hid (HF.out.trans (by rw [if_neg hq]))
          clear hq
          go_wp2_with fail
          unfold toPost
          refine bodyPost_ret (v := .tuple #[ag5 Sp.path0 (.slice none 0 0), .int .i64 pr]) (by simp [results, Tryz.results12, go_sem, ag5, Sp.path0, p0, p1, p2, p3, p4, f0, f1, f2, f3, f4, hl3] <;> rfl) rfl ⟨_, by rw [HF2.out], by rw [HF2.out]; exact row_none _, ?_⟩
          repeat (first | with_reducible exact HW2.out | with_reducible refine below_alloc ?_ _ | with_reducible refine Below.setCell ?_ (by simp) _)
  · have he1 : (er == 0) = false := by simpa using he
    have he2 : (er != 0) = true := by simpa using he
    have HF := Lib.hid (show Sp.toP s = (Sp.path0, er) by rw [HS.out]; simp [he])
    clear he
    go_wp2_with fail
    unfold toPost
    refine bodyPost_ret (v := .tuple #[ag5 Sp.path0 (.slice none 0 0), .int .i64 er]) (by simp [results, Tryz.results12, go_sem, ag5, Sp.path0, p0, p1, p2, p3, p4, f0, f1, f2, f3, f4, hl1] <;> rfl) rfl ⟨_, by rw [HF.out], by rw [HF.out]; exact row_none _, ?_⟩
    repeat (first | with_reducible exact HW1.out | with_reducible exact HW1r.out | with_reducible refine below_alloc ?_ _ | with_reducible refine Below.setCell ?_ (by simp) _)
end Go.Proofs.YtgjlncfhghhaeaaGreatDoor
