/- The chapter's rows of layer 6, and the decimal digits. -/
import Derived.Test.YtgjlncfhghhaeaaGreatDoorPath9
set_option linter.unusedSimpArgs false
set_option linter.unusedVariables false
namespace Go.Proofs.YtgjlncfhghhaeaaGreatDoor
open Go.RowKit
def tellT1 : List UInt8 := [60, 97, 64, 98, 46, 99, 62, 32, 83, 73, 90, 69, 61, 53]
def tellT2 : List UInt8 := [60, 64, 120, 44, 64, 121, 58, 97, 64, 98, 46, 99, 62]
def tellT4 : List UInt8 := [60, 112, 111, 115, 116, 77, 97, 115, 116, 101, 114, 62]
theorem tell1 : Sp.fromP tellT1 = (⟨false, false, [], ([97], [98, 46, 99])⟩, ⟨true, false, 5⟩, 0) := by decide +kernel
theorem tell2 : Sp.fromP tellT2 = (⟨false, false, [[120], [121]], ([97], [98, 46, 99])⟩, Sp.pars0, 0) := by decide +kernel
theorem tell3 : Sp.fromP [60, 62] = (⟨true, false, [], ([], [])⟩, Sp.pars0, 0) := by decide +kernel
theorem tell4 : Sp.toP tellT4 = (⟨false, true, [], ([], [])⟩, 0) := by decide +kernel
theorem tell5 : Sp.toP [60, 62] = (Sp.path0, 5) := by decide +kernel
theorem ParAt.mk' (w : World) (p : Sp.Pars) (e : TypeId) : ParAt (w.alloc (.cells #[.bool p.has, .bool p.eight, .int .i64 p.size] e)) w.heap.size p :=
  ⟨by simp, by simp, by simp, by simp, by simp, by simp⟩
set_option maxHeartbeats 4000000 in
set_option maxRecDepth 100000 in
theorem tells_any (w : World) (ht : AtabIs w) (hm : MaxIs w) (hp : PowIs w) (hsy : SaysIs w) : Calls Tryz.prog 13 #[] w (Ret (.bool true) w) := by
  have hfr := fun (s : List UInt8) (hs : s.length ≤ 700000) W (hW : Below w.heap.size w W) => from_any s W hs (ht.below hW) (hm.below hW) (hp.below hW) (hsy.below hW)
  have hto := fun (s : List UInt8) (hs : s.length ≤ 700000) W (hW : Below w.heap.size w W) => to_any s W hs (ht.below hW) (hm.below hW) (hp.below hW) (hsy.below hW)
  have h1 := hfr tellT1 (by decide) w (Below.refl _ _)
  have h2 := hfr tellT2 (by decide)
  have h3 := hfr [60, 62] (by decide)
  have h4 := hto tellT4 (by decide)
  have h5 := hto [60, 62] (by decide)
  unfold fromPost ag5 ag3 at h1 h2 h3
  unfold toPost ag5 at h4 h5
  rw [tell1] at h1
  rw [tell2] at h2
  rw [tell3] at h3
  rw [tell4] at h4
  rw [tell5] at h5
  simp only [Sp.pars0, Sp.path0] at h1 h2 h3 h4 h5
  clear ht hm hp hsy hfr hto
  go_enter Tryz.func13, Tryz.ntmps13
  go_wp2_with fail
  refine h1.mono ?_
  rintro e w1 ⟨v1, rfl, hr1, hb1⟩
  obtain ⟨A1, c1, rfl, -, -⟩ := hr1
  have hQ1 := below_alloc (below_alloc hb1 (.cells #[.bool false, .bool false, .slice A1 0 c1, .string (S [97]), .string (S [98, 46, 99])] 36)) (.cells #[.bool true, .bool false, .int .i64 5] 28)
  have hP1 := (PathAt.new w1 false false (.slice A1 0 c1) (S [97]) (S [98, 46, 99]) 36).below (below_alloc (Below.refl _ _) (.cells #[.bool true, .bool false, .int .i64 5] 28))
  have hR1 : ParAt ((w1.alloc (.cells #[.bool false, .bool false, .slice A1 0 c1, .string (S [97]), .string (S [98, 46, 99])] 36)).alloc (.cells #[.bool true, .bool false, .int .i64 5] 28)) (w1.heap.size + 1) ⟨true, false, 5⟩ := by
    have := ParAt.mk' (w1.alloc (.cells #[.bool false, .bool false, .slice A1 0 c1, .string (S [97]), .string (S [98, 46, 99])] 36)) ⟨true, false, 5⟩ 28
    simpa using this
  have h2a := h2 _ hQ1
  have HQ1 := Lib.hid hQ1
  have HP1 := Lib.hid hP1
  have HR1 := Lib.hid hR1
  clear hQ1 hP1 hR1 hb1 h1 h2
  go_wp2_with fail
  refine h2a.mono ?_
  rintro e w2 ⟨v2, rfl, hr2, hb2⟩
  obtain ⟨A2, c2, rfl, -, hx2⟩ := hr2
  obtain ⟨B2, o2, rfl, hB2, hc2⟩ := hx2 (by simp)
  have hy := hc2 1 [121] rfl
  have hQ2 := below_alloc (below_alloc (below_trans' HQ1.out hb2) (.cells #[.bool false, .bool false, .slice (some ⟨B2, o2, none⟩) 2 c2, .string (S [97]), .string (S [98, 46, 99])] 36)) (.cells #[.bool false, .bool false, .int .i64 0] 28)
  have HP2 := Lib.hid ((PathAt.new w2 false false (.slice (some ⟨B2, o2, none⟩) 2 c2) (S [97]) (S [98, 46, 99]) 36).below (below_alloc (Below.refl _ _) (.cells #[.bool false, .bool false, .int .i64 0] 28)))
  have hK2 : Below w2.heap.size w2 ((w2.alloc (.cells #[.bool false, .bool false, .slice (some ⟨B2, o2, none⟩) 2 c2, .string (S [97]), .string (S [98, 46, 99])] 36)).alloc (.cells #[.bool false, .bool false, .int .i64 0] 28)) := below_alloc (below_alloc (Below.refl _ _) _) _
  have hbb2 := below_trans' hb2 hK2
  have HPa := Lib.hid (HP1.out.below hbb2)
  have HRa := Lib.hid (HR1.out.below' hbb2)
  have HY0 := Lib.hid hy
  have h3a := h3 _ hQ2
  have HQ2 := Lib.hid hQ2
  clear hQ2 hb2 hbb2 hK2 hy hx2 hc2 HP1 HR1 HQ1 h2a h3
  go_wp2_with fail
  refine h3a.mono ?_
  rintro e w3 ⟨v3, rfl, hr3, hb3⟩
  obtain ⟨A3, c3, rfl, -, -⟩ := hr3
  have hK3 : Below w3.heap.size w3 ((w3.alloc (.cells #[.bool true, .bool false, .slice A3 0 c3, .string (S []), .string (S [])] 36)).alloc (.cells #[.bool false, .bool false, .int .i64 0] 28)) := below_alloc (below_alloc (Below.refl _ _) _) _
  have hbb3 := below_trans' hb3 hK3
  have hQ3 := below_trans' HQ2.out hbb3
  have HPb := Lib.hid (HPa.out.below hbb3)
  have HRb := Lib.hid (HRa.out.below' hbb3)
  have HP2b := Lib.hid (HP2.out.below hbb3)
  have HYb := Lib.hid (cell_below hbb3 (cell_below (below_alloc (below_alloc (Below.refl _ _) _) _) HY0.out))
  have HP3 := Lib.hid ((PathAt.new w3 true false (.slice A3 0 c3) (S []) (S []) 36).below (below_alloc (Below.refl _ _) (.cells #[.bool false, .bool false, .int .i64 0] 28)))
  have h4a := h4 _ hQ3
  have HQ3 := Lib.hid hQ3
  clear hQ3 hb3 hbb3 hK3 HPa HRa HP2 HQ2 h3a h4 HY0
  go_wp2_with fail
  refine h4a.mono ?_
  rintro e w4 ⟨v4, rfl, hr4, hb4⟩
  obtain ⟨A4, c4, rfl, -, -⟩ := hr4
  have hK4 : Below w4.heap.size w4 (w4.alloc (.cells #[.bool false, .bool true, .slice A4 0 c4, .string (S []), .string (S [])] 36)) := below_alloc (Below.refl _ _) _
  have hbb4 := below_trans' hb4 hK4
  have hQ4 := below_trans' HQ3.out hbb4
  have HPc := Lib.hid (HPb.out.below hbb4)
  have HRc := Lib.hid (HRb.out.below' hbb4)
  have HP2c := Lib.hid (HP2b.out.below hbb4)
  have HYc := Lib.hid (cell_below hbb4 HYb.out)
  have HP3c := Lib.hid (HP3.out.below hbb4)
  have HP4 := Lib.hid (PathAt.new w4 false true (.slice A4 0 c4) (S []) (S []) 36)
  have h5a := h5 _ hQ4
  have HQ4 := Lib.hid hQ4
  clear hQ4 hb4 hbb4 hK4 HPb HRb HP2b HYb HP3 HQ3 h4a h5
  go_wp2_with fail
  refine h5a.mono ?_
  rintro e w5 ⟨v5, rfl, hr5, hb5⟩
  obtain ⟨A5, c5, rfl, -, -⟩ := hr5
  have hbb5 := below_alloc hb5 (.cells #[.bool false, .bool false, .slice A5 0 c5, .string (S []), .string (S [])] 36)
  have HQ5 := Lib.hid (below_trans' HQ4.out hbb5)
  obtain ⟨a0, a1, a2, a3, a4, a5, a6, a7, a8, a9⟩ := HPc.out.below hb5
  obtain ⟨b0, b1, b2, b3, b4, b5⟩ := HRc.out.below' hb5
  obtain ⟨d0, d1, d2, d3, d4, d5, d6, d7, d8, d9⟩ := HP2c.out.below hb5
  obtain ⟨e0, e1, e2, e3, e4, e5, e6, e7, e8, e9⟩ := HP3c.out.below hb5
  obtain ⟨f0, f1, f2, f3, f4, f5, f6, f7, f8, f9⟩ := HP4.out.below hb5
  have hyy := cell_below hb5 HYc.out
  have l1 : w1.heap.size < w5.heap.size := World.block_lt_of_cell? w5 _ a0
  have l2 : w1.heap.size + 1 < w5.heap.size := World.block_lt_of_cell? w5 _ b0
  have l3 : w2.heap.size < w5.heap.size := World.block_lt_of_cell? w5 _ d0
  have l4 : w3.heap.size < w5.heap.size := World.block_lt_of_cell? w5 _ e0
  have l5 : w4.heap.size < w5.heap.size := World.block_lt_of_cell? w5 _ f0
  have l6 : B2 < w5.heap.size := World.block_lt_of_cell? w5 _ hyy
  clear HPc HRc HP2c HYc HP3c HP4 hb5 hbb5 HQ4 h5a a5 a6 a7 a8 a9 b3 b4 b5 d5 d6 d7 d8 d9 e5 e6 e7 e8 e9 f5 f6 f7 f8 f9
  go_wp2_with fail
  go_ret
  exact ⟨rfl, HQ5.out⟩
end Go.Proofs.YtgjlncfhghhaeaaGreatDoor
