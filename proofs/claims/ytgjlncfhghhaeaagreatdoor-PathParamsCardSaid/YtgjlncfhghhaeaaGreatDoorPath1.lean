/- path.parts, says. -/
import Derived.Test.YtgjlncfhghhaeaaGreatDoorAddr3
set_option linter.unusedSimpArgs false
set_option linter.unusedVariables false
namespace Go.Proofs.YtgjlncfhghhaeaaGreatDoor
open Go.RowKit
def partsPost (s : List UInt8) (w : World) (e : Ending) (w' : World) : Prop := e = .returned (.tuple #[.string (S (Sp.parts s).1), .string (S (Sp.parts s).2.1), .bool (Sp.parts s).2.2.1, .bool (Sp.parts s).2.2.2]) ∧ Below w.heap.size w w'
theorem cutB_len (c : UInt8) (s : List UInt8) : (Sp.cutB c s).1.length ≤ s.length ∧ (Sp.cutB c s).2.1.length ≤ s.length := by
  rcases indexByte_cases s c with ⟨h1, _⟩ | ⟨i, h1, _, _⟩
  · rw [(cutB_spec c s).1 h1]; simp
  · rw [(cutB_spec c s).2 i h1]; simp; omega
set_option maxHeartbeats 2000000 in
set_option maxRecDepth 100000 in
theorem parts_any (s : List UInt8) (w : World) (hs : s.length ≤ 900000) (hm : MaxIs w) : Calls Tryz.prog 42 #[.string (S s)] w (partsPost s w) := by
  have eg77 := enters_of (P := Tryz.prog) Tryz.func77 (by kernel_rfl) rfl
  have eg79 := enters_of (P := Tryz.prog) Tryz.func79 (by kernel_rfl) rfl
  have hcut := scut_any s 61 w (by omega) hm
  have hlen := cutB_len 61 s
  have HS := Lib.hid (show Sp.parts s = (Sp.low (Sp.cutB 61 s).1, (Sp.cutB 61 s).2.1, (Sp.cutB 61 s).2.2, !(Sp.cutB 61 s).1.isEmpty && (Sp.cutB 61 s).1.all Sp.letB && (!(Sp.cutB 61 s).2.2 || !(Sp.cutB 61 s).2.1.isEmpty) && !(Sp.cutB 61 s).2.1.any Sp.badB) from rfl)
  unfold partsPost
  unfold cutPost at hcut
  generalize Sp.cutB 61 s = q at hcut hlen HS
  obtain ⟨nm, vl, hs⟩ := q
  simp only at hcut hlen HS
  have hnl : nm.length ≤ 1000000 := by omega
  have hvl : vl.length ≤ 1000000 := by omega
  clear hlen hm
  cases hn0 : nm.isEmpty with
  | true =>
    have hod : True := trivial
    have hv0 : True := trivial
    have hbd : True := trivial
    go_enter Tryz.func42, Tryz.ntmps42
    go_wp2_with fail
    refine hcut.mono ?_
    rintro e w1 ⟨rfl, hb1⟩
    go_wp2_with fail
    refine (lower_any nm _ hnl).mono ?_
    rintro e w9 ⟨rfl, hb9⟩
    go_wp2_with fail
    refine bodyPost_ret (v := .tuple #[.string (S (Sp.low nm)), .string (S vl), .bool hs, .bool false]) (by simp [results, Tryz.results42, go_sem]) rfl ⟨?_, below_trans' hb1 hb9⟩
    rw [HS.out]; simp [hn0, hod, hv0, hbd]
  | false =>
    have hall : nm.all Sp.letB = !(nm.any fun c => !Sp.letB c) := by simp [List.all_eq_not_any_not]
    rw [hall] at HS
    cases hod : (nm.any fun c => !Sp.letB c) with
    | true =>
      have hv0 : True := trivial
      have hbd : True := trivial
      go_enter Tryz.func42, Tryz.ntmps42
      go_wp2_with fail
      refine hcut.mono ?_
      rintro e w1 ⟨rfl, hb1⟩
      obtain ⟨c1, W1, hcv1, hbW1, hs1, hc1, hf1⟩ := conv_bytes (P := Tryz.prog) w1 9 23 5 (S nm) Tryz.underlying9 Tryz.underlying23 Tryz.underlying5
      rw [S_toList] at hc1
      rw [S_size] at hc1 hf1 hcv1
      have hcon1 := containsFunc_B (fun c => !Sp.letB c) 77 #[] eg77 _ nm W1 (row_conv (c := c1) hnl hs1 hc1) (fun W' x _ hb' => Ret.of (odd_b x W'))
      rw [hod] at hcon1
      clear hc1 hf1
      go_wp2_with fail
      refine hcon1.mono ?_
      rintro e w2 ⟨rfl, hb2⟩
      have hb12 := below_trans' (below_trans' hb1 hbW1) hb2
      go_wp2_with fail
      refine (lower_any nm _ hnl).mono ?_
      rintro e w9 ⟨rfl, hb9⟩
      go_wp2_with fail
      refine bodyPost_ret (v := .tuple #[.string (S (Sp.low nm)), .string (S vl), .bool hs, .bool false]) (by simp [results, Tryz.results42, go_sem]) rfl ⟨?_, below_trans' hb12 hb9⟩
      rw [HS.out]; simp [hn0, hod, hv0, hbd]
    | false =>
      cases hhv : (hs && vl.isEmpty) with
      | true =>
        simp only [Bool.and_eq_true] at hhv
        obtain ⟨rfl, hv0⟩ := hhv
        have hbd : True := trivial
        go_enter Tryz.func42, Tryz.ntmps42
        go_wp2_with fail
        refine hcut.mono ?_
        rintro e w1 ⟨rfl, hb1⟩
        obtain ⟨c1, W1, hcv1, hbW1, hs1, hc1, hf1⟩ := conv_bytes (P := Tryz.prog) w1 9 23 5 (S nm) Tryz.underlying9 Tryz.underlying23 Tryz.underlying5
        rw [S_toList] at hc1
        rw [S_size] at hc1 hf1 hcv1
        have hcon1 := containsFunc_B (fun c => !Sp.letB c) 77 #[] eg77 _ nm W1 (row_conv (c := c1) hnl hs1 hc1) (fun W' x _ hb' => Ret.of (odd_b x W'))
        rw [hod] at hcon1
        clear hc1 hf1
        go_wp2_with fail
        refine hcon1.mono ?_
        rintro e w2 ⟨rfl, hb2⟩
        have hb12 := below_trans' (below_trans' hb1 hbW1) hb2
        go_wp2_with fail
        refine (lower_any nm _ hnl).mono ?_
        rintro e w9 ⟨rfl, hb9⟩
        go_wp2_with fail
        refine bodyPost_ret (v := .tuple #[.string (S (Sp.low nm)), .string (S vl), .bool true, .bool false]) (by simp [results, Tryz.results42, go_sem]) rfl ⟨?_, below_trans' hb12 hb9⟩
        rw [HS.out]; simp [hn0, hod, hv0, hbd]
      | false =>
        cases hbd : vl.any Sp.badB with
        | true =>
          cases hs with
          | true =>
            have hv0 : vl.isEmpty = false := by simpa using hhv
            go_enter Tryz.func42, Tryz.ntmps42
            go_wp2_with fail
            refine hcut.mono ?_
            rintro e w1 ⟨rfl, hb1⟩
            obtain ⟨c1, W1, hcv1, hbW1, hs1, hc1, hf1⟩ := conv_bytes (P := Tryz.prog) w1 9 23 5 (S nm) Tryz.underlying9 Tryz.underlying23 Tryz.underlying5
            rw [S_toList] at hc1
            rw [S_size] at hc1 hf1 hcv1
            have hcon1 := containsFunc_B (fun c => !Sp.letB c) 77 #[] eg77 _ nm W1 (row_conv (c := c1) hnl hs1 hc1) (fun W' x _ hb' => Ret.of (odd_b x W'))
            rw [hod] at hcon1
            clear hc1 hf1
            go_wp2_with fail
            refine hcon1.mono ?_
            rintro e w2 ⟨rfl, hb2⟩
            have hb12 := below_trans' (below_trans' hb1 hbW1) hb2
            obtain ⟨c2, W2, hcv2, hbW2, hs2, hc2, hf2⟩ := conv_bytes (P := Tryz.prog) w2 9 23 5 (S vl) Tryz.underlying9 Tryz.underlying23 Tryz.underlying5
            rw [S_toList] at hc2
            rw [S_size] at hc2 hf2 hcv2
            have hcon2 := containsFunc_B Sp.badB 79 #[] eg79 _ vl W2 (row_conv (c := c2) hvl hs2 hc2) (fun W' x _ hb' => Ret.of (bad_b x W'))
            rw [hbd] at hcon2
            clear hc2 hf2
            go_wp2_with fail
            refine hcon2.mono ?_
            rintro e w3 ⟨rfl, hb3⟩
            have hb123 := below_trans' (below_trans' hb12 hbW2) hb3
            go_wp2_with fail
            refine (lower_any nm _ hnl).mono ?_
            rintro e w9 ⟨rfl, hb9⟩
            go_wp2_with fail
            refine bodyPost_ret (v := .tuple #[.string (S (Sp.low nm)), .string (S vl), .bool true, .bool false]) (by simp [results, Tryz.results42, go_sem]) rfl ⟨?_, below_trans' hb123 hb9⟩
            rw [HS.out]; simp [hn0, hod, hv0, hbd]
          | false =>
            have hv0 : True := trivial
            go_enter Tryz.func42, Tryz.ntmps42
            go_wp2_with fail
            refine hcut.mono ?_
            rintro e w1 ⟨rfl, hb1⟩
            obtain ⟨c1, W1, hcv1, hbW1, hs1, hc1, hf1⟩ := conv_bytes (P := Tryz.prog) w1 9 23 5 (S nm) Tryz.underlying9 Tryz.underlying23 Tryz.underlying5
            rw [S_toList] at hc1
            rw [S_size] at hc1 hf1 hcv1
            have hcon1 := containsFunc_B (fun c => !Sp.letB c) 77 #[] eg77 _ nm W1 (row_conv (c := c1) hnl hs1 hc1) (fun W' x _ hb' => Ret.of (odd_b x W'))
            rw [hod] at hcon1
            clear hc1 hf1
            go_wp2_with fail
            refine hcon1.mono ?_
            rintro e w2 ⟨rfl, hb2⟩
            have hb12 := below_trans' (below_trans' hb1 hbW1) hb2
            obtain ⟨c2, W2, hcv2, hbW2, hs2, hc2, hf2⟩ := conv_bytes (P := Tryz.prog) w2 9 23 5 (S vl) Tryz.underlying9 Tryz.underlying23 Tryz.underlying5
            rw [S_toList] at hc2
            rw [S_size] at hc2 hf2 hcv2
            have hcon2 := containsFunc_B Sp.badB 79 #[] eg79 _ vl W2 (row_conv (c := c2) hvl hs2 hc2) (fun W' x _ hb' => Ret.of (bad_b x W'))
            rw [hbd] at hcon2
            clear hc2 hf2
            go_wp2_with fail
            refine hcon2.mono ?_
            rintro e w3 ⟨rfl, hb3⟩
            have hb123 := below_trans' (below_trans' hb12 hbW2) hb3
            go_wp2_with fail
            refine (lower_any nm _ hnl).mono ?_
            rintro e w9 ⟨rfl, hb9⟩
            go_wp2_with fail
            refine bodyPost_ret (v := .tuple #[.string (S (Sp.low nm)), .string (S vl), .bool false, .bool false]) (by simp [results, Tryz.results42, go_sem]) rfl ⟨?_, below_trans' hb123 hb9⟩
            rw [HS.out]; simp [hn0, hod, hv0, hbd]
        | false =>
          cases hs with
          | true =>
            have hv0 : vl.isEmpty = false := by simpa using hhv
            go_enter Tryz.func42, Tryz.ntmps42
            go_wp2_with fail
            refine hcut.mono ?_
            rintro e w1 ⟨rfl, hb1⟩
            obtain ⟨c1, W1, hcv1, hbW1, hs1, hc1, hf1⟩ := conv_bytes (P := Tryz.prog) w1 9 23 5 (S nm) Tryz.underlying9 Tryz.underlying23 Tryz.underlying5
            rw [S_toList] at hc1
            rw [S_size] at hc1 hf1 hcv1
            have hcon1 := containsFunc_B (fun c => !Sp.letB c) 77 #[] eg77 _ nm W1 (row_conv (c := c1) hnl hs1 hc1) (fun W' x _ hb' => Ret.of (odd_b x W'))
            rw [hod] at hcon1
            clear hc1 hf1
            go_wp2_with fail
            refine hcon1.mono ?_
            rintro e w2 ⟨rfl, hb2⟩
            have hb12 := below_trans' (below_trans' hb1 hbW1) hb2
            obtain ⟨c2, W2, hcv2, hbW2, hs2, hc2, hf2⟩ := conv_bytes (P := Tryz.prog) w2 9 23 5 (S vl) Tryz.underlying9 Tryz.underlying23 Tryz.underlying5
            rw [S_toList] at hc2
            rw [S_size] at hc2 hf2 hcv2
            have hcon2 := containsFunc_B Sp.badB 79 #[] eg79 _ vl W2 (row_conv (c := c2) hvl hs2 hc2) (fun W' x _ hb' => Ret.of (bad_b x W'))
            rw [hbd] at hcon2
            clear hc2 hf2
            go_wp2_with fail
            refine hcon2.mono ?_
            rintro e w3 ⟨rfl, hb3⟩
            have hb123 := below_trans' (below_trans' hb12 hbW2) hb3
            go_wp2_with fail
            refine (lower_any nm _ hnl).mono ?_
            rintro e w9 ⟨rfl, hb9⟩
            go_wp2_with fail
            refine bodyPost_ret (v := .tuple #[.string (S (Sp.low nm)), .string (S vl), .bool true, .bool true]) (by simp [results, Tryz.results42, go_sem]) rfl ⟨?_, below_trans' hb123 hb9⟩
            rw [HS.out]; simp [hn0, hod, hv0, hbd]
          | false =>
            have hv0 : True := trivial
            go_enter Tryz.func42, Tryz.ntmps42
            go_wp2_with fail
            refine hcut.mono ?_
            rintro e w1 ⟨rfl, hb1⟩
            obtain ⟨c1, W1, hcv1, hbW1, hs1, hc1, hf1⟩ := conv_bytes (P := Tryz.prog) w1 9 23 5 (S nm) Tryz.underlying9 Tryz.underlying23 Tryz.underlying5
            rw [S_toList] at hc1
            rw [S_size] at hc1 hf1 hcv1
            have hcon1 := containsFunc_B (fun c => !Sp.letB c) 77 #[] eg77 _ nm W1 (row_conv (c := c1) hnl hs1 hc1) (fun W' x _ hb' => Ret.of (odd_b x W'))
            rw [hod] at hcon1
            clear hc1 hf1
            go_wp2_with fail
            refine hcon1.mono ?_
            rintro e w2 ⟨rfl, hb2⟩
            have hb12 := below_trans' (below_trans' hb1 hbW1) hb2
            obtain ⟨c2, W2, hcv2, hbW2, hs2, hc2, hf2⟩ := conv_bytes (P := Tryz.prog) w2 9 23 5 (S vl) Tryz.underlying9 Tryz.underlying23 Tryz.underlying5
            rw [S_toList] at hc2
            rw [S_size] at hc2 hf2 hcv2
            have hcon2 := containsFunc_B Sp.badB 79 #[] eg79 _ vl W2 (row_conv (c := c2) hvl hs2 hc2) (fun W' x _ hb' => Ret.of (bad_b x W'))
            rw [hbd] at hcon2
            clear hc2 hf2
            go_wp2_with fail
            refine hcon2.mono ?_
            rintro e w3 ⟨rfl, hb3⟩
            have hb123 := below_trans' (below_trans' hb12 hbW2) hb3
            go_wp2_with fail
            refine (lower_any nm _ hnl).mono ?_
            rintro e w9 ⟨rfl, hb9⟩
            go_wp2_with fail
            refine bodyPost_ret (v := .tuple #[.string (S (Sp.low nm)), .string (S vl), .bool false, .bool true]) (by simp [results, Tryz.results42, go_sem]) rfl ⟨?_, below_trans' hb123 hb9⟩
            rw [HS.out]; simp [hn0, hod, hv0, hbd]
end Go.Proofs.YtgjlncfhghhaeaaGreatDoor
