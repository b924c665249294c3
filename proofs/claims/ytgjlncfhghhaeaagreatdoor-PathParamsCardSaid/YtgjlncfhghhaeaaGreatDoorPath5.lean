/- path.route, ends, domains. -/
import Derived.Test.YtgjlncfhghhaeaaGreatDoorPath4
set_option linter.unusedSimpArgs false
set_option linter.unusedVariables false
namespace Go.Proofs.YtgjlncfhghhaeaaGreatDoor
open Go.RowKit
def endsI (s : List UInt8) : Int := match Sp.ends s with | none => -1 | some k => k
theorem idxB_index (c : UInt8) (s : List UInt8) : Lib.indexByte s c = match Sp.idxB c s with | none => -1 | some k => (k : Int) := by
  induction s with
  | nil => rfl
  | cons x r ih =>
    unfold Lib.indexByte Sp.idxB
    by_cases h : x = c
    · simp [h]
    · simp only [h, if_false]
      rw [ih]
      cases Sp.idxB c r with
      | none => simp [h]
      | some k => simp [h]
def manyOf (s : List UInt8) : Nat := if s.headD 0 = 34 then (if (Sp.quoted s).2.2 = 0 then (Sp.quoted s).2.1 else 0) else 0
theorem ends_many (s : List UInt8) : Sp.ends s = (Sp.idxB 62 (s.drop (manyOf s))).map (· + manyOf s) := rfl
theorem endsI_eq (s : List UInt8) : endsI s = if Lib.indexByte (s.drop (manyOf s)) 62 < 0 then -1 else (manyOf s : Int) + Lib.indexByte (s.drop (manyOf s)) 62 := by
  unfold endsI
  rw [ends_many, idxB_index]
  generalize manyOf s = m
  cases Sp.idxB 62 (s.drop m) with
  | none => rfl
  | some k => simp only [Option.map_some]; rw [if_neg (by omega)]; omega
theorem manyOf_le (s : List UInt8) : manyOf s ≤ s.length := by
  have := quoted_many s
  unfold manyOf
  split
  · split <;> omega
  · omega
set_option maxHeartbeats 2000000 in
theorem ends_any (s : List UInt8) (w : World) (hs : s.length ≤ 900000) : Calls Tryz.prog 84 #[.string (S s)] w (Ret (.int .i64 (endsI s)) w) := by
  have hpre := Tryz.strings_HasPrefix (S s) (S [34]) w
  simp only [S_toList] at hpre
  rw [headD_prefix 34 (by decide)] at hpre
  obtain ⟨many, hml, HE, hq⟩ : ∃ many : Nat, many ≤ s.length ∧ Hid (endsI s = if Lib.indexByte (s.drop many) 62 < 0 then -1 else (many : Int) + Lib.indexByte (s.drop many) 62) ∧ many = (if s.headD 0 = 34 then (if (Sp.quoted s).2.2 = 0 then (Sp.quoted s).2.1 else 0) else 0) :=
    ⟨manyOf s, manyOf_le s, endsI_eq s, rfl⟩
  have hib := fun W => Tryz.strings_IndexByte (S (s.drop many)) 62 W
  simp only [S_toList] at hib
  rw [show ((62 : Int).toNat.toUInt8) = 62 by decide] at hib
  have hge := Lib.indexByte_ge (s.drop many) 62
  have hle : Lib.indexByte (s.drop many) 62 ≤ 900000 := by
    rcases indexByte_cases (s.drop many) 62 with ⟨h1, _⟩ | ⟨i, h1, h2, _⟩
    · omega
    · rw [h1]; simp at h2; omega
  have hmz : (many : Int) ≤ (s.length : Int) := by omega
  have hmb : (many : Int) ≤ 900000 := by omega
  generalize Lib.indexByte (s.drop many) 62 = j at hib hge hle HE
  by_cases h34 : s.headD 0 = 34
  · rw [h34] at hpre
    rw [if_pos h34] at hq
    have hqu := quoted_any s w hs
    unfold quPost at hqu
    generalize Sp.quoted s = q at hqu hq
    obtain ⟨q1, q2, q3⟩ := q
    simp only at hqu hq
    clear h34 hml hs
    by_cases h0 : q3 = 0
    · rw [if_pos h0] at hq
      subst hq
      have e0 : (q3 == 0) = true := by simpa using h0
      clear h0
      by_cases hj : j < 0
      · have HE2 := Lib.hid (HE.out.trans (if_pos hj))
        go_enter Tryz.func84, Tryz.ntmps84
        go_wp2_with (first | (go_at_call 31; refine hpre.mono ?_; rintro e w1 ⟨rfl, rfl⟩) | (go_at_call 112; refine hqu.mono ?_; rintro e w2 ⟨rfl, hb2⟩) | (go_at_call 75; refine (hib _).mono ?_; rintro e w3 ⟨rfl, rfl⟩))
        go_ret
        exact ⟨ret_int HE2.out.symm, hb2⟩
      · have HE2 := Lib.hid (HE.out.trans (if_neg hj))
        have hj0 : 0 ≤ j := by omega
        go_enter Tryz.func84, Tryz.ntmps84
        go_wp2_with (first | (go_at_call 31; refine hpre.mono ?_; rintro e w1 ⟨rfl, rfl⟩) | (go_at_call 112; refine hqu.mono ?_; rintro e w2 ⟨rfl, hb2⟩) | (go_at_call 75; refine (hib _).mono ?_; rintro e w3 ⟨rfl, rfl⟩))
        go_ret
        exact ⟨ret_int HE2.out.symm, hb2⟩
    · rw [if_neg h0] at hq
      subst hq
      have e0 : (q3 == 0) = false := by simpa using h0
      clear h0
      by_cases hj : j < 0
      · have HE2 := Lib.hid (HE.out.trans (if_pos hj))
        go_enter Tryz.func84, Tryz.ntmps84
        go_wp2_with (first | (go_at_call 31; refine hpre.mono ?_; rintro e w1 ⟨rfl, rfl⟩) | (go_at_call 112; refine hqu.mono ?_; rintro e w2 ⟨rfl, hb2⟩) | (go_at_call 75; refine (hib _).mono ?_; rintro e w3 ⟨rfl, rfl⟩))
        go_ret
        exact ⟨ret_int HE2.out.symm, hb2⟩
      · have HE2 := Lib.hid (HE.out.trans (if_neg hj))
        have hj0 : 0 ≤ j := by omega
        go_enter Tryz.func84, Tryz.ntmps84
        go_wp2_with (first | (go_at_call 31; refine hpre.mono ?_; rintro e w1 ⟨rfl, rfl⟩) | (go_at_call 112; refine hqu.mono ?_; rintro e w2 ⟨rfl, hb2⟩) | (go_at_call 75; refine (hib _).mono ?_; rintro e w3 ⟨rfl, rfl⟩))
        go_ret
        refine ⟨ret_int ?_, hb2⟩
        rw [HE2.out]; simp
  · rw [show (s.headD 0 == 34) = false by simpa using h34] at hpre
    rw [if_neg h34] at hq
    subst hq
    clear h34 hml hs
    by_cases hj : j < 0
    · have HE2 := Lib.hid (HE.out.trans (if_pos hj))
      go_enter Tryz.func84, Tryz.ntmps84
      go_wp2_with (first | (go_at_call 31; refine hpre.mono ?_; rintro e w1 ⟨rfl, rfl⟩) | (go_at_call 75; refine (hib _).mono ?_; rintro e w3 ⟨rfl, rfl⟩))
      go_ret
      exact ⟨ret_int HE2.out.symm, Below.refl _ _⟩
    · have HE2 := Lib.hid (HE.out.trans (if_neg hj))
      have hj0 : 0 ≤ j := by omega
      go_enter Tryz.func84, Tryz.ntmps84
      go_wp2_with (first | (go_at_call 31; refine hpre.mono ?_; rintro e w1 ⟨rfl, rfl⟩) | (go_at_call 75; refine (hib _).mono ?_; rintro e w3 ⟨rfl, rfl⟩))
      go_ret
      refine ⟨ret_int ?_, Below.refl _ _⟩
      rw [HE2.out]; simp
def wrongD (d : List UInt8) : Int := (Sp.parseA (120 :: 64 :: d)).2
theorem domains_eq (l : List (List UInt8)) : Sp.domains l = if (l.map wrongD).contains 5 then 5 else if 8 < l.length then 3 else (l.map wrongD).foldl max 0 := rfl
set_option maxHeartbeats 2000000 in
set_option maxRecDepth 100000 in
theorem domains_any (v : Value) (l : List (List UInt8)) (w : World) (hr : Row encS w v l) (hln : l.length ≤ 900000) (hl : ∀ d ∈ l, d.length ≤ 800000) (ht : AtabIs w) (hm : MaxIs w) (hp : PowIs w) : Calls Tryz.prog 85 #[v] w (Ret (.int .i64 (Sp.domains l)) w) := by
  obtain ⟨A, c, rfl, hll, hx⟩ := hr
  have HX := Lib.hid hx
  have HL := Lib.hid hl
  clear hx hl hll
  obtain ⟨n, hn⟩ : ∃ n, n = l.length := ⟨_, rfl⟩
  rw [← hn] at hln ⊢
  have HN := Lib.hid hn; clear hn
  go_enter Tryz.func85, Tryz.ntmps85
  go_wp2
  go_loopw [3, 10] (fun e i wr => ∃ (j : Nat) (ej : Int), j ≤ n ∧ i = .int .i64 j ∧ e = .int .i64 ej ∧ Below w.heap.size w wr ∧ Hid (Sp.domains l = if ((l.drop j).map wrongD).contains 5 then 5 else if 8 < l.length then 3 else ((l.drop j).map wrongD).foldl max ej)) (fun _ i _ => n - (intOf i).toNat)
  case atStart => exact ⟨0, 0, Nat.zero_le _, rfl, rfl, Below.refl _ _, domains_eq l⟩
  case round =>
    obtain ⟨j, ej, hj, rfl, rfl, hbw, H⟩ := hrel
    by_cases hlt : j < n
    · have hltz : (j : Int) < (n : Int) := by omega
      have hjl : j < l.length := by rw [← HN.out]; exact hlt
      obtain ⟨b, o, hA, hbl, hc⟩ := HX.out (by intro h; rw [h] at hjl; simp at hjl)
      subst hA
      have hcell : wr.cell? ⟨b, o + j, none⟩ = some (encS l[j]) := ((bcell hbw).1 b _ hbl).trans (hc j _ (List.getElem?_eq_getElem hjl))
      have hdl := HL.out _ (List.getElem_mem hjl)
      have H1 := Lib.hid (H.out.trans (by rw [List.drop_eq_getElem_cons hjl, List.map_cons, List.contains_cons, List.foldl_cons]))
      clear hc H
      generalize l[j] = d at hcell hdl H1
      have hpa := parseA_any (120 :: 64 :: d) wr (by simp; omega) (ht.below hbw) (hm.below hbw) (hp.below hbw)
      unfold parseAPost ag2 at hpa
      have HWD := Lib.hid (show wrongD d = (Sp.parseA (120 :: 64 :: d)).2 from rfl)
      generalize Sp.parseA (120 :: 64 :: d) = q at hpa HWD
      obtain ⟨⟨q1, q2⟩, q3⟩ := q
      simp only at hpa HWD
      rw [HWD.out] at H1
      by_cases h5 : q3 = 5
      · have e5 : (q3 == 5) = true := by simpa using h5
        have H2 := Lib.hid (H1.out.trans (if_pos (by rw [h5]; simp)))
        have H5 := Lib.hid h5
        clear h5 H1
        go_wp2_with (go_at_call 86; refine hpa.mono ?_; rintro e w2 ⟨rfl, hb2⟩)
        go_ret
        refine ⟨ret_int ?_, below_alloc (below_trans' hbw hb2) _⟩
        rw [H2.out]; exact H5.out
      · have e5 : (q3 == 5) = false := by simpa using h5
        have e5' : ((5 : Int) == q3) = false := by simpa using Ne.symm h5
        have H2 := Lib.hid (H1.out.trans (by rw [e5', Bool.false_or]))
        clear h5 H1 e5'
        go_wp2_with (go_at_call 86; refine hpa.mono ?_; rintro e w2 ⟨rfl, hb2⟩)
        go_roundw
        case rel => exact ⟨j + 1, max ej q3, by omega, by go_num, rfl, below_alloc (below_trans' hbw hb2) _, H2.out⟩
        case measure => simp [intOf]; omega
    · have hltz : ¬ (j : Int) < (n : Int) := by omega
      have H1 : Hid (Sp.domains l = if 8 < l.length then 3 else ej) := H.out.trans (by rw [List.drop_eq_nil_of_le (by rw [← HN.out]; omega)]; rfl)
      clear H
      by_cases h8 : 8 < n
      · have h8' : (8 : Int) < (n : Int) := by omega
        have H2 := Lib.hid (H1.out.trans (if_pos (by rw [← HN.out]; exact h8)))
        go_wp2
        go_ret
        exact ⟨ret_int H2.out.symm, hbw⟩
      · have h8' : ¬ (8 : Int) < (n : Int) := by omega
        have H2 := Lib.hid (H1.out.trans (if_neg (by rw [← HN.out]; exact h8)))
        go_wp2
        go_ret
        exact ⟨ret_int H2.out.symm, hbw⟩
end Go.Proofs.YtgjlncfhghhaeaaGreatDoor
