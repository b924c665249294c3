/- addr.MayDomain, local, Parse. -/
import Derived.Test.YtgjlncfhghhaeaaGreatDoorAddr2
import Derived.Test.YtgjlncfhghhaeaaGreatDoorPathSp
set_option linter.unusedSimpArgs false
set_option linter.unusedVariables false
namespace Go.Proofs.YtgjlncfhghhaeaaGreatDoor
open Go.RowKit
set_option maxHeartbeats 1000000 in
theorem mayDomain_any (s : List UInt8) (w : World) (hs : s.length ≤ 900000) (hm : MaxIs w) (hp : PowIs w) : Calls Tryz.prog 56 #[.string (S s)] w (Ret (.bool (Sp.domain s == 0)) w) := by
  have hd := domain_any s w hs hm hp
  generalize Sp.domain s = d at hd ⊢
  go_enter Tryz.func56, Tryz.ntmps56
  go_wp2_with (go_at_call 92; refine hd.mono ?_; rintro e w1 ⟨rfl, hb1⟩)
  go_ret
  exact ⟨rfl, hb1⟩
def loclPost (s : List UInt8) (w : World) (e : Ending) (w' : World) : Prop := e = .returned (.tuple #[.string (S (Sp.locl s).1), .string (S (Sp.locl s).2.1), .bool (Sp.locl s).2.2]) ∧ Below w.heap.size w w'
theorem headD_prefix (c : UInt8) (hc : c ≠ 0) (s : List UInt8) : Lib.hasPrefix s [c] = (s.headD 0 == c) := by
  cases s with
  | nil => simp [Lib.hasPrefix, List.isPrefixOf]; exact Ne.symm hc
  | cons a r =>
    rw [Bool.eq_iff_iff]; simp [Lib.hasPrefix, List.isPrefixOf]; exact eq_comm
theorem quotedGo_many : ∀ (n : Nat) (s out : List UInt8) (k : Nat), s.length ≤ n → (Sp.quotedGo s out k).2.1 ≤ k + s.length := by
  intro n
  induction n with
  | zero => intro s out k h; have : s = [] := List.length_eq_zero_iff.1 (by omega); subst this; simp [Sp.quotedGo]
  | succ n ih =>
    intro s out k h
    cases s with
    | nil => simp [Sp.quotedGo]
    | cons c r =>
      rw [quotedGo_cons]
      simp only [List.length_cons] at h ⊢
      split
      · simp
      · split
        · split
          · simp
          · rename_i d r'
            simp only [List.length_cons] at h ⊢
            split
            · have := ih r' (out ++ [d]) (k + 2) (by omega); omega
            · simp
        · split
          · have := ih r (out ++ [c]) (k + 1) (by omega); omega
          · simp
theorem quoted_many (s : List UInt8) : (Sp.quoted s).2.1 ≤ s.length := by
  cases s with
  | nil => simp [Sp.quoted]
  | cons c r =>
    simp only [Sp.quoted]
    split
    · have := quotedGo_many r.length r [] 1 (Nat.le_refl _); simp; omega
    · simp
set_option maxHeartbeats 2000000 in
set_option maxRecDepth 100000 in
theorem local_any (s : List UInt8) (w : World) (hs : s.length ≤ 900000) (ht : AtabIs w) : Calls Tryz.prog 113 #[.string (S s)] w (loclPost s w) := by
  have hpre := Tryz.strings_HasPrefix (S s) (S [34]) w
  simp only [S_toList] at hpre
  rw [headD_prefix 34 (by decide)] at hpre
  by_cases h34 : s.headD 0 = 34
  · rw [h34] at hpre
    have hq := quoted_any s w hs
    have hmany := quoted_many s
    have HS := Lib.hid (show Sp.locl s = ((Sp.quoted s).1, s.drop (Sp.quoted s).2.1, (Sp.quoted s).2.2 == 0 && !(Sp.quoted s).1.isEmpty) by unfold Sp.locl; rw [if_pos h34])
    unfold quPost at hq
    clear h34
    generalize Sp.quoted s = q at hq hmany HS
    obtain ⟨q1, q2, q3⟩ := q
    simp only at hq hmany HS
    have hm2 : (q2 : Int) ≤ (s.length : Int) := by omega
    by_cases h0 : q3 = 0
    · have e0 : (q3 == 0) = true := by simpa using h0
      cases hemp : q1.isEmpty with
      | true =>
        have HS2 := Lib.hid (show Sp.locl s = (q1, s.drop q2, false) by rw [HS.out, e0, hemp]; rfl)
        clear HS h0 hs ht
        go_enter Tryz.func113, Tryz.ntmps113
        go_wp2_with (first | (go_at_call 31; refine hpre.mono ?_; rintro e w1 ⟨rfl, rfl⟩) | (go_at_call 112; refine hq.mono ?_; rintro e w2 ⟨rfl, hb2⟩))
        go_quiet (fail)
        go_wp2
        go_ret3
        unfold loclPost
        rw [HS2.out]
        exact ⟨rfl, below_drewN hb2 _⟩
      | false =>
        have HS2 := Lib.hid (show Sp.locl s = (q1, s.drop q2, true) by rw [HS.out, e0, hemp]; rfl)
        clear HS h0 hs ht
        go_enter Tryz.func113, Tryz.ntmps113
        go_wp2_with (first | (go_at_call 31; refine hpre.mono ?_; rintro e w1 ⟨rfl, rfl⟩) | (go_at_call 112; refine hq.mono ?_; rintro e w2 ⟨rfl, hb2⟩))
        go_quiet (fail)
        go_wp2
        go_ret3
        unfold loclPost
        rw [HS2.out]
        exact ⟨rfl, below_drewN hb2 _⟩
    · have e0 : (q3 == 0) = false := by simpa using h0
      have HS2 := Lib.hid (show Sp.locl s = (q1, s.drop q2, false) by rw [HS.out, e0]; rfl)
      clear HS h0 hs ht
      go_enter Tryz.func113, Tryz.ntmps113
      go_wp2_with (first | (go_at_call 31; refine hpre.mono ?_; rintro e w1 ⟨rfl, rfl⟩) | (go_at_call 112; refine hq.mono ?_; rintro e w2 ⟨rfl, hb2⟩))
      go_quiet (fail)
      go_wp2
      go_ret3
      unfold loclPost
      rw [HS2.out]
      exact ⟨rfl, below_drewN hb2 _⟩
  · rw [show (s.headD 0 == 34) = false by simpa using h34] at hpre
    have hib := Tryz.strings_IndexByte (S s) 64 w
    simp only [S_toList] at hib
    rw [show ((64 : Int).toNat.toUInt8) = 64 by decide] at hib
    obtain ⟨i, hi, hil, HS⟩ : ∃ i : Nat, (max (Lib.indexByte s 64) 0 = (i : Int)) ∧ i ≤ s.length ∧ Hid (Sp.locl s = (s.take i, s.drop i, Sp.dotAtom (s.take i))) := by
      rcases indexByte_cases s 64 with ⟨h1, _⟩ | ⟨i, h1, h2, _⟩
      · refine ⟨0, by rw [h1]; rfl, by omega, ?_⟩
        show _ = _
        unfold Sp.locl; rw [if_neg h34, (cutB_spec 64 s).1 h1]; simp
      · refine ⟨i, by rw [h1]; omega, by omega, ?_⟩
        show _ = _
        unfold Sp.locl; rw [if_neg h34, (cutB_spec 64 s).2 i h1]
        have : min i s.length = i := by omega
        simp [this]
    have hge := Lib.indexByte_ge s 64
    have hle : Lib.indexByte s 64 ≤ 900000 := by omega
    have hda := fun W => dotAtom_any (s.take i) W (by simp; omega)
    have hiz : (i : Int) ≤ (s.length : Int) := by omega
    clear h34 hs
    generalize Lib.indexByte s 64 = j at hib hi hge hle
    go_enter Tryz.func113, Tryz.ntmps113
    go_wp2_with (first | (go_at_call 31; refine hpre.mono ?_; rintro e w1 ⟨rfl, rfl⟩) | (go_at_call 75; refine hib.mono ?_; rintro e w2 ⟨rfl, rfl⟩))
    go_region_with (go_at_call 134; refine (hda _ (by exact ht)).mono ?_; rintro e w3 ⟨rfl, hb3⟩)
    go_wp2
    go_ret3
    unfold loclPost
    rw [HS.out]
    refine ⟨rfl, ?_⟩
    first | exact hb3 | exact ⟨hb3.os, hb3.tape, hb3.output, hb3.size, hb3.block⟩
/-- A struct that two strings make. -/
def ag2 (a : Sp.Addr) : Value := .agg #[.string (S a.1), .string (S a.2)]
def parseAPost (s : List UInt8) (w : World) (e : Ending) (w' : World) : Prop := e = .returned (.tuple #[ag2 (Sp.parseA s).1, .int .i64 (Sp.parseA s).2]) ∧ Below w.heap.size w w'
set_option maxHeartbeats 2000000 in
set_option maxRecDepth 100000 in
theorem parseA_any (s : List UInt8) (w : World) (hs : s.length ≤ 900000) (ht : AtabIs w) (hm : MaxIs w) (hp : PowIs w) : Calls Tryz.prog 86 #[.string (S s)] w (parseAPost s w) := by
  have hbx : Below w.heap.size w (w.alloc (.cells #[.string ByteArray.empty, .string ByteArray.empty] 34)) := (Below.refl _ _).alloc (Nat.le_refl _) _
  have hlo := local_any s (w.alloc (.cells #[.string ByteArray.empty, .string ByteArray.empty] 34)) hs (ht.below hbx)
  unfold loclPost at hlo
  have HS := Lib.hid (show Sp.parseA s = (let l := Sp.locl s
    let at_ := l.2.1.headD 0 == 64
    let name := if at_ then l.2.1.tail else l.2.1
    let e := Sp.domain name
    if !l.2.2 || !at_ || e == 5 then (([], []), 5) else if e ≠ 0 ∨ 64 < l.1.length then (([], []), 3) else ((l.1, name), 0)) from rfl)
  have hll : (Sp.locl s).2.1.length ≤ 900000 := by
    unfold Sp.locl
    split
    · simp; omega
    · dsimp only; split
      · simp; omega
      · exact hs
  generalize Sp.locl s = l at hlo HS hll
  obtain ⟨l1, l2, l3⟩ := l
  simp only at hlo HS hll
  have hpre := Tryz.strings_CutPrefix (S l2) (S [64])
  simp only [S_toList] at hpre
  rw [headD_prefix 64 (by decide)] at hpre
  obtain ⟨name, HN, hnl, htp⟩ : ∃ name, Hid ((if (l2.headD 0 == 64) = true then l2.tail else l2) = name) ∧ name.length ≤ 900000 ∧ Lib.trimPrefix l2 [64] = name := by
    rcases prefix_one 64 l2 with ⟨t, rfl, h1, h2⟩ | ⟨h1, h2, h3⟩
    · exact ⟨t, by show _ = _; simp, by simp at hll; omega, h2⟩
    · refine ⟨l2, ?_, hll, h2⟩
      show _ = _
      rw [headD_prefix 64 (by decide)] at h1
      rw [h1]; rfl
  rw [htp] at hpre
  clear htp
  rw [HN.out] at HS
  clear HN
  have HS := HS
  generalize (l2.headD 0 == 64) = at_ at hpre HS
  have hdo := domain_any name
  generalize Sp.domain name = de at hdo HS
  have HS2 : Hid (Sp.parseA s = if (!l3 || !at_ || de == 5) = true then (([], []), 5) else if de ≠ 0 ∨ 64 < l1.length then (([], []), 3) else ((l1, name), 0)) := HS.out
  clear HS
  unfold parseAPost
  clear ht hs hll
  by_cases hbad : (!l3 || !at_ || de == 5) = true
  · have HS3 := Lib.hid (HS2.out.trans (if_pos hbad))
    clear HS2
    cases l3
    · go_enter Tryz.func86, Tryz.ntmps86
      go_wp2_with (first | (go_at_call 113; refine hlo.mono ?_; rintro e w2 ⟨rfl, hb2⟩) | (go_at_call 82; refine (hpre _).mono ?_; rintro e w2' ⟨rfl, rfl⟩) | (go_at_call 92; refine (hdo _ hnl ((hm.below hbx).below hb2) ((hp.below hbx).below hb2)).mono ?_; rintro e w3 ⟨rfl, hb3⟩; have hb23 := below_trans' hb2 hb3; have q0 : w3.cell? ⟨w.heap.size, 0, none⟩ = some (.string ByteArray.empty) := cell_below hb23 (by simp); have q1 : w3.cell? ⟨w.heap.size, 1, none⟩ = some (.string ByteArray.empty) := cell_below hb23 (by simp); have f0 : w3.frozen? ⟨w.heap.size, 0, none⟩ = false := (hb23.frozen (p := ⟨w.heap.size, 0, none⟩) (by simp)).trans (by simp); have f1 : w3.frozen? ⟨w.heap.size, 1, none⟩ = false := (hb23.frozen (p := ⟨w.heap.size, 1, none⟩) (by simp)).trans (by simp); have hz : w.heap.size < w3.heap.size := Nat.lt_of_lt_of_le (by simp) hb23.size))
      refine bodyPost_ret (v := .tuple #[ag2 ([], []), .int .i64 5]) (by simp [results, Tryz.results86, go_sem, q0, q1, f0, f1, hz, ag2] <;> rfl) rfl ⟨by rw [HS3.out], ?_⟩
      exact ((below_trans' hbx hb23).setCell (Nat.le_refl _) _).setCell (Nat.le_refl _) _
    · cases at_
      · go_enter Tryz.func86, Tryz.ntmps86
        go_wp2_with (first | (go_at_call 113; refine hlo.mono ?_; rintro e w2 ⟨rfl, hb2⟩) | (go_at_call 82; refine (hpre _).mono ?_; rintro e w2' ⟨rfl, rfl⟩) | (go_at_call 92; refine (hdo _ hnl ((hm.below hbx).below hb2) ((hp.below hbx).below hb2)).mono ?_; rintro e w3 ⟨rfl, hb3⟩; have hb23 := below_trans' hb2 hb3; have q0 : w3.cell? ⟨w.heap.size, 0, none⟩ = some (.string ByteArray.empty) := cell_below hb23 (by simp); have q1 : w3.cell? ⟨w.heap.size, 1, none⟩ = some (.string ByteArray.empty) := cell_below hb23 (by simp); have f0 : w3.frozen? ⟨w.heap.size, 0, none⟩ = false := (hb23.frozen (p := ⟨w.heap.size, 0, none⟩) (by simp)).trans (by simp); have f1 : w3.frozen? ⟨w.heap.size, 1, none⟩ = false := (hb23.frozen (p := ⟨w.heap.size, 1, none⟩) (by simp)).trans (by simp); have hz : w.heap.size < w3.heap.size := Nat.lt_of_lt_of_le (by simp) hb23.size))
        refine bodyPost_ret (v := .tuple #[ag2 ([], []), .int .i64 5]) (by simp [results, Tryz.results86, go_sem, q0, q1, f0, f1, hz, ag2] <;> rfl) rfl ⟨by rw [HS3.out], ?_⟩
        exact ((below_trans' hbx hb23).setCell (Nat.le_refl _) _).setCell (Nat.le_refl _) _
      · have e5 : (de == 5) = true := by simpa using hbad
        go_enter Tryz.func86, Tryz.ntmps86
        go_wp2_with (first | (go_at_call 113; refine hlo.mono ?_; rintro e w2 ⟨rfl, hb2⟩) | (go_at_call 82; refine (hpre _).mono ?_; rintro e w2' ⟨rfl, rfl⟩) | (go_at_call 92; refine (hdo _ hnl ((hm.below hbx).below hb2) ((hp.below hbx).below hb2)).mono ?_; rintro e w3 ⟨rfl, hb3⟩; have hb23 := below_trans' hb2 hb3; have q0 : w3.cell? ⟨w.heap.size, 0, none⟩ = some (.string ByteArray.empty) := cell_below hb23 (by simp); have q1 : w3.cell? ⟨w.heap.size, 1, none⟩ = some (.string ByteArray.empty) := cell_below hb23 (by simp); have f0 : w3.frozen? ⟨w.heap.size, 0, none⟩ = false := (hb23.frozen (p := ⟨w.heap.size, 0, none⟩) (by simp)).trans (by simp); have f1 : w3.frozen? ⟨w.heap.size, 1, none⟩ = false := (hb23.frozen (p := ⟨w.heap.size, 1, none⟩) (by simp)).trans (by simp); have hz : w.heap.size < w3.heap.size := Nat.lt_of_lt_of_le (by simp) hb23.size))
        refine bodyPost_ret (v := .tuple #[ag2 ([], []), .int .i64 5]) (by simp [results, Tryz.results86, go_sem, q0, q1, f0, f1, hz, ag2] <;> rfl) rfl ⟨by rw [HS3.out], ?_⟩
        exact ((below_trans' hbx hb23).setCell (Nat.le_refl _) _).setCell (Nat.le_refl _) _
  · have HS3' := Lib.hid (HS2.out.trans (if_neg hbad))
    clear HS2
    cases l3
    · simp at hbad
    cases at_
    · simp at hbad
    have e5 : (de == 5) = false := by simpa using hbad
    clear hbad
    by_cases h0 : de = 0
    · have e0 : (de != 0) = false := by subst h0; rfl
      by_cases hl : 64 < l1.length
      · have hl' : (64 : Int) < (l1.length : Int) := by omega
        have HS3 := Lib.hid (HS3'.out.trans (if_pos (.inr hl)))
        clear HS3' h0
        go_enter Tryz.func86, Tryz.ntmps86
        go_wp2_with (first | (go_at_call 113; refine hlo.mono ?_; rintro e w2 ⟨rfl, hb2⟩) | (go_at_call 82; refine (hpre _).mono ?_; rintro e w2' ⟨rfl, rfl⟩) | (go_at_call 92; refine (hdo _ hnl ((hm.below hbx).below hb2) ((hp.below hbx).below hb2)).mono ?_; rintro e w3 ⟨rfl, hb3⟩; have hb23 := below_trans' hb2 hb3; have q0 : w3.cell? ⟨w.heap.size, 0, none⟩ = some (.string ByteArray.empty) := cell_below hb23 (by simp); have q1 : w3.cell? ⟨w.heap.size, 1, none⟩ = some (.string ByteArray.empty) := cell_below hb23 (by simp); have f0 : w3.frozen? ⟨w.heap.size, 0, none⟩ = false := (hb23.frozen (p := ⟨w.heap.size, 0, none⟩) (by simp)).trans (by simp); have f1 : w3.frozen? ⟨w.heap.size, 1, none⟩ = false := (hb23.frozen (p := ⟨w.heap.size, 1, none⟩) (by simp)).trans (by simp); have hz : w.heap.size < w3.heap.size := Nat.lt_of_lt_of_le (by simp) hb23.size))
        refine bodyPost_ret (v := .tuple #[ag2 ([], []), .int .i64 3]) (by simp [results, Tryz.results86, go_sem, q0, q1, f0, f1, hz, ag2] <;> rfl) rfl ⟨by rw [HS3.out], ?_⟩
        exact ((below_trans' hbx hb23).setCell (Nat.le_refl _) _).setCell (Nat.le_refl _) _
      · have hl' : ¬ (64 : Int) < (l1.length : Int) := by omega
        have HS3 := Lib.hid (HS3'.out.trans (if_neg (fun h => h.elim (fun h' => h' h0) hl)))
        clear HS3' h0
        go_enter Tryz.func86, Tryz.ntmps86
        go_wp2_with (first | (go_at_call 113; refine hlo.mono ?_; rintro e w2 ⟨rfl, hb2⟩) | (go_at_call 82; refine (hpre _).mono ?_; rintro e w2' ⟨rfl, rfl⟩) | (go_at_call 92; refine (hdo _ hnl ((hm.below hbx).below hb2) ((hp.below hbx).below hb2)).mono ?_; rintro e w3 ⟨rfl, hb3⟩; have hb23 := below_trans' hb2 hb3; have q0 : w3.cell? ⟨w.heap.size, 0, none⟩ = some (.string ByteArray.empty) := cell_below hb23 (by simp); have q1 : w3.cell? ⟨w.heap.size, 1, none⟩ = some (.string ByteArray.empty) := cell_below hb23 (by simp); have f0 : w3.frozen? ⟨w.heap.size, 0, none⟩ = false := (hb23.frozen (p := ⟨w.heap.size, 0, none⟩) (by simp)).trans (by simp); have f1 : w3.frozen? ⟨w.heap.size, 1, none⟩ = false := (hb23.frozen (p := ⟨w.heap.size, 1, none⟩) (by simp)).trans (by simp); have hz : w.heap.size < w3.heap.size := Nat.lt_of_lt_of_le (by simp) hb23.size))
        refine bodyPost_ret (v := .tuple #[ag2 (l1, name), .int .i64 0]) (by simp [results, Tryz.results86, go_sem, q0, q1, f0, f1, hz, ag2] <;> rfl) rfl ⟨by rw [HS3.out], ?_⟩
        exact ((below_trans' hbx hb23).setCell (Nat.le_refl _) _).setCell (Nat.le_refl _) _
    · have e0 : (de != 0) = true := by simpa using h0
      have HS3 := Lib.hid (HS3'.out.trans (if_pos (.inl h0)))
      clear HS3' h0
      go_enter Tryz.func86, Tryz.ntmps86
      go_wp2_with (first | (go_at_call 113; refine hlo.mono ?_; rintro e w2 ⟨rfl, hb2⟩) | (go_at_call 82; refine (hpre _).mono ?_; rintro e w2' ⟨rfl, rfl⟩) | (go_at_call 92; refine (hdo _ hnl ((hm.below hbx).below hb2) ((hp.below hbx).below hb2)).mono ?_; rintro e w3 ⟨rfl, hb3⟩; have hb23 := below_trans' hb2 hb3; have q0 : w3.cell? ⟨w.heap.size, 0, none⟩ = some (.string ByteArray.empty) := cell_below hb23 (by simp); have q1 : w3.cell? ⟨w.heap.size, 1, none⟩ = some (.string ByteArray.empty) := cell_below hb23 (by simp); have f0 : w3.frozen? ⟨w.heap.size, 0, none⟩ = false := (hb23.frozen (p := ⟨w.heap.size, 0, none⟩) (by simp)).trans (by simp); have f1 : w3.frozen? ⟨w.heap.size, 1, none⟩ = false := (hb23.frozen (p := ⟨w.heap.size, 1, none⟩) (by simp)).trans (by simp); have hz : w.heap.size < w3.heap.size := Nat.lt_of_lt_of_le (by simp) hb23.size))
      refine bodyPost_ret (v := .tuple #[ag2 ([], []), .int .i64 3]) (by simp [results, Tryz.results86, go_sem, q0, q1, f0, f1, hz, ag2] <;> rfl) rfl ⟨by rw [HS3.out], ?_⟩
      exact ((below_trans' hbx hb23).setCell (Nat.le_refl _) _).setCell (Nat.le_refl _) _
end Go.Proofs.YtgjlncfhghhaeaaGreatDoor
