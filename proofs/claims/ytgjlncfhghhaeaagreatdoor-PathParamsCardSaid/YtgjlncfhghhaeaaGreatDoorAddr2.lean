/- addr.domain. -/
import Derived.Test.YtgjlncfhghhaeaaGreatDoorAddr1
set_option linter.unusedSimpArgs false
set_option linter.unusedVariables false
namespace Go.Proofs.YtgjlncfhghhaeaaGreatDoor
open Go.RowKit
set_option maxHeartbeats 1000000 in
theorem notIs_any (g : Nat) (b : Bool) (s : List UInt8) (B : Nat) (W : World) (eg : ∀ args w, (callFunc g args).run Tryz.prog w = .ok (.enter g args) w)
    (hcell : W.cell? ⟨B, 0, none⟩ = some (.func (.func g) #[] #[])) (hcall : Calls Tryz.prog g #[.string (S s)] W (Ret (.bool b) W)) :
    Calls Tryz.prog 116 #[.string (S s), .pointer (some ⟨B, 0, none⟩)] W (Ret (.bool (!b)) W) := by
  go_enter Tryz.func116, Tryz.ntmps116
  go_wp2_with (go_at_fn g; refine hcall.mono ?_; rintro e w' ⟨rfl, hb1⟩)
  go_ret
  exact ⟨rfl, hb1⟩
set_option maxHeartbeats 1000000 in
theorem all_any (g : Nat) (p : List UInt8 → Bool) (s : List UInt8) (w : World) (hs : s.length ≤ 1000000) (hm : MaxIs w) (eg : ∀ args w, (callFunc g args).run Tryz.prog w = .ok (.enter g args) w)
    (hp : Gives Tryz.prog g #[] encS p (Sp.split 46 s) w) : Calls Tryz.prog 114 #[.string (S s), .func (.func g) #[] #[]] w (Ret (.bool ((Sp.split 46 s).all p)) w) := by
  have hbx : Below w.heap.size w (w.alloc (.cells #[.func (.func g) #[] #[]] 95)) := (Below.refl _ _).alloc (Nat.le_refl _) _
  have hsp := ssplit_any s 46 (w.alloc (.cells #[.func (.func g) #[] #[]] 95)) hs (hm.below hbx)
  go_enter Tryz.func114, Tryz.ntmps114
  go_wp2_with fail
  refine hsp.mono ?_
  rintro e w2 ⟨v, rfl, hrow, hb2⟩
  have hbw2 := below_trans' hbx hb2
  have hcon := containsFunc_S (fun p' => !p p') 116 #[.pointer (some ⟨w.heap.size, 0, none⟩)] (enters_of Tryz.func116 (by kernel_rfl) rfl) v (Sp.split 46 s) w2 hrow (fun W' x hx hb' =>
    notIs_any g (p x) x w.heap.size W' eg (cell_below (below_trans' hb2 hb') (by simp)) (hp W' x hx (below_trans' hbw2 hb')))
  clear hrow hsp hp
  go_wp2_with fail
  refine hcon.mono ?_
  rintro e w3 ⟨rfl, hb3⟩
  go_wp2_with fail
  go_ret
  refine ⟨ret_bool ?_, below_trans' hbw2 hb3⟩
  simp [List.all_eq_not_any_not]
set_option maxHeartbeats 1000000 in
theorem short_any (s : List UInt8) (w : World) (hs : s.length ≤ 1000000) : Calls Tryz.prog 121 #[.string (S s)] w (Ret (.bool (decide (s.length ≤ 63))) w) := by
  go_enter Tryz.func121, Tryz.ntmps121
  go_wp2
  go_ret
  refine ⟨ret_bool ?_, Below.refl _ _⟩
  rw [Bool.eq_iff_iff]; simp; omega
theorem prefix_one (c : UInt8) (s : List UInt8) : (∃ t, s = c :: t ∧ Lib.hasPrefix s [c] = true ∧ Lib.trimPrefix s [c] = t) ∨ (Lib.hasPrefix s [c] = false ∧ Lib.trimPrefix s [c] = s ∧ ∀ t, s ≠ c :: t) := by
  cases s with
  | nil => right; simp [Lib.hasPrefix, Lib.trimPrefix]
  | cons a r =>
    by_cases h : a = c
    · left; subst h; exact ⟨r, rfl, by simp [Lib.hasPrefix], by simp [Lib.hasPrefix, Lib.trimPrefix]⟩
    · right
      have h' : ¬ c = a := fun e => h e.symm
      refine ⟨by simp [Lib.hasPrefix, List.isPrefixOf, h'], by simp [Lib.hasPrefix, Lib.trimPrefix, List.isPrefixOf, h'], fun t e => h (List.cons.inj e).1⟩
theorem suffix_one (c : UInt8) (hc : c ≠ 0) (s : List UInt8) : (s.getLastD 0 = c ∧ Lib.hasSuffix s [c] = true ∧ Lib.trimSuffix s [c] = s.dropLast) ∨ (s.getLastD 0 ≠ c ∧ Lib.hasSuffix s [c] = false ∧ Lib.trimSuffix s [c] = s) := by
  rcases List.eq_nil_or_concat s with rfl | ⟨r, a, rfl⟩
  · right; exact ⟨by simpa using Ne.symm hc, by simp [Lib.hasSuffix], by simp [Lib.hasSuffix, Lib.trimSuffix]⟩
  · rw [List.concat_eq_append]
    have hsx : Lib.hasSuffix (r ++ [a]) [c] = (a == c) := by
      unfold Lib.hasSuffix
      rw [Bool.eq_iff_iff, List.isSuffixOf_iff_suffix]
      constructor
      · rintro ⟨t, ht⟩
        have := (List.append_inj' ht rfl).2
        simp at this; simp [this]
      · intro h; simp at h; subst h; exact ⟨r, rfl⟩
    by_cases h : a = c
    · left; subst h
      refine ⟨by simp, by rw [hsx]; simp, ?_⟩
      unfold Lib.trimSuffix; rw [hsx]; simp [List.dropLast_eq_take]
    · right
      refine ⟨by simpa using h, by rw [hsx]; simpa using h, ?_⟩
      unfold Lib.trimSuffix; rw [hsx, if_neg (by simpa using h)]
set_option maxHeartbeats 2000000 in
set_option maxRecDepth 100000 in
theorem domain_any (s : List UInt8) (w : World) (hs : s.length ≤ 900000) (hm : MaxIs w) (hp : PowIs w) : Calls Tryz.prog 92 #[.string (S s)] w (Ret (.int .i64 (Sp.domain s)) w) := by
  have eg119 := enters_of (P := Tryz.prog) Tryz.func119 (by kernel_rfl) rfl
  have eg120 := enters_of (P := Tryz.prog) Tryz.func120 (by kernel_rfl) rfl
  have eg121 := enters_of (P := Tryz.prog) Tryz.func121 (by kernel_rfl) rfl
  have hpre := Tryz.strings_CutPrefix (S s) (S [91])
  simp only [S_toList] at hpre
  rcases prefix_one 91 s with ⟨t, rfl, h1, h2⟩ | ⟨h1, h2, h3⟩
  · rw [h1, h2] at hpre
    clear h1 h2
    have hsuf := Tryz.strings_CutSuffix (S t) (S [93])
    simp only [S_toList, S_size] at hsuf
    have hts : t.length ≤ 900000 := by simp at hs; omega
    rcases suffix_one 93 (by decide) t with ⟨h1, h2, h3⟩ | ⟨h1, h2, h3⟩
    · rw [h2, h3] at hsuf
      have hcnt := Tryz.strings_Count_one (S t.dropLast) 46
      simp only [S_toList, Lib.countByte] at hcnt
      have hin : t.dropLast.length ≤ 900000 := by simp; omega
      have HD := Lib.hid (show Sp.domain (91 :: t) = if t.dropLast.count 46 = 3 ∧ (Sp.split 46 t.dropLast).all Sp.octet = true then 0 else 5 by
        unfold Sp.domain; simp only [List.headD_cons, List.tail_cons, if_true]; simp [-List.getLastD_eq_getLast?, h1])
      clear h1 h2 h3 hs
      generalize t.dropLast = inn at hsuf hcnt hin HD
      have hspl := split_len 46 inn
      have hall := fun W (hw : Below w.heap.size w W) => all_any 119 Sp.octet inn W (by omega) (hm.below hw) eg119 (fun W' x hx hb' => octet_any x W' (by have := hspl.2 x hx; omega) ((hp.below hw).below hb'))
      clear hspl hm hp
      by_cases h3 : inn.count 46 = 3
      · have e3 : ((inn.count 46 : Int) != 3) = false := by rw [h3]; rfl
        generalize (Sp.split 46 inn).all Sp.octet = b at hall HD
        cases b
        all_goals
          go_enter Tryz.func92, Tryz.ntmps92
          go_wp2_with (first | (go_at_call 82; refine (hpre _).mono ?_; rintro e w1 ⟨rfl, rfl⟩) | (go_at_call 117; refine (hsuf _ (by omega)).mono ?_; rintro e w1 ⟨rfl, rfl⟩) | (go_at_call 118; refine (hcnt _).mono ?_; rintro e w1 ⟨rfl, rfl⟩) | (go_at_call 114; refine (hall _ (Below.refl _ _)).mono ?_; rintro e w2 ⟨rfl, hb2⟩))
          go_ret
          exact ⟨ret_int (by rw [HD.out]; simp [h3]), hb2⟩
      · have e3 : ((inn.count 46 : Int) != 3) = true := by rw [bne_iff_ne]; omega
        have HD2 := Lib.hid (HD.out.trans (if_neg fun h => h3 h.1))
        clear hall HD h3
        go_enter Tryz.func92, Tryz.ntmps92
        go_wp2_with (first | (go_at_call 82; refine (hpre _).mono ?_; rintro e w1 ⟨rfl, rfl⟩) | (go_at_call 117; refine (hsuf _ (by omega)).mono ?_; rintro e w1 ⟨rfl, rfl⟩) | (go_at_call 118; refine (hcnt _).mono ?_; rintro e w1 ⟨rfl, rfl⟩))
        go_ret
        exact ⟨ret_int HD2.out.symm, Below.refl _ _⟩
    · rw [h2, h3] at hsuf
      have HD := Lib.hid (show Sp.domain (91 :: t) = 5 by
        unfold Sp.domain; simp only [List.headD_cons, List.tail_cons, if_true]; simp [-List.getLastD_eq_getLast?, h1])
      clear h1 h2 h3
      go_enter Tryz.func92, Tryz.ntmps92
      go_wp2_with (first | (go_at_call 82; refine (hpre _).mono ?_; rintro e w1 ⟨rfl, rfl⟩) | (go_at_call 117; refine (hsuf _ (by omega)).mono ?_; rintro e w1 ⟨rfl, rfl⟩))
      go_ret
      exact ⟨ret_int HD.out.symm, Below.refl _ _⟩
  · rw [h1, h2] at hpre
    have hd : s.headD 0 ≠ 91 := by
      cases s with
      | nil => decide
      | cons a r => intro h; simp at h; exact h3 r (by rw [h])
    have hspl := split_len 46 s
    have hlab := fun W (hw : Below w.heap.size w W) => all_any 120 Sp.label s W (by omega) (hm.below hw) eg120 (fun W' x hx hb' => label_any x W' (by have := hspl.2 x hx; omega))
    have hsho := fun W (hw : Below w.heap.size w W) => all_any 121 (fun p => decide (p.length ≤ 63)) s W (by omega) (hm.below hw) eg121 (fun W' x hx hb' => short_any x W' (by have := hspl.2 x hx; omega))
    have HD := Lib.hid (show Sp.domain s = if !(Sp.split 46 s).all Sp.label then 5 else if 255 < s.length ∨ (!(Sp.split 46 s).all (fun p => decide (p.length ≤ 63))) = true then 3 else 0 by
      unfold Sp.domain; rw [if_neg hd])
    clear h1 h2 h3 hd hspl hm hp
    generalize (Sp.split 46 s).all Sp.label = b1 at hlab HD
    generalize (Sp.split 46 s).all (fun p => decide (p.length ≤ 63)) = b2 at hsho HD
    cases b1
    · go_enter Tryz.func92, Tryz.ntmps92
      go_wp2_with (first | (go_at_call 82; refine (hpre _).mono ?_; rintro e w1 ⟨rfl, rfl⟩) | (go_at_call 114; refine (hlab _ (Below.refl _ _)).mono ?_; rintro e w2 ⟨rfl, hb2⟩))
      go_ret
      exact ⟨ret_int HD.out.symm, hb2⟩
    · by_cases hl : 255 < s.length
      · have hl' : (255 : Int) < (s.length : Int) := by omega
        have HD2 := Lib.hid (show Sp.domain s = 3 by rw [HD.out]; simp [hl])
        clear HD hsho
        go_enter Tryz.func92, Tryz.ntmps92
        go_wp2_with (first | (go_at_call 82; refine (hpre _).mono ?_; rintro e w1 ⟨rfl, rfl⟩) | (go_at_call 114; refine (hlab _ (Below.refl _ _)).mono ?_; rintro e w2 ⟨rfl, hb2⟩))
        go_ret
        exact ⟨ret_int HD2.out.symm, hb2⟩
      · have hl' : ¬ (255 : Int) < (s.length : Int) := by omega
        have HD2 := Lib.hid (show Sp.domain s = if b2 then 0 else 3 by rw [HD.out]; cases b2 <;> simp [hl])
        clear HD
        cases b2
        all_goals
          go_enter Tryz.func92, Tryz.ntmps92
          go_wp2_with fail
          refine (hpre _).mono ?_
          rintro e w1 ⟨rfl, rfl⟩
          go_wp2_with fail
          refine (hlab _ (Below.refl _ _)).mono ?_
          rintro e w2 ⟨rfl, hb2⟩
          go_wp2_with fail
          refine (hsho _ hb2).mono ?_
          rintro e w3 ⟨rfl, hb3⟩
          go_wp2_with fail
          go_ret
          exact ⟨ret_int HD2.out.symm, below_trans' hb2 hb3⟩
end Go.Proofs.YtgjlncfhghhaeaaGreatDoor
