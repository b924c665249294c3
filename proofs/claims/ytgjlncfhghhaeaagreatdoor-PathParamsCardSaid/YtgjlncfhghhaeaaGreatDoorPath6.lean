/- path.route. -/
import Derived.Test.YtgjlncfhghhaeaaGreatDoorPath5
set_option linter.unusedSimpArgs false
set_option linter.unusedVariables false
namespace Go.Proofs.YtgjlncfhghhaeaaGreatDoor
open Go.RowKit
def routePost (s : List UInt8) (w : World) (e : Ending) (w' : World) : Prop := ∃ v, e = .returned (.tuple #[v, .string (S (Sp.route s).2.1), .bool (Sp.route s).2.2]) ∧ Row encS w' v (Sp.route s).1 ∧ Below w.heap.size w w' ∧ ∀ k, v.ownBlock = some k → w.heap.size ≤ k
theorem row_none (w : World) : Row encS w (.slice none 0 0) [] := ⟨none, 0, rfl, by simp, fun h => absurd rfl h⟩
theorem routeParts_len (l : List (List UInt8)) : ∀ r, Sp.routeParts l = some r → r.length = l.length ∧ ∀ n, (∀ p ∈ l, p.length ≤ n) → ∀ p ∈ r, p.length ≤ n := by
  induction l with
  | nil => intro r h; cases h; simp
  | cons p t ih =>
    intro r h
    unfold Sp.routeParts at h
    split at h
    · cases hr : Sp.routeParts t with
      | none => rw [hr] at h; cases h
      | some r' =>
        rw [hr] at h; cases h
        have := ih r' hr
        refine ⟨by simp [this.1], fun n hn q hq => ?_⟩
        rcases List.mem_cons.1 hq with rfl | hq
        · have := hn p (by simp); simp; omega
        · exact this.2 n (fun p' hp' => hn p' (by simp [hp'])) q hq
    · cases h
set_option maxHeartbeats 2000000 in
set_option maxRecDepth 100000 in
theorem route_any (s : List UInt8) (w : World) (hs : s.length ≤ 800000) (hm : MaxIs w) : Calls Tryz.prog 83 #[.string (S s)] w (routePost s w) := by
  obtain ⟨i0, hi0, hz0, hz1, hz2⟩ := info_parts info_str
  have hpre := Tryz.strings_HasPrefix (S s) (S [64]) w
  simp only [S_toList] at hpre
  rw [headD_prefix 64 (by decide)] at hpre
  by_cases h64 : s.headD 0 = 64
  · rw [h64] at hpre
    have hcut := scut_any s 58 w (by omega) hm
    have hcl := cutB_len 58 s
    have HR := Lib.hid (show Sp.route s = if (Sp.cutB 58 s).2.2 then (match Sp.routeParts (Sp.split 44 (Sp.cutB 58 s).1) with | none => ([], [], false) | some l => (l, (Sp.cutB 58 s).2.1, true)) else ([], [], false) by unfold Sp.route; rw [if_pos h64]; rfl)
    unfold cutPost at hcut
    generalize Sp.cutB 58 s = q at hcut hcl HR
    obtain ⟨all, rest, is_⟩ := q
    simp only at hcut hcl HR
    clear h64 hm
    cases is_ with
    | false =>
      have HR2 := Lib.hid (HR.out.trans (if_neg (by simp)))
      go_enter Tryz.func83, Tryz.ntmps83
      go_wp2_with (first | (go_at_call 31; refine hpre.mono ?_; rintro e w1 ⟨rfl, rfl⟩) | (go_at_call 76; refine hcut.mono ?_; rintro e w2 ⟨rfl, hb2⟩))
      go_ret3
      unfold routePost
      rw [HR2.out]
      exact ⟨_, rfl, row_none _, hb2, fun k hk => by simp [Value.ownBlock] at hk⟩
    | true =>
      have HR2 := Lib.hid (HR.out.trans (if_pos rfl))
      clear HR
      have hspl := split_len 44 all
      have hsp := fun W => split_any all 44 W (by omega)
      generalize Sp.split 44 all = L at HR2 hspl hsp
      have HSL := Lib.hid hspl
      clear hspl
      go_enter Tryz.func83, Tryz.ntmps83
      go_wp2_with fail
      refine hpre.mono ?_
      rintro e w1 ⟨rfl, rfl⟩
      go_wp2_with fail
      refine hcut.mono ?_
      rintro e w2 ⟨rfl, hb2⟩
      go_wp2_with fail
      refine (hsp _).mono ?_
      rintro e wS ⟨v, rfl, hown, hbS⟩
      have hbwS := below_trans' hb2 hbS
      have hrow := row_of_owns encS hown (by have := HSL.out.1; omega)
      obtain ⟨A, c, rfl, hll, hx⟩ := hrow
      have HX := Lib.hid hx
      clear hown hsp hx
      go_wp2
      go_loopw [8, 28] (fun v8 i wr => ∃ (j : Nat) (done : List (List UInt8)), j ≤ L.length ∧ i = .int .i64 j ∧ done.length ≤ j ∧ wr.ownsRow wS.heap.size 9 1 v8 done.length (done.map encS) ∧ Below wS.heap.size wS wr ∧ Hid (Sp.routeParts L = (Sp.routeParts (L.drop j)).map (done ++ ·))) (fun _ i _ => L.length - (intOf i).toNat)
      case atStart => exact ⟨0, [], Nat.zero_le _, rfl, by simp, ⟨by simp, .inl ⟨rfl, rfl⟩⟩, Below.refl _ _, by show _ = _; simp⟩
      case round =>
        obtain ⟨j, done, hj, rfl, hdl, hown, hbw, H⟩ := hrel
        have hLl : L.length ≤ 800001 := by have := HSL.out.1; omega
        by_cases hlt : j < L.length
        · have hltz : (j : Int) < (L.length : Int) := by omega
          obtain ⟨b, o, hA, hbl, hc⟩ := HX.out (by intro h; rw [h] at hlt; simp at hlt)
          subst hA
          have hcell : wr.cell? ⟨b, o + j, none⟩ = some (encS L[j]) := ((bcell hbw).1 b _ hbl).trans (hc j _ (List.getElem?_eq_getElem hlt))
          have hdlen := HSL.out.2 _ (List.getElem_mem hlt)
          have H1 := Lib.hid (H.out.trans (by rw [List.drop_eq_getElem_cons hlt]))
          clear hc H
          generalize L[j] = d at hcell hdlen H1
          have hcp := Tryz.strings_CutPrefix (S d) (S [64])
          simp only [S_toList] at hcp
          have hbs : wS.heap.size ≤ wr.heap.size + 1 := by have := hbw.size; omega
          rcases prefix_one 64 d with ⟨t, rfl, h1, h2⟩ | ⟨h1, h2, h3⟩
          · rw [h1, h2] at hcp
            have H2 := Lib.hid (H1.out.trans (show _ = (Sp.routeParts (L.drop (j + 1))).map ((done ++ [t]) ++ ·) by
              simp only [Sp.routeParts, List.headD_cons, if_true, List.tail_cons]
              cases Sp.routeParts (L.drop (j + 1)) with
              | none => rfl
              | some r => simp))
            clear H1 h1 h2
            go_wp2_with (first | (go_at_call 82; refine (hcp _).mono ?_; rintro e wr ⟨rfl, rfl⟩) | (at_builtin; refine wpList_append_own _ rfl _ _ 32 rfl wS.heap.size 9 i0 (.string ByteArray.empty) 1 16 Tryz.underlying32 hi0 hz0 hz1 hz2 rfl (by decide) _ _ _ rfl (hown.alloc _) ⟨wr.heap.size, 0, none⟩ 1 1 [.string (S t)] rfl rfl (cell_one_new _ _ _) (by simp [Value.oneCell']) (by unfold maxLen; omega) (by omega) (by simpa using hbs) ?_; intro v' w6 hown1 hgrow _))
            go_roundw
            case rel => exact ⟨j + 1, done ++ [t], by omega, by go_num, by simp; omega, by simpa using hown1, (below_alloc hbw _).grown hgrow (by simpa using hbs) (fun k hk => own_base hown k hk), H2.out⟩
            case measure => simp [intOf]; omega
          · rw [h1, h2] at hcp
            have H2 := Lib.hid (H1.out.trans (show _ = none by
              simp only [Sp.routeParts]
              rw [if_neg]
              · rfl
              · intro h; cases d with
                | nil => simp at h
                | cons a r => simp at h; exact h3 r (by rw [h])))
            clear H1 h1 h2 h3
            go_wp2_with (go_at_call 82; refine (hcp _).mono ?_; rintro e wr ⟨rfl, rfl⟩)
            go_ret3
            unfold routePost
            rw [HR2.out, H2.out]
            exact ⟨_, rfl, row_none _, below_trans' hbwS hbw, fun k hk => by simp [Value.ownBlock] at hk⟩
        · have hltz : ¬ (j : Int) < (L.length : Int) := by omega
          have H1 := Lib.hid (H.out.trans (show _ = some done by rw [List.drop_eq_nil_of_le (by omega)]; simp [Sp.routeParts]))
          go_wp2
          go_ret3
          unfold routePost
          rw [HR2.out, H1.out]
          exact ⟨_, rfl, (show Row encS wr _ done from row_of_owns encS hown (by omega)), below_trans' hbwS hbw, fun k hk => Nat.le_trans hbwS.size (own_base hown k hk)⟩
  · rw [show (s.headD 0 == 64) = false by simpa using h64] at hpre
    have HR := Lib.hid (show Sp.route s = ([], s, true) by unfold Sp.route; rw [if_neg h64])
    go_enter Tryz.func83, Tryz.ntmps83
    go_wp2_with (go_at_call 31; refine hpre.mono ?_; rintro e w1 ⟨rfl, rfl⟩)
    go_ret3
    unfold routePost
    rw [HR.out]
    exact ⟨_, rfl, row_none _, Below.refl _ _, fun k hk => by simp [Value.ownBlock] at hk⟩
end Go.Proofs.YtgjlncfhghhaeaaGreatDoor
