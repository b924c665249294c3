/- text.pair, Quoted. -/
import Derived.Test.YtgjlncfhghhaeaaGreatDoorText5
set_option linter.unusedSimpArgs false
set_option linter.unusedVariables false
namespace Go.Proofs.YtgjlncfhghhaeaaGreatDoor
open Go.RowKit
theorem ret_three {a b c a' b' c' : Value} (h : a = a') (k : b = b') (l : c = c') : Ending.returned (.tuple #[a, b, c]) = .returned (.tuple #[a', b', c']) := by rw [h, k, l]
theorem info_u8 : (Tryz.prog.info? 5).map (fun i => (i.zero, i.size, i.bytes)) = some (some (.int .u8 0), 1, 1) := by kernel_rfl
theorem strOf_S (xs : List UInt8) : strOfNums (xs.map fun c => (c.toNat : Int)) = S xs := by simp [strOfNums, S, Function.comp_def]
/-- 'string(b)' of a row of the call's own. -/
theorem conv_string {w : World} {base : Nat} {e : TypeId} {v : Value} {xs : List UInt8} (h : w.ownsRow base e 1 v xs.length (xs.map encB)) :
    (convert 23 9 v).run Tryz.prog w = .ok (.string (S xs)) w := by
  rcases h.2 with ⟨rfl, h0⟩ | ⟨g, cap, cur, rfl, hb, hg, _⟩
  · have h0' : xs = [] := List.length_eq_zero_iff.1 h0
    subst h0'
    exact run_convert_bytes_nil w _ _ Tryz.underlying23 Tryz.underlying5 0 0 _ Tryz.underlying9
  · have := run_convert_bytes_arg (P := Tryz.prog) w 23 5 Tryz.underlying23 Tryz.underlying5 g 0 xs.length cap (xs.map fun c => (c.toNat : Int)) (by simp) (fun i hi => by
      rw [Nat.zero_add, h.cellAt i (by omega)]; simp [hi]) 9 Tryz.underlying9
    rw [strOf_S] at this
    exact this
set_option maxHeartbeats 1000000 in
theorem pair_end (s : List UInt8) (k : Nat) (w : World) (hk : s.length ≤ k + 1) (hb : k ≤ 1000000) : Calls Tryz.prog 133 #[.string (S s), .int .i64 k] w fun e w' => e = .returned (.tuple #[.int .u8 0, .int .i64 4]) ∧ w' = w := by
  have h1 : ¬ (k : Int) + 1 < (s.length : Int) := by omega
  go_enter Tryz.func133, Tryz.ntmps133
  go_wp2
  go_ret2
  exact ⟨rfl, rfl⟩
set_option maxHeartbeats 1000000 in
theorem pair_in (s : List UInt8) (k : Nat) (d : UInt8) (w : World) (hk : s[k + 1]? = some d) (hb : k ≤ 1000000) : Calls Tryz.prog 133 #[.string (S s), .int .i64 k] w fun e w' => e = .returned (if Sp.plB d then .tuple #[.int .u8 d.toNat, .int .i64 0] else .tuple #[.int .u8 0, .int .i64 5]) ∧ w' = w := by
  have hkl := (List.getElem?_eq_some_iff.1 hk).1
  have h1 : (k : Int) + 1 < (s.length : Int) := by omega
  have hix : s[k + 1] = d := (List.getElem?_eq_some_iff.1 hk).2
  have hcall := plain_b d
  cases hp : Sp.plB d with
  | true =>
    rw [hp] at hcall
    clear hk hp
    go_enter Tryz.func133, Tryz.ntmps133
    go_wp2_with (go_at_call 91; refine (hcall _).mono ?_; rintro e w' ⟨rfl, rfl⟩)
    go_ret2
    exact ⟨rfl, rfl⟩
  | false =>
    rw [hp] at hcall
    clear hk hp
    go_enter Tryz.func133, Tryz.ntmps133
    go_wp2_with (go_at_call 91; refine (hcall _).mono ?_; rintro e w' ⟨rfl, rfl⟩)
    go_ret2
    exact ⟨rfl, rfl⟩
theorem quotedGo_cons (c : UInt8) (r out : List UInt8) (k : Nat) : Sp.quotedGo (c :: r) out k =
    if c = 34 then (out, k + 1, 0) else if c = 92 then (match r with | [] => ([], 0, 4) | d :: r' => if Sp.plB d then Sp.quotedGo r' (out ++ [d]) (k + 2) else ([], 0, 5))
    else if Sp.plB c then Sp.quotedGo r (out ++ [c]) (k + 1) else ([], 0, 5) := by
  cases r <;> rfl
theorem drop_cons' {s : List UInt8} {k : Nat} (hk : k < s.length) : s.drop k = s[k] :: s.drop (k + 1) := List.drop_eq_getElem_cons hk
def quPost (s : List UInt8) (w : World) (e : Ending) (w' : World) : Prop := e = .returned (.tuple #[.string (S (Sp.quoted s).1), .int .i64 (Sp.quoted s).2.1, .int .i64 (Sp.quoted s).2.2]) ∧ Below w.heap.size w w'
theorem quoted_bad (s : List UInt8) (w : World) (h : s.headD 0 ≠ 34) : Calls Tryz.prog 112 #[.string (S s)] w (quPost s w) := by
  have e : Sp.quoted s = ([], 0, 5) := by
    cases s with
    | nil => rfl
    | cons c r => simp at h; simp [Sp.quoted, h]
  unfold quPost
  rw [e]
  cases s with
  | nil =>
    go_enter Tryz.func112, Tryz.ntmps112
    go_wp2
    go_ret3
    exact ⟨rfl, Below.refl _ _⟩
  | cons c r =>
    have hc : ((c.toNat : Int) == 34) = false := by
      simp at h
      have : ¬ (c.toNat : Int) = ((34 : UInt8).toNat : Int) := fun h' => h ((u8_eq c 34).2 h')
      simpa using this
    have hc2 : ((c.toNat : Int) != 34) = true := by rw [bne, hc]; rfl
    go_enter Tryz.func112, Tryz.ntmps112
    go_wp2
    go_ret3
    exact ⟨rfl, Below.refl _ _⟩
set_option maxHeartbeats 2000000 in
set_option maxRecDepth 100000 in
theorem quoted_go (t : List UInt8) (w : World) (hs : t.length ≤ 900000) : Calls Tryz.prog 112 #[.string (S (34 :: t))] w (quPost (34 :: t) w) := by
  obtain ⟨i0, hi0, hz0, hz1, hz2⟩ := info_parts info_u8
  obtain ⟨s, hsd⟩ : ∃ s, s = 34 :: t := ⟨_, rfl⟩
  have hsl : s.length ≤ 900001 := by rw [hsd]; simp; omega
  have h0 : s[0]? = some 34 := by rw [hsd]; rfl
  have HQ : Hid (Sp.quoted s = Sp.quotedGo (s.drop 1) [] 1) := by rw [hsd]; rfl
  rw [← hsd]
  clear hsd hs
  have hl1 : 1 ≤ s.length := by have := (List.getElem?_eq_some_iff.1 h0).1; omega
  have h00 : s[0] = 34 := (List.getElem?_eq_some_iff.1 h0).2
  have hne : s.isEmpty = false := by cases s with | nil => simp at hl1 | cons a b => rfl
  clear h0
  go_enter Tryz.func112, Tryz.ntmps112
  go_wp2
  go_loopg [5, 6] s.length (fun gg v i wr => ∃ (k : Nat) (out : List UInt8), k ≤ s.length + 1 ∧ s.length - k ≤ gg ∧ out.length ≤ k ∧ i = .int .i64 k ∧ wr.ownsRow w.heap.size 5 1 v out.length (out.map encB) ∧ Below w.heap.size w wr ∧ Hid (Sp.quoted s = Sp.quotedGo (s.drop k) out k))
  case atStart => exact ⟨1, [], by omega, by omega, by simp, rfl, ⟨by simp, .inl ⟨rfl, rfl⟩⟩, Below.refl _ _, HQ⟩
  case round =>
    obtain ⟨k, out, hk, hg, hok, rfl, hown, hbw, H⟩ := hrel
    have hbs : w.heap.size ≤ wr.heap.size + 1 := by have := hbw.size; omega
    by_cases hlt : k < s.length
    · have hltz : (k : Int) < (s.length : Int) := by omega
      have hd := drop_cons' hlt
      have H1 := Lib.hid (H.out.trans (by rw [hd, quotedGo_cons]))
      have hgk : s[k]? = some s[k] := List.getElem?_eq_getElem hlt
      have hpin := pair_in s k
      clear hd H
      generalize hcc : s[k] = cc at H1 hgk
      clear hgk
      have hb := u8_lt cc
      by_cases c34 : cc = 34
      · have e34 : ((cc.toNat : Int) == 34) = true := by subst c34; rfl
        have H2 := Lib.hid (H1.out.trans (if_pos c34))
        have hcv := conv_string hown
        clear H1 hpin c34
        go_wp2
        go_ret3
        refine ⟨?_, hbw⟩
        rw [H2.out]; rfl
      · have e34 : ((cc.toNat : Int) == 34) = false := by
          have : ¬ (cc.toNat : Int) = ((34 : UInt8).toNat : Int) := fun h' => c34 ((u8_eq cc 34).2 h')
          simpa using this
        have H2 := Lib.hid (H1.out.trans (if_neg c34))
        clear H1 c34
        by_cases c92 : cc = 92
        · have e92 : ((cc.toNat : Int) == 92) = true := by subst c92; rfl
          have H3 := Lib.hid (H2.out.trans (if_pos c92))
          clear H2 c92
          by_cases hk1 : k + 1 < s.length
          · have hd1 := drop_cons' hk1
            have hcall := hpin s[k + 1]
            have hgk1 : s[k + 1]? = some s[k + 1] := List.getElem?_eq_getElem hk1
            generalize s[k + 1] = DD at hd1 hcall hgk1
            have hcall' := fun W => hcall W hgk1 (by omega)
            have H4 := Lib.hid (H3.out.trans (by rw [hd1]))
            clear H3 hcall hgk1 hd1 hpin
            cases hp : Sp.plB DD with
            | true =>
              simp only [hp, if_true] at hcall'
              have H5 := Lib.hid (H4.out.trans (if_pos hp))
              clear H4 hp
              go_wp2_with (first | (go_at_call 133; refine (hcall' _).mono ?_; rintro e wr ⟨rfl, rfl⟩) | (at_builtin; refine wpList_append_own _ rfl _ _ 23 rfl w.heap.size 5 i0 (.int .u8 0) 1 1 Tryz.underlying23 hi0 hz0 hz1 hz2 rfl (by decide) _ _ _ rfl (hown.alloc _) ⟨wr.heap.size, 0, none⟩ 1 1 [encB DD] rfl rfl (cell_one_new _ _ _) (by simp [Value.oneCell']) (by unfold maxLen; omega) (by omega) (by simpa using hbs) ?_; intro v' w1 hown1 hgrow _))
              go_roundg (s.length - (k + 2))
              case measure => omega
              case rel =>
                refine ⟨k + 2, out ++ [DD], by omega, by omega, by simp; omega, by go_num, by simpa using hown1, (below_alloc hbw _).grown hgrow (by simpa using hbs) (fun k hk => own_base hown k hk), ?_⟩
                show _ = _
                rw [H5.out]
            | false =>
              simp only [hp, Bool.false_eq_true, if_false] at hcall'
              have H5 := Lib.hid (H4.out.trans (if_neg (by rw [hp]; simp)))
              clear H4 hp
              go_wp2_with (go_at_call 133; refine (hcall' _).mono ?_; rintro e wr ⟨rfl, rfl⟩)
              go_ret3
              refine ⟨?_, hbw⟩
              rw [H5.out]; rfl
          · have hpe := fun W => pair_end s k W (by omega) (by omega)
            have H4 := Lib.hid (H3.out.trans (by rw [List.drop_eq_nil_of_le (by omega)]))
            clear H3 hpin
            go_wp2_with (go_at_call 133; refine (hpe _).mono ?_; rintro e wr ⟨rfl, rfl⟩)
            go_ret3
            refine ⟨?_, hbw⟩
            rw [H4.out]; rfl
        · have e92 : ((cc.toNat : Int) == 92) = false := by
            have : ¬ (cc.toNat : Int) = ((92 : UInt8).toNat : Int) := fun h' => c92 ((u8_eq cc 92).2 h')
            simpa using this
          have H3 := Lib.hid (H2.out.trans (if_neg c92))
          clear H2 c92 hpin
          have hcall := plain_b cc
          cases hp : Sp.plB cc with
          | true =>
            rw [hp] at hcall
            have H5 := Lib.hid (H3.out.trans (if_pos hp))
            clear H3 hp
            go_wp2_with (first | (go_at_call 91; refine (hcall _).mono ?_; rintro e wr ⟨rfl, rfl⟩) | (at_builtin; refine wpList_append_own _ rfl _ _ 23 rfl w.heap.size 5 i0 (.int .u8 0) 1 1 Tryz.underlying23 hi0 hz0 hz1 hz2 rfl (by decide) _ _ _ rfl (hown.alloc _) ⟨wr.heap.size, 0, none⟩ 1 1 [encB cc] rfl rfl (cell_one_new _ _ _) (by simp [Value.oneCell']) (by unfold maxLen; omega) (by omega) (by simpa using hbs) ?_; intro v' w1 hown1 hgrow _))
            go_roundg (s.length - (k + 1))
            case measure => omega
            case rel =>
              refine ⟨k + 1, out ++ [cc], by omega, by omega, by simp; omega, by go_num, by simpa using hown1, (below_alloc hbw _).grown hgrow (by simpa using hbs) (fun k hk => own_base hown k hk), ?_⟩
              show _ = _
              rw [H5.out]
          | false =>
            rw [hp] at hcall
            have H5 := Lib.hid (H3.out.trans (if_neg (by rw [hp]; simp)))
            clear H3 hp
            go_wp2_with (go_at_call 91; refine (hcall _).mono ?_; rintro e wr ⟨rfl, rfl⟩)
            go_ret3
            refine ⟨?_, hbw⟩
            rw [H5.out]; rfl
    · have hltz : ¬ (k : Int) < (s.length : Int) := by omega
      have H1 := Lib.hid (H.out.trans (by rw [List.drop_eq_nil_of_le (by omega)]))
      go_wp2
      go_ret3
      refine ⟨?_, hbw⟩
      rw [H1.out]; rfl
theorem quoted_any (s : List UInt8) (w : World) (hs : s.length ≤ 900000) : Calls Tryz.prog 112 #[.string (S s)] w (quPost s w) := by
  by_cases h : s.headD 0 = 34
  · cases s with
    | nil => cases h
    | cons c r => simp at h; subst h; exact quoted_go r w (by simp at hs; omega)
  · exact quoted_bad s w h
end Go.Proofs.YtgjlncfhghhaeaaGreatDoor
