/- slices.IndexFunc and ContainsFunc, at bytes and at strings: for whatever function value. -/
import Derived.Test.YtgjlncfhghhaeaaGreatDoorText1
import Derived.Deep.LoopGhost
import Derived.Deep.Draws
set_option linter.unusedSimpArgs false
set_option linter.unusedVariables false
namespace Go.Proofs.YtgjlncfhghhaeaaGreatDoor
open Go.RowKit

/-- slices.IndexFunc at []byte: below 0 just where p holds nowhere. -/
def IdxPostB (any : Bool) (w : World) (e : Ending) (w' : World) : Prop := ∃ n : Int, e = .returned (.int .i64 n) ∧ (decide (0 ≤ n) = any) ∧ Below w.heap.size w w'
set_option maxHeartbeats 1000000 in
theorem indexFunc_B (p : UInt8 → Bool) (g : Nat) (lb : Array Value) (eg : ∀ args w, (callFunc g args).run Tryz.prog w = .ok (.enter g args) w) (v : Value) (xs : List (UInt8)) (w : World)
    (hr : Row encB w v xs) (hp : Gives Tryz.prog g lb encB p xs w) : Calls Tryz.prog 110 #[v, .func (.func g) #[] lb] w (IdxPostB (xs.any p) w) := by
  obtain ⟨A, c, rfl, hl, hx⟩ := hr
  obtain ⟨n, hn⟩ : ∃ n, n = xs.length := ⟨_, rfl⟩
  rw [← hn] at hl ⊢
  have HN := Lib.hid hn; clear hn
  go_enter Tryz.func110, Tryz.ntmps110
  go_wp2
  go_loopg [5, 8] n (fun gg _ s8 wr => ∃ kk : Nat, kk ≤ n ∧ n - kk ≤ gg ∧ s8 = .int .i64 kk ∧ Below w.heap.size w wr ∧ Hid (∀ (j : Nat) x, j < kk → xs[j]? = some x → p x = false))
  case atStart => exact ⟨0, Nat.zero_le _, by omega, rfl, Below.refl _ _, fun j x hj => absurd hj (Nat.not_lt_zero _)⟩
  case round =>
    obtain ⟨kk, hkk, hg, rfl, hbw, H⟩ := hrel
    by_cases hlt : kk < n
    · have hltz : (kk : Int) < (n : Int) := by omega
      have hkl : kk < xs.length := by rw [← HN.out]; exact hlt
      obtain ⟨b, o, hA, hbl, hc⟩ := hx (by intro h; rw [h] at hkl; simp at hkl)
      subst hA
      have hxk : xs[kk]? = some xs[kk] := List.getElem?_eq_getElem hkl
      have hcell : wr.cell? ⟨b, o + kk, none⟩ = some (encB xs[kk]) := ((bcell hbw).1 b _ hbl).trans (hc kk _ hxk)
      have hcall := hp wr xs[kk] (List.getElem_mem hkl) hbw
      clear hc hp hx
      generalize xs[kk] = y at hcell hcall hxk
      have HX := Lib.hid hxk; clear hxk
      cases hq : p y with
      | true =>
        rw [hq] at hcall
        have HQ := Lib.hid hq; clear hq
        go_wp2_with (go_at_fn g; refine hcall.mono ?_; rintro e w' ⟨rfl, hb1⟩)
        go_ret
        exact ⟨kk, rfl, by rw [any_hit p xs kk y HX.out HQ.out]; simp, below_trans' hbw hb1⟩
      | false =>
        rw [hq] at hcall
        have HQ := Lib.hid hq; clear hq
        go_wp2_with (go_at_fn g; refine hcall.mono ?_; rintro e w' ⟨rfl, hb1⟩)
        go_roundg (n - (kk + 1))
        case measure => omega
        case rel =>
          refine ⟨kk + 1, by omega, by omega, by go_num, below_trans' hbw hb1, fun j x hj hjx => ?_⟩
          by_cases e : j = kk
          · subst e
            rw [HX.out] at hjx; cases hjx; exact HQ.out
          · exact H.out j x (by omega) hjx
    · have hltz : ¬ (kk : Int) < (n : Int) := by omega
      go_wp2
      go_ret
      refine ⟨-1, rfl, ?_, hbw⟩
      rw [any_miss p xs (fun j x hj => H.out j x (by have := (List.getElem?_eq_some_iff.1 hj).1; have := HN.out; omega) hj)]
      rfl
set_option maxHeartbeats 1000000 in
theorem containsFunc_B (p : UInt8 → Bool) (g : Nat) (lb : Array Value) (eg : ∀ args w, (callFunc g args).run Tryz.prog w = .ok (.enter g args) w) (v : Value) (xs : List (UInt8)) (w : World)
    (hr : Row encB w v xs) (hp : Gives Tryz.prog g lb encB p xs w) : Calls Tryz.prog 80 #[v, .func (.func g) #[] lb] w (Ret (.bool (xs.any p)) w) := by
  have hcall := indexFunc_B p g lb eg v xs w hr hp
  clear hr hp
  go_enter Tryz.func80, Tryz.ntmps80
  go_wp2_with (go_at_call 110; refine hcall.mono ?_; rintro e w' ⟨n, rfl, hn, hb1⟩)
  go_ret
  exact ⟨ret_bool (by simp [hn]), hb1⟩

/-- slices.IndexFunc at []string: below 0 just where p holds nowhere. -/
def IdxPostS (any : Bool) (w : World) (e : Ending) (w' : World) : Prop := ∃ n : Int, e = .returned (.int .i64 n) ∧ (decide (0 ≤ n) = any) ∧ Below w.heap.size w w'
set_option maxHeartbeats 1000000 in
theorem indexFunc_S (p : List UInt8 → Bool) (g : Nat) (lb : Array Value) (eg : ∀ args w, (callFunc g args).run Tryz.prog w = .ok (.enter g args) w) (v : Value) (xs : List (List UInt8)) (w : World)
    (hr : Row encS w v xs) (hp : Gives Tryz.prog g lb encS p xs w) : Calls Tryz.prog 101 #[v, .func (.func g) #[] lb] w (IdxPostS (xs.any p) w) := by
  obtain ⟨A, c, rfl, hl, hx⟩ := hr
  obtain ⟨n, hn⟩ : ∃ n, n = xs.length := ⟨_, rfl⟩
  rw [← hn] at hl ⊢
  have HN := Lib.hid hn; clear hn
  go_enter Tryz.func101, Tryz.ntmps101
  go_wp2
  go_loopg [5, 8] n (fun gg _ s8 wr => ∃ kk : Nat, kk ≤ n ∧ n - kk ≤ gg ∧ s8 = .int .i64 kk ∧ Below w.heap.size w wr ∧ Hid (∀ (j : Nat) x, j < kk → xs[j]? = some x → p x = false))
  case atStart => exact ⟨0, Nat.zero_le _, by omega, rfl, Below.refl _ _, fun j x hj => absurd hj (Nat.not_lt_zero _)⟩
  case round =>
    obtain ⟨kk, hkk, hg, rfl, hbw, H⟩ := hrel
    by_cases hlt : kk < n
    · have hltz : (kk : Int) < (n : Int) := by omega
      have hkl : kk < xs.length := by rw [← HN.out]; exact hlt
      obtain ⟨b, o, hA, hbl, hc⟩ := hx (by intro h; rw [h] at hkl; simp at hkl)
      subst hA
      have hxk : xs[kk]? = some xs[kk] := List.getElem?_eq_getElem hkl
      have hcell : wr.cell? ⟨b, o + kk, none⟩ = some (encS xs[kk]) := ((bcell hbw).1 b _ hbl).trans (hc kk _ hxk)
      have hcall := hp wr xs[kk] (List.getElem_mem hkl) hbw
      clear hc hp hx
      generalize xs[kk] = y at hcell hcall hxk
      have HX := Lib.hid hxk; clear hxk
      cases hq : p y with
      | true =>
        rw [hq] at hcall
        have HQ := Lib.hid hq; clear hq
        go_wp2_with (go_at_fn g; refine hcall.mono ?_; rintro e w' ⟨rfl, hb1⟩)
        go_ret
        exact ⟨kk, rfl, by rw [any_hit p xs kk y HX.out HQ.out]; simp, below_trans' hbw hb1⟩
      | false =>
        rw [hq] at hcall
        have HQ := Lib.hid hq; clear hq
        go_wp2_with (go_at_fn g; refine hcall.mono ?_; rintro e w' ⟨rfl, hb1⟩)
        go_roundg (n - (kk + 1))
        case measure => omega
        case rel =>
          refine ⟨kk + 1, by omega, by omega, by go_num, below_trans' hbw hb1, fun j x hj hjx => ?_⟩
          by_cases e : j = kk
          · subst e
            rw [HX.out] at hjx; cases hjx; exact HQ.out
          · exact H.out j x (by omega) hjx
    · have hltz : ¬ (kk : Int) < (n : Int) := by omega
      go_wp2
      go_ret
      refine ⟨-1, rfl, ?_, hbw⟩
      rw [any_miss p xs (fun j x hj => H.out j x (by have := (List.getElem?_eq_some_iff.1 hj).1; have := HN.out; omega) hj)]
      rfl
set_option maxHeartbeats 1000000 in
theorem containsFunc_S (p : List UInt8 → Bool) (g : Nat) (lb : Array Value) (eg : ∀ args w, (callFunc g args).run Tryz.prog w = .ok (.enter g args) w) (v : Value) (xs : List (List UInt8)) (w : World)
    (hr : Row encS w v xs) (hp : Gives Tryz.prog g lb encS p xs w) : Calls Tryz.prog 63 #[v, .func (.func g) #[] lb] w (Ret (.bool (xs.any p)) w) := by
  have hcall := indexFunc_S p g lb eg v xs w hr hp
  clear hr hp
  go_enter Tryz.func63, Tryz.ntmps63
  go_wp2_with (go_at_call 101; refine hcall.mono ?_; rintro e w' ⟨n, rfl, hn, hb1⟩)
  go_ret
  exact ⟨ret_bool (by simp [hn]), hb1⟩
end Go.Proofs.YtgjlncfhghhaeaaGreatDoor
