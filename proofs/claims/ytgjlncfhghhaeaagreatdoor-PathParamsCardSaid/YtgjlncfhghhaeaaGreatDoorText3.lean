/- text.Split. -/
import Derived.Test.YtgjlncfhghhaeaaGreatDoorText2
import Derived.Test.YtgjlncfhghhaeaaGreatDoorShelf
import Derived.Deep.RegionHeldLaw
import Derived.Deep.AppendLies
import Derived.IntWalk
set_option linter.unusedSimpArgs false
set_option linter.unusedVariables false
namespace Go.Proofs.YtgjlncfhghhaeaaGreatDoor
open Go.RowKit
theorem own_base {w : World} {base : Nat} {e : TypeId} {size n : Nat} {v : Value} {xs : List Value} (h : w.ownsRow base e size v n xs) (k : Nat) (hk : v.ownBlock = some k) : base ≤ k := by
  rcases h.2 with ⟨rfl, _⟩ | ⟨g, cap, cur, rfl, hb, _⟩
  · simp [Value.ownBlock] at hk
  · have : g = k := by simpa [Value.ownBlock] using hk
    omega
theorem info_str : (Tryz.prog.info? 9).map (fun i => (i.zero, i.size, i.bytes)) = some (some (.string ByteArray.empty), 1, 16) := by kernel_rfl
theorem indexByte_cases (l : List UInt8) (c : UInt8) : (Lib.indexByte l c = -1 ∧ Sp.split c l = [l]) ∨ ∃ i : Nat, Lib.indexByte l c = i ∧ i < l.length ∧ Sp.split c l = l.take i :: Sp.split c (l.drop (i + 1)) := by
  induction l with
  | nil => left; exact ⟨rfl, rfl⟩
  | cons x xs ih =>
    by_cases h : x = c
    · right; refine ⟨0, ?_, by simp, ?_⟩
      · simp [Lib.indexByte, h]
      · simp [Sp.split, h]
    · rcases ih with ⟨h1, h2⟩ | ⟨i, h1, h2, h3⟩
      · left; refine ⟨?_, ?_⟩
        · simp [Lib.indexByte, h, h1]
        · simp [Sp.split, h, h2]
      · right; refine ⟨i + 1, ?_, by simp; omega, ?_⟩
        · simp [Lib.indexByte, h, h1]
        · simp [Sp.split, h, h3]
set_option maxHeartbeats 1000000 in
set_option maxRecDepth 100000 in
theorem split_any (s : List UInt8) (c : UInt8) (w : World) (hs : s.length ≤ 1000000) :
    Calls Tryz.prog 41 #[.string (S s), .int .u8 c.toNat] w fun e w' => ∃ v, e = .returned v ∧ w'.ownsRow w.heap.size 9 1 v (Sp.split c s).length ((Sp.split c s).map encS) ∧ Below w.heap.size w w' := by
  obtain ⟨i0, hi0, hz0, hz1, hz2⟩ := info_parts info_str
  have hcb := u8_lt c
  go_enter Tryz.func41, Tryz.ntmps41
  go_wp2
  go_loopg [0, 5, 6] s.length (fun gg s0 v _ wr => ∃ (rest : List UInt8) (done : List (List UInt8)), rest.length ≤ gg ∧ done.length ≤ 1000000 ∧ rest.length + done.length ≤ 1000000 ∧ s0 = .string (S rest) ∧ wr.ownsRow w.heap.size 9 1 v done.length (done.map encS) ∧ Below w.heap.size w wr ∧ Hid (Sp.split c s = done ++ Sp.split c rest))
  case atStart => exact ⟨s, [], Nat.le_refl _, by simp, by simpa using hs, rfl, ⟨by simp, .inl ⟨rfl, rfl⟩⟩, Below.refl _ _, rfl⟩
  case round =>
    obtain ⟨rest, done, hg, hd, hrd, rfl, hown, hbw, H⟩ := hrel
    have hIB := Tryz.strings_IndexByte (S rest) c.toNat wr
    rw [S_toList, show ((c.toNat : Int).toNat.toUInt8) = c by simp] at hIB
    rcases indexByte_cases rest c with ⟨h1, h2⟩ | ⟨i, h1, h2, h3⟩
    · rw [h1] at hIB
      have H2 := Lib.hid h2
      clear h1 h2
      have hbs : w.heap.size ≤ (wr.alloc (.cells #[.string (S rest)] 9)).heap.size := by have := hbw.size; simp; omega
      go_wp2_with (first | (go_at_call 75; refine hIB.mono ?_; rintro e w2 ⟨rfl, rfl⟩) | (at_builtin; refine wpList_append_own _ rfl _ _ 32 rfl w.heap.size 9 i0 (.string ByteArray.empty) 1 16 Tryz.underlying32 hi0 hz0 hz1 hz2 rfl (by decide) _ _ _ rfl (hown.alloc _) ⟨w2.heap.size, 0, none⟩ 1 1 [.string (S rest)] rfl rfl (cell_one_new _ _ _) (by simp [Value.oneCell']) (by unfold maxLen; omega) (by omega) (by simpa using hbs) ?_; go_must (intro v' w1 hown1 hgrow _)))
      go_ret
      refine ⟨_, rfl, ?_, (below_alloc hbw _).grown hgrow (by have := hbw.size; simp; omega) (fun k hk => own_base hown k hk)⟩
      rw [H.out, H2.out]
      simpa using hown1
    · rw [h1] at hIB
      have H3 := Lib.hid h3
      have hil : (i : Int) < (rest.length : Int) := by omega
      have hw1 : IntKind.i64.wrap ((i : Int) + 1) = (i : Int) + 1 := IntWalk.i64_in _ (by omega)
      clear h1 h3
      go_wp2_with (go_at_call 75; refine hIB.mono ?_; rintro e w2 ⟨rfl, rfl⟩)
      go_region_held_law (fun w' => True) (trivial)
        ((refine step_append_lies (o := ⟨some 21, _, _, _, _, _⟩) _ (by rfl) _ _ _ (by rfl) w.heap.size 9 i0 _ 1 16 Tryz.underlying32 hi0 hz0 hz1 hz2 rfl (by omega) _ done.length (done.map encS) (by rfl) ((hown.alloc _).drew) ⟨w2.heap.size, 0, none⟩ 1 1 [.string (S (rest.take i))] (by rfl) (by rfl) (World.news_of_block (cs := #[.string (S (rest.take i))]) (t := 9) (fr := (0, 0)) (heap_alloc_new w2 _)) (by simp [Value.oneCell']) (by omega) (by unfold maxLen; omega) (by omega) (by have := hbw.size; simp; omega) (w2.heap.size + 1) (by simp) ?_; intro gg cap w1 hown1 hgrow hat hlt))
      all_goals
        go_wp2
        go_roundg (rest.length - (i + 1))
        case measure => omega
        case rel =>
          refine ⟨rest.drop (i + 1), done ++ [rest.take i], by simp, by simp; omega, by simp; omega, ?_, ?_, ?_, ?_⟩
          · simp
          · simpa using hown1
          · exact (below_drewN (below_alloc hbw _) 1).grown hgrow (by have := hbw.size; simp; omega) (fun k hk => own_base hown k hk)
          · show _ = _
            rw [H.out, H3.out]; simp
end Go.Proofs.YtgjlncfhghhaeaaGreatDoor
