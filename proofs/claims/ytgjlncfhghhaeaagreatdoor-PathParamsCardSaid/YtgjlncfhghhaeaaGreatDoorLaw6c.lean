/- The law PathParams: the walk. -/
import Derived.Test.YtgjlncfhghhaeaaGreatDoorLaw6b
import Derived.RegionTactic
import Derived.BigRegion
import Derived.BigQuiet
import Derived.Deep.CutBlock
set_option linter.unusedSimpArgs false
set_option linter.unusedVariables false
namespace Go.Proofs.YtgjlncfhghhaeaaGreatDoor
open Go.RowKit
def oneOf (n : Nat) : List UInt8 := [32, 115, 105, 122, 101, 61] ++ dig n []
def twoOf (k : Nat) : List UInt8 := if k = 0 then [] else if k = 1 then [32, 98, 111, 100, 121, 61, 55, 98, 105, 116] else [32, 98, 111, 100, 121, 61, 56, 98, 105, 116, 109, 105, 109, 101]
theorem dig_len : ∀ (j m : Nat) (t : List UInt8), m < 10 ^ (j + 1) → (dig m t).length ≤ t.length + j + 1 := by
  intro j
  induction j with
  | zero => intro m t h; rw [dig, dif_pos (by omega)]; simp
  | succ j ih =>
    intro m t h
    rw [dig]
    split
    · simp
    · have := ih (m / 10) (dg m :: t) (by rw [Nat.pow_succ] at h; omega)
      simp at this; omega
def upOf (g : Bool) (s : List UInt8) : List UInt8 := if g then Lib.toUpperA s else s
@[go_sem] theorem idx0 (a b c : Value) (w : World) : Sem.run Tryz.prog (Instr.index 25 (.agg #[a, b, c]) (.int .u8 0)) w = .ok a w := by kernel_rfl
@[go_sem] theorem idx1 (a b c : Value) (w : World) : Sem.run Tryz.prog (Instr.index 25 (.agg #[a, b, c]) (.int .u8 1)) w = .ok b w := by kernel_rfl
@[go_sem] theorem idx2 (a b c : Value) (w : World) : Sem.run Tryz.prog (Instr.index 25 (.agg #[a, b, c]) (.int .u8 2)) w = .ok c w := by kernel_rfl
theorem twoOf_len (k : Nat) : (twoOf k).length ≤ 14 := by unfold twoOf; split; (exact Nat.zero_le _); split; (exact (by decide)); (exact (by decide))
theorem upper_any (s : List UInt8) (w : World) (hs : s.length ≤ 1000000) (ha : ∀ b ∈ s, b.toNat < 128) : Calls Tryz.prog 9 #[.string (S s)] w (Ret (.string (S (Lib.toUpperA s))) w) := by
  have h := Tryz.strings_ToUpper_ascii (S s) w (by rw [S_size]; omega) (fun j b hb => ha b (by rw [S_toList] at hb; exact List.mem_of_getElem? hb))
  rw [S_toList] at h
  exact h
theorem dig_mem (m : Nat) (t : List UInt8) : ∀ b ∈ dig m t, b ∈ t ∨ ∃ j, b = dg j := by
  induction m, t using dig.induct with
  | case1 m t h => intro b hb; rw [dig, dif_pos h] at hb; rcases List.mem_cons.1 hb with h | h; (exact .inr ⟨m, h⟩); (exact .inl h)
  | case2 m t h ih => intro b hb; rw [dig, dif_neg h] at hb; rcases ih b hb with h | h; (rcases List.mem_cons.1 h with h | h; (exact .inr ⟨m, h⟩); (exact .inl h)); (exact .inr h)
theorem dg_lt (m : Nat) : (dg m).toNat < 128 := by have := dig_byte m; omega
theorem one_asc (n : Nat) : ∀ b ∈ [32, 115, 105, 122, 101, 61] ++ dig n [], b.toNat < 128 := by
  intro b hb
  rcases List.mem_append.1 hb with h | h
  · exact (show ∀ b ∈ ([32, 115, 105, 122, 101, 61] : List UInt8), b.toNat < 128 by decide) b h
  · rcases dig_mem n [] b h with h | ⟨j, rfl⟩
    · cases h
    · exact dg_lt j
theorem two_asc (k : Nat) : ∀ b ∈ twoOf k, b.toNat < 128 := by
  unfold twoOf; split
  · decide
  · split <;> decide
structure Facts (p q : List UInt8) (n : Nat) (b8 : Bool) : Prop where
  f1 : Sp.parseParams (p ++ q) = (⟨true, b8, n⟩, 0)
  f2 : Sp.parseParams (q ++ p) = (⟨true, b8, n⟩, 0)
  f3 : ∃ x, Sp.fromP (60 :: 120 :: 64 :: 121 :: 62 :: (q ++ p)) = (x, ⟨true, b8, n⟩, 0)
  f4 : ∃ x, Sp.parseParams (p ++ (q ++ p)) = (x, 1)
  f5 : ∃ x, Sp.parseParams (p ++ (32 :: 115 :: 109 :: 116 :: 112 :: 117 :: 116 :: 102 :: 56 :: q)) = (x, 1)
  f6 : ∃ x, Sp.parseParams (p ++ (32 :: q)) = (x, 5)
  f7 : ∃ x, Sp.toP (60 :: 120 :: 64 :: 121 :: 62 :: p) = (x, 1)
set_option maxHeartbeats 4000000 in
set_option maxRecDepth 100000 in
theorem law6_walk (sz bd : Nat) (gr : Bool) (w : World) (hF : Facts (upOf gr (oneOf (sz % 1000000000))) (upOf gr (twoOf (bd % 3))) (sz % 1000000000) (bd % 3 == 2)) (hsz : sz < 4294967296) (hbd : bd < 256) (ht : AtabIs w) (hm : MaxIs w) (hp : PowIs w) (hsy : SaysIs w) : Calls Tryz.prog 3 #[.int .u32 sz, .int .u8 bd, .bool gr] w (Ret (.bool true) w) := by
  obtain ⟨n, hn⟩ : ∃ n, n = sz % 1000000000 := ⟨_, rfl⟩
  obtain ⟨k, hk⟩ : ∃ k : Nat, k = bd % 3 := ⟨_, rfl⟩
  rw [← hn, ← hk] at hF
  have hnz : (sz : Int) % 1000000000 = (n : Int) := by omega
  have hnl : n < 1000000000 := by omega
  have hkz : (bd : Int) % 3 = (k : Int) := by omega
  have hkt : (bd : Int).tmod 3 = (k : Int) := by rw [Int.tmod_eq_emod_of_nonneg (by omega)]; exact hkz
  have hk3 : k < 3 := by omega
  clear hn hk
  have hdg := fun W => digits_any n W hnl
  have hdl := dig_len 8 n [] hnl
  have hda := one_asc n
  have HF := Lib.hid hF
  clear hF
  unfold oneOf at HF
  obtain ⟨dd, hdd⟩ : ∃ dd, dd = dig n [] := ⟨_, rfl⟩
  rw [← hdd] at hdg hdl hda HF
  simp only [List.length_nil] at hdl
  have HDA := Lib.hid hda
  clear hdd hda
  go_enter Tryz.func3, Tryz.ntmps3
  go_upto_region 3 with (fail)
  rw [hnz]
  go_cut [9, 10] (fun s9 s10 wx => s9 = .string (S ([32, 115, 105, 122, 101, 61] ++ dd)) ∧ s10 = .string (S (twoOf k)) ∧ Below w.heap.size w wx)
  case first =>
    have h3 : k = 0 ∨ k = 1 ∨ k = 2 := by omega
    clear hk3
    rcases h3 with h3 | h3 | h3
    · subst h3
      have hz : (bd : Int) % 3 = 0 := by omega
      have hzt : (bd : Int).tmod 3 = 0 := by omega
      clear hkz hkt
      go_region_with (go_at_call 8; refine (hdg _).mono ?_; rintro e w1 ⟨rfl, hb1⟩)
      all_goals go_wp2_with fail
      all_goals (go_meet; exact ⟨rfl, rfl, by first | assumption | exact below_trans' (below_drew (Below.refl _ _)) (by assumption)⟩)
    · subst h3
      have hz : (bd : Int) % 3 = 1 := by omega
      have hzt : (bd : Int).tmod 3 = 1 := by omega
      clear hkz hkt
      go_region_with (go_at_call 8; refine (hdg _).mono ?_; rintro e w1 ⟨rfl, hb1⟩)
      all_goals go_wp2_with fail
      all_goals (go_meet; exact ⟨rfl, rfl, by first | assumption | exact below_trans' (below_drew (Below.refl _ _)) (by assumption)⟩)
    · subst h3
      have hz : (bd : Int) % 3 = 2 := by omega
      have hzt : (bd : Int).tmod 3 = 2 := by omega
      clear hkz hkt
      go_region_with (go_at_call 8; refine (hdg _).mono ?_; rintro e w1 ⟨rfl, hb1⟩)
      all_goals go_wp2_with fail
      all_goals (go_meet; exact ⟨rfl, rfl, by first | assumption | exact below_trans' (below_drew (Below.refl _ _)) (by assumption)⟩)
  case rest =>
    obtain ⟨rfl, rfl, hbx⟩ := hcut
    go_upto_if 39 with (fail)
    have ho := twoOf_len k
    have HOA := Lib.hid (two_asc k)
    obtain ⟨o2, ho2⟩ : ∃ o2, o2 = twoOf k := ⟨_, rfl⟩
    rw [← ho2] at ho HOA HF ⊢
    clear ho2
    go_cut [9, 10] (fun s9 s10 wx => s9 = .string (S (upOf gr ([32, 115, 105, 122, 101, 61] ++ dd))) ∧ s10 = .string (S (upOf gr o2)) ∧ Below w.heap.size w wx)
    case first =>
      cases gr with
      | false =>
        go_wp2_with fail
        go_meet
        exact ⟨rfl, rfl, hbx⟩
      | true =>
        have hu1 := fun W => upper_any _ W (by simp; omega) HDA.out
        have hu2 := fun W => upper_any _ W (by omega) HOA.out
        go_wp2_with fail
        refine (hu1 _).mono ?_
        rintro e w1 ⟨rfl, hb1⟩
        go_wp2_with fail
        refine (hu2 _).mono ?_
        rintro e w2 ⟨rfl, hb2⟩
        go_wp2_with fail
        go_meet
        exact ⟨rfl, rfl, below_trans' (below_trans' hbx hb1) hb2⟩
    case rest =>
      obtain ⟨rfl, rfl, hbx⟩ := hcut
      rename World => w1
      have hpl : (upOf gr ([32, 115, 105, 122, 101, 61] ++ dd)).length ≤ 15 := by unfold upOf; cases gr <;> simp [Lib.toUpperA] <;> omega
      have hql : (upOf gr o2).length ≤ 14 := by unfold upOf; cases gr <;> simp [Lib.toUpperA] <;> omega
      generalize upOf gr ([32, 115, 105, 122, 101, 61] ++ dd) = p at HF hpl ⊢
      generalize upOf gr o2 = q at HF hql ⊢
      obtain ⟨f1, f2, ⟨x3, f3⟩, ⟨x4, f4⟩, ⟨x5, f5⟩, ⟨x6, f6⟩, ⟨x7, f7⟩⟩ := HF.out
      have hk8 : ((k : Int) == 2) = (k == 2) := by rw [Bool.eq_iff_iff, beq_iff_eq, beq_iff_eq]; omega
      generalize (k == 2) = b8 at f1 f2 f3 hk8
      have hpp := fun (s : List UInt8) (hs : s.length ≤ 700000) W (hW : Below w.heap.size w W) => parseParams_any s W (by omega) (hm.below hW) (hsy.below hW)
      have hto := fun (s : List UInt8) (hs : s.length ≤ 700000) W (hW : Below w.heap.size w W) => to_any s W hs (ht.below hW) (hm.below hW) (hp.below hW) (hsy.below hW)
      have hfr := fun (s : List UInt8) (hs : s.length ≤ 700000) W (hW : Below w.heap.size w W) => from_any s W hs (ht.below hW) (hm.below hW) (hp.below hW) (hsy.below hW)
      have htl := fun W (hW : Below w.heap.size w W) => tells_any W (ht.below hW) (hm.below hW) (hp.below hW) (hsy.below hW)
      clear ht hm hp hsy
      have hQ := below_alloc hbx (.cells #[.bool true, .bool b8, .int .i64 n] 28)
      have P11 := Lib.hid (ParAt.mk' w1 ⟨true, b8, n⟩ 28)
      have c1 := hpp (p ++ q) (by rw [List.length_append]; omega) _ hQ
      unfold ppPost at c1
      rw [f1] at c1
      simp only at c1
      go_wp2_with fail
      refine c1.mono ?_
      rintro e w2 ⟨rfl, hb2⟩
      clear c1
      have hK : Below w2.heap.size w2 (w2.alloc (.cells #[.bool true, .bool b8, .int .i64 n] 28)) := below_alloc (Below.refl _ _) _
      have P12 := Lib.hid (ParAt.mk' w2 ⟨true, b8, n⟩ 28)
      have P11a := Lib.hid (P11.out.below' (below_trans' hb2 hK))
      have hQ2 := below_trans' hQ (below_trans' hb2 hK)
      have c2 := hpp (q ++ p) (by rw [List.length_append]; omega) _ hQ2
      unfold ppPost at c2
      rw [f2] at c2
      simp only at c2
      clear hQ hK hb2 P11
      go_wp2_with fail
      refine c2.mono ?_
      rintro e w3 ⟨rfl, hb3⟩
      clear c2
      have hK : Below w3.heap.size w3 (w3.alloc (.cells #[.bool true, .bool b8, .int .i64 n] 28)) := below_alloc (Below.refl _ _) _
      have P14 := Lib.hid (ParAt.mk' w3 ⟨true, b8, n⟩ 28)
      have P11 := Lib.hid (P11a.out.below' (below_trans' hb3 hK))
      have P12a := Lib.hid (P12.out.below' (below_trans' hb3 hK))
      have hQ3 := below_trans' hQ2 (below_trans' hb3 hK)
      have c3 := hfr (60 :: 120 :: 64 :: 121 :: 62 :: (q ++ p)) (by simp only [List.length_cons, List.length_append]; omega) _ hQ3
      unfold fromPost ag5 ag3 at c3
      rw [f3] at c3
      simp only at c3
      clear hQ2 hK hb3 P11a P12
      go_wp2_with fail
      refine c3.mono ?_
      rintro e w4 ⟨v, rfl, hrow, hb4⟩
      obtain ⟨A, cc, rfl, -, -⟩ := hrow
      obtain ⟨y0, y1, y2, y3, y4⟩ := x3
      clear c3
      have hK1 : Below w4.heap.size w4 (w4.alloc (.cells #[.bool y0, .bool y1, .slice A y2.length cc, .string (S y3), .string (S y4)] 36)) := below_alloc (Below.refl _ _) _
      have hK : Below w4.heap.size w4 ((w4.alloc (.cells #[.bool y0, .bool y1, .slice A y2.length cc, .string (S y3), .string (S y4)] 36)).alloc (.cells #[.bool true, .bool b8, .int .i64 n] 28)) := below_alloc hK1 _
      have hP17 : ParAt ((w4.alloc (.cells #[.bool y0, .bool y1, .slice A y2.length cc, .string (S y3), .string (S y4)] 36)).alloc (.cells #[.bool true, .bool b8, .int .i64 n] 28)) (w4.heap.size + 1) ⟨true, b8, n⟩ := by
        have := ParAt.mk' (w4.alloc (.cells #[.bool y0, .bool y1, .slice A y2.length cc, .string (S y3), .string (S y4)] 36)) ⟨true, b8, n⟩ 28
        simpa using this
      have hQ4 := below_trans' hQ3 (below_trans' hb4 hK)
      have hb4K := below_trans' hb4 hK
      have HP11 := Lib.hid (P11.out.below' hb4)
      have HP12 := Lib.hid (P12a.out.below' hb4)
      have HP14 := Lib.hid (P14.out.below' hb4)
      have HQ4 := Lib.hid hQ4
      clear hQ3 hK1 hK hP17 hQ4 hb4K hb4 P11 P12a P14
      have c4 := hpp (p ++ (q ++ p)) (by simp only [List.length_append]; omega) _ HQ4.out
      unfold ppPost at c4
      rw [f4] at c4
      have c5 := hpp (p ++ (32 :: 115 :: 109 :: 116 :: 112 :: 117 :: 116 :: 102 :: 56 :: q)) (by simp only [List.length_append, List.length_cons]; omega)
      unfold ppPost at c5
      rw [f5] at c5
      have c6 := hpp (p ++ (32 :: q)) (by simp only [List.length_append, List.length_cons]; omega)
      unfold ppPost at c6
      rw [f6] at c6
      have c7 := hto (60 :: 120 :: 64 :: 121 :: 62 :: p) (by simp only [List.length_cons]; omega)
      unfold toPost ag5 at c7
      rw [f7] at c7
      have c8 := hpp [] (by decide)
      unfold ppPost Sp.parseParams Sp.pars0 at c8
      obtain ⟨x40, x41, x42⟩ := x4
      obtain ⟨x50, x51, x52⟩ := x5
      obtain ⟨x60, x61, x62⟩ := x6
      obtain ⟨x70, x71, x72, x73, x74⟩ := x7
      simp only at c4 c5 c6 c7 c8
      clear hpp hto hfr f1 f2 f3 f4 f5 f6 f7 HF
      obtain ⟨p0, p1, p2, -, -, -⟩ := HP11.out
      obtain ⟨q0, q1, q2, -, -, -⟩ := HP12.out
      obtain ⟨r0, r1, r2, -, -, -⟩ := HP14.out
      have l1 : w1.heap.size < w4.heap.size := World.block_lt_of_cell? w4 _ p0
      have l2 : w2.heap.size < w4.heap.size := World.block_lt_of_cell? w4 _ q0
      have l3 : w3.heap.size < w4.heap.size := World.block_lt_of_cell? w4 _ r0
      simp only at p0 p1 p2 q0 q1 q2 r0 r1 r2
      clear HP11 HP12 HP14
      go_wp2_with fail
      refine c4.mono ?_
      rintro e w5 ⟨rfl, hb5⟩
      clear p0 p1 p2 q0 q1 q2 r0 r1 r2
      have hQ5 := below_trans' HQ4.out (below_alloc hb5 (.cells #[.bool x40, .bool x41, .int .i64 x42] 28))
      have c5a := c5 _ hQ5
      have HQ5 := Lib.hid hQ5
      clear c4 c5 hb5 hQ5 HQ4
      go_wp2_with fail
      refine c5a.mono ?_
      rintro e w6 ⟨rfl, hb6⟩
      have hQ6 := below_trans' HQ5.out (below_alloc hb6 (.cells #[.bool x50, .bool x51, .int .i64 x52] 28))
      have c6a := c6 _ hQ6
      have HQ6 := Lib.hid hQ6
      clear c5a c6 hb6 hQ6 HQ5
      go_wp2_with fail
      refine c6a.mono ?_
      rintro e w7 ⟨rfl, hb7⟩
      have hQ7 := below_trans' HQ6.out (below_alloc hb7 (.cells #[.bool x60, .bool x61, .int .i64 x62] 28))
      have c7a := c7 _ hQ7
      have HQ7 := Lib.hid hQ7
      clear c6a c7 hb7 hQ7 HQ6
      go_wp2_with fail
      refine c7a.mono ?_
      rintro e w8 ⟨v8, rfl, hr8, hb8⟩
      obtain ⟨A8, cc8, rfl, -, -⟩ := hr8
      have hQ8 := below_trans' HQ7.out (below_alloc hb8 (.cells #[.bool x70, .bool x71, .slice A8 x72.length cc8, .string (S x73), .string (S x74)] 36))
      have c8a := c8 _ hQ8
      have HQ8 := Lib.hid hQ8
      clear c7a c8 hb8 hQ8 HQ7
      go_wp2_with fail
      refine c8a.mono ?_
      rintro e w9 ⟨rfl, hb9⟩
      have hQ9 := below_trans' HQ8.out (below_alloc hb9 (.cells #[.bool false, .bool false, .int .i64 0] 28))
      have HT := Lib.hid (htl _ hQ9)
      have HQ9 := Lib.hid hQ9
      clear c8a hb9 hQ9 HQ8 htl
      go_wp2_with fail
      refine HT.out.mono ?_
      rintro e w10 ⟨rfl, hb10⟩
      go_wp2_with fail
      go_ret
      exact ⟨rfl, below_trans' HQ9.out hb10⟩
end Go.Proofs.YtgjlncfhghhaeaaGreatDoor
