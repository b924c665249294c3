/- The plain law of PathParams: what the parameters say. -/
import Derived.Test.YtgjlncfhghhaeaaGreatDoorLaw6c
set_option linter.unusedSimpArgs false
set_option linter.unusedVariables false
namespace Go.Proofs.YtgjlncfhghhaeaaGreatDoor
open Go.RowKit
theorem split_one (c : UInt8) : ∀ (a : List UInt8), c ∉ a → Sp.split c a = [a] := by
  intro a
  induction a with
  | nil => intro _; rfl
  | cons x r ih =>
    intro h
    have h1 : x ≠ c := fun e => h (by rw [e]; exact List.mem_cons_self)
    have h2 : c ∉ r := fun e => h (List.mem_cons_of_mem _ e)
    unfold Sp.split
    rw [if_neg h1, ih h2]
theorem split_two (c : UInt8) (b : List UInt8) : ∀ (a : List UInt8), c ∉ a → Sp.split c (a ++ c :: b) = a :: Sp.split c b := by
  intro a
  induction a with
  | nil => intro _; show Sp.split c (c :: b) = _; conv => lhs; unfold Sp.split
           rw [if_pos rfl]
  | cons x r ih =>
    intro h
    have h1 : x ≠ c := fun e => h (by rw [e]; exact List.mem_cons_self)
    have h2 : c ∉ r := fun e => h (List.mem_cons_of_mem _ e)
    show Sp.split c (x :: (r ++ c :: b)) = _
    conv => lhs; unfold Sp.split
    rw [if_neg h1, ih h2]
structure DigOk (d : List UInt8) (n : Nat) : Prop where
  ne : d ≠ []
  len : d.length ≤ 9
  all : ∀ b ∈ d, Sp.digB b = true
  val : Sp.numV d = n
theorem digB_cases (P : UInt8 → Prop) (h : ∀ i : Fin 10, P (UInt8.ofNat (48 + i.val))) (b : UInt8) (hb : Sp.digB b = true) : P b := by
  unfold Sp.digB at hb
  simp only [Bool.and_eq_true, decide_eq_true_eq, UInt8.le_iff_toNat_le] at hb
  obtain ⟨h1, h2⟩ := hb
  have e1 : (48 : UInt8).toNat = 48 := rfl
  have e2 : (57 : UInt8).toNat = 57 := rfl
  rw [e1] at h1; rw [e2] at h2
  have := h ⟨b.toNat - 48, by omega⟩
  simp only at this
  rw [show 48 + (b.toNat - 48) = b.toNat by omega, UInt8.ofNat_toNat] at this
  exact this
theorem dg_dig (m : Nat) : Sp.digB (dg m) = true := by
  have h := dig_byte m
  unfold Sp.digB
  simp only [Bool.and_eq_true, decide_eq_true_eq, UInt8.le_iff_toNat_le]
  have e1 : (48 : UInt8).toNat = 48 := rfl
  have e2 : (57 : UInt8).toNat = 57 := rfl
  rw [e1, e2]; omega
theorem numV_foldl (l : List UInt8) : ∀ a : Nat, l.foldl (fun n c => 10 * n + (c.toNat - 48)) a = a * 10 ^ l.length + Sp.numV l := by
  induction l with
  | nil => intro a; simp [Sp.numV]
  | cons x r ih =>
    intro a
    unfold Sp.numV
    rw [List.foldl_cons, List.foldl_cons, ih, ih (10 * 0 + (x.toNat - 48))]
    rw [List.length_cons, Nat.pow_succ]
    generalize 10 ^ r.length = q
    generalize x.toNat - 48 = y
    generalize Sp.numV r = z
    rw [Nat.add_mul, Nat.add_mul, show 10 * a * q = a * (q * 10) by rw [Nat.mul_comm q 10, ← Nat.mul_assoc, Nat.mul_comm a 10]]
    omega
theorem numV_dig (m : Nat) (t : List UInt8) : Sp.numV (dig m t) = m * 10 ^ t.length + Sp.numV t := by
  have hb : ∀ m : Nat, (dg m).toNat - 48 = m % 10 := fun m => by have := dig_byte m; omega
  induction m, t using dig.induct with
  | case1 m t h =>
    rw [dig, dif_pos h]
    unfold Sp.numV
    rw [List.foldl_cons, numV_foldl, hb]
    have : 10 * 0 + m % 10 = m := by omega
    rw [this]; rfl
  | case2 m t h ih =>
    rw [dig, dif_neg h, ih]
    have e : Sp.numV (dg m :: t) = (m % 10) * 10 ^ t.length + Sp.numV t := by
      show List.foldl _ _ _ = _
      rw [List.foldl_cons, numV_foldl, hb]; simp
    rw [e, List.length_cons, Nat.pow_succ]
    generalize 10 ^ t.length = q
    generalize Sp.numV t = z
    have h3 : m * q = (m / 10) * (q * 10) + (m % 10) * q := by
      conv => lhs; rw [show m = 10 * (m / 10) + m % 10 by omega]
      rw [Nat.add_mul, Nat.mul_comm q 10, ← Nat.mul_assoc, Nat.mul_comm (m / 10) 10]
    omega
theorem dig_ne (m : Nat) (t : List UInt8) : dig m t ≠ [] := by
  induction m, t using dig.induct with
  | case1 m t h => rw [dig, dif_pos h]; simp
  | case2 m t h ih => rw [dig, dif_neg h]; exact ih
theorem dig_ok (n : Nat) (hn : n < 1000000000) : DigOk (dig n []) n := by
  refine ⟨dig_ne n [], by have := dig_len 8 n [] hn; simpa using this, fun b hb => ?_, ?_⟩
  · rcases dig_mem n [] b hb with h | ⟨j, rfl⟩
    · cases h
    · exact dg_dig j
  · rw [numV_dig]; simp [Sp.numV]
def szW (g : Bool) : List UInt8 := if g then [83, 73, 90, 69, 61] else [115, 105, 122, 101, 61]
theorem up_dig {d : List UInt8} {n : Nat} (h : DigOk d n) : Lib.toUpperA d = d := by
  unfold Lib.toUpperA
  conv => rhs; rw [← List.map_id d]
  exact List.map_congr_left fun b hb => digB_cases (fun b => Lib.upperB b = id b) (by decide) b (h.all b hb)
theorem up_one {d : List UInt8} {n : Nat} (g : Bool) (h : DigOk d n) : upOf g ([32, 115, 105, 122, 101, 61] ++ d) = 32 :: (szW g ++ d) := by
  cases g with
  | false => rfl
  | true =>
    show Lib.toUpperA _ = _
    have : Lib.toUpperA ([32, 115, 105, 122, 101, 61] ++ d) = Lib.toUpperA [32, 115, 105, 122, 101, 61] ++ Lib.toUpperA d := by unfold Lib.toUpperA; rw [List.map_append]
    rw [this, up_dig h]; rfl
theorem no32 {d : List UInt8} {n : Nat} (g : Bool) (h : DigOk d n) : (32 : UInt8) ∉ szW g ++ d := by
  intro hm
  rcases List.mem_append.1 hm with h1 | h1
  · revert h1; cases g <;> decide
  · have := h.all _ h1
    revert this; decide
theorem parts_size {d : List UInt8} {n : Nat} (g : Bool) (h : DigOk d n) : Sp.parts (szW g ++ d) = (Sp.wSize, d, true, true) := by
  have hb : d.any Sp.badB = false := by
    rw [List.any_eq_false]
    intro b hb
    exact digB_cases (fun b => ¬ Sp.badB b = true) (by decide) b (h.all b hb)
  have hne : d.isEmpty = false := by cases d with
    | nil => exact absurd rfl h.ne
    | cons _ _ => rfl
  have hc : Sp.cutB 61 (szW g ++ d) = ((szW g).take 4, d, true) := by cases g <;> rfl
  unfold Sp.parts
  rw [hc]
  simp only [hb, hne]
  cases g <;> rfl
theorem number_ok {d : List UInt8} {n : Nat} (h : DigOk d n) : Sp.number d 9 = (n, 0) := by
  unfold Sp.number
  have hall : d.all Sp.digB = true := List.all_eq_true.2 h.all
  have hne : d.isEmpty = false := by cases d with
    | nil => exact absurd rfl h.ne
    | cons _ _ => rfl
  have hl := h.len
  rw [if_neg, h.val]
  rw [hne, hall]
  rintro (h | h | h)
  · cases h
  · simp at h; omega
  · cases h
theorem step_size {d : List UInt8} {n : Nat} (g : Bool) (h : DigOk d n) (x : Sp.Pars) (e : Int) (l : List (List UInt8)) (hl : l.contains Sp.wSize = false) : Sp.step (x, e, l) (szW g ++ d) = some (⟨true, x.eight, n⟩, max e 0, l ++ [Sp.wSize]) := by
  unfold Sp.step
  rw [parts_size g h]
  simp only [hl]
  unfold Sp.say Sp.saySize
  rw [number_ok h]
  rfl
theorem step_again {d : List UInt8} {n : Nat} (g : Bool) (h : DigOk d n) (x : Sp.Pars) (e : Int) (l : List (List UInt8)) (hl : l.contains Sp.wSize = true) : Sp.step (x, e, l) (szW g ++ d) = some (x, max e 1, l ++ [Sp.wSize]) := by
  unfold Sp.step
  rw [parts_size g h]
  simp only [hl]
  unfold Sp.saySize
  rw [number_ok h]
  rfl
theorem pp_cons (r : List UInt8) : Sp.parseParams (32 :: r) = (match Sp.steps (Sp.pars0, 0, []) (Sp.split 32 r) with | none => (Sp.pars0, 5) | some x => if x.2.1 ≠ 0 then (Sp.pars0, x.2.1) else (x.1, 0)) := by
  conv => lhs; unfold Sp.parseParams
  simp only
  rw [if_neg (show ¬ ((32 : UInt8) ≠ 32) by simp)]
  rfl
theorem steps_cons (x : Sp.Pars × Int × List (List UInt8)) (a : List UInt8) (r : List (List UInt8)) : Sp.steps x (a :: r) = (match Sp.step x a with | none => none | some y => Sp.steps y r) := rfl
theorem step_blank (x : Sp.Pars × Int × List (List UInt8)) : Sp.step x [] = none := rfl
def w8u : List UInt8 := [115, 109, 116, 112, 117, 116, 102, 56]
theorem step_other (x : Sp.Pars) (e : Int) (l : List (List UInt8)) : Sp.step (x, e, l) w8u = some (x, max e 1, l ++ [w8u]) := rfl
theorem pxy (r : List UInt8) : Sp.parseP (60 :: 120 :: 64 :: 121 :: 62 :: r) = (⟨false, false, [], ([120], [121])⟩, r, 0) := by
  rw [parseP_60]
  have h1 : Sp.route (120 :: 64 :: 121 :: 62 :: r) = ([], 120 :: 64 :: 121 :: 62 :: r, true) := rfl
  have h2 : Sp.ends (120 :: 64 :: 121 :: 62 :: r) = some 3 := rfl
  have h3 : xOf [120, 64, 121] [] (Sp.domains []) = some (⟨false, false, [], ([120], [121])⟩, 0) := by decide +kernel
  rw [h1]
  simp only [h2]
  show finOf _ r (xOf [120, 64, 121] [] (Sp.domains [])) = _
  rw [h3]
  unfold finOf
  simp only
  rw [if_neg]
  simp only [List.length_cons]
  omega
theorem f3_of {s : List UInt8} {x : Sp.Pars} (h : Sp.parseParams s = (x, 0)) : ∃ y, Sp.fromP (60 :: 120 :: 64 :: 121 :: 62 :: s) = (y, x, 0) := by
  refine ⟨⟨false, false, [], ([120], [121])⟩, ?_⟩
  unfold Sp.fromP
  rw [pxy]
  simp [h]
theorem f7_of {s : List UInt8} {x : Sp.Pars} (h : Sp.parseParams s = (x, 0)) (hs : s ≠ []) : ∃ y, Sp.toP (60 :: 120 :: 64 :: 121 :: 62 :: s) = (y, 1) := by
  refine ⟨Sp.path0, ?_⟩
  unfold Sp.toP
  rw [pxy]
  simp [h, hs]
theorem facts_none {d : List UInt8} {n : Nat} (g : Bool) (h : DigOk d n) : Facts (32 :: (szW g ++ d)) [] n false := by
  have h1 : Sp.parseParams (32 :: (szW g ++ d)) = (⟨true, false, n⟩, 0) := by
    rw [pp_cons, split_one _ _ (no32 g h), steps_cons, step_size g h Sp.pars0 0 [] rfl]; rfl
  refine ⟨by rw [List.append_nil]; exact h1, h1, f3_of h1, ⟨Sp.pars0, ?_⟩, ⟨Sp.pars0, ?_⟩, ⟨Sp.pars0, ?_⟩, f7_of h1 (by simp)⟩
  · show Sp.parseParams (32 :: ((szW g ++ d) ++ 32 :: (szW g ++ d))) = _
    rw [pp_cons, split_two _ _ _ (no32 g h), split_one _ _ (no32 g h), steps_cons, step_size g h Sp.pars0 0 [] rfl]
    simp only
    rw [steps_cons, step_again g h _ _ _ rfl]; rfl
  · show Sp.parseParams (32 :: ((szW g ++ d) ++ 32 :: w8u)) = _
    rw [pp_cons, split_two _ _ _ (no32 g h), show Sp.split 32 w8u = [w8u] by decide, steps_cons, step_size g h Sp.pars0 0 [] rfl]
    simp only
    rw [steps_cons, step_other]; rfl
  · show Sp.parseParams (32 :: ((szW g ++ d) ++ 32 :: [])) = _
    rw [pp_cons, split_two _ _ _ (no32 g h), show Sp.split 32 [] = [[]] by decide, steps_cons, step_size g h Sp.pars0 0 [] rfl]
    simp only
    rw [steps_cons, step_blank]
theorem facts_body {d : List UInt8} {n : Nat} (g : Bool) (h : DigOk d n) (bd : List UInt8) (b8 : Bool) (h32 : (32 : UInt8) ∉ bd) (hst : ∀ x e l, l.contains Sp.wBody = false → Sp.step (x, e, l) bd = some (⟨x.has, b8, x.size⟩, max e 0, l ++ [Sp.wBody])) : Facts (32 :: (szW g ++ d)) (32 :: bd) n b8 := by
  have h0 : Sp.parseParams (32 :: (szW g ++ d)) = (⟨true, false, n⟩, 0) := by
    rw [pp_cons, split_one _ _ (no32 g h), steps_cons, step_size g h Sp.pars0 0 [] rfl]; rfl
  have h1 : Sp.parseParams (32 :: ((szW g ++ d) ++ 32 :: bd)) = (⟨true, b8, n⟩, 0) := by
    rw [pp_cons, split_two _ _ _ (no32 g h), split_one _ _ h32, steps_cons, step_size g h Sp.pars0 0 [] rfl]
    simp only
    rw [steps_cons, hst _ _ _ rfl]; rfl
  have h2 : Sp.parseParams (32 :: (bd ++ 32 :: (szW g ++ d))) = (⟨true, b8, n⟩, 0) := by
    rw [pp_cons, split_two _ _ _ h32, split_one _ _ (no32 g h), steps_cons, hst _ _ _ rfl]
    simp only
    rw [steps_cons, step_size g h _ _ _ rfl]; rfl
  refine ⟨h1, h2, f3_of h2, ⟨Sp.pars0, ?_⟩, ⟨Sp.pars0, ?_⟩, ⟨Sp.pars0, ?_⟩, f7_of h0 (by simp)⟩
  · show Sp.parseParams (32 :: ((szW g ++ d) ++ 32 :: (bd ++ 32 :: (szW g ++ d)))) = _
    rw [pp_cons, split_two _ _ _ (no32 g h), split_two _ _ _ h32, split_one _ _ (no32 g h), steps_cons, step_size g h Sp.pars0 0 [] rfl]
    simp only
    rw [steps_cons, hst _ _ _ rfl]
    simp only
    rw [steps_cons, step_again g h _ _ _ rfl]; rfl
  · show Sp.parseParams (32 :: ((szW g ++ d) ++ 32 :: (w8u ++ 32 :: bd))) = _
    rw [pp_cons, split_two _ _ _ (no32 g h), split_two _ _ _ (show (32 : UInt8) ∉ w8u by decide), split_one _ _ h32, steps_cons, step_size g h Sp.pars0 0 [] rfl]
    simp only
    rw [steps_cons, step_other]
    simp only
    rw [steps_cons, hst _ _ _ rfl]; rfl
  · show Sp.parseParams (32 :: ((szW g ++ d) ++ 32 :: ([] ++ 32 :: bd))) = _
    rw [pp_cons, split_two _ _ _ (no32 g h), split_two _ _ _ (show (32 : UInt8) ∉ [] by decide), split_one _ _ h32, steps_cons, step_size g h Sp.pars0 0 [] rfl]
    simp only
    rw [steps_cons, step_blank]
theorem step_body (bd : List UInt8) (b8 : Bool) (v : List UInt8) (hp : Sp.parts bd = (Sp.wBody, v, true, true)) (h8 : (Sp.low v == Sp.w8) = b8) (h7 : b8 = true ∨ Sp.low v = Sp.w7) (x : Sp.Pars) (e : Int) (l : List (List UInt8)) (hl : l.contains Sp.wBody = false) : Sp.step (x, e, l) bd = some (⟨x.has, b8, x.size⟩, max e 0, l ++ [Sp.wBody]) := by
  unfold Sp.step
  rw [hp]
  simp only [hl]
  unfold Sp.say
  have hx : Sp.sayBody x v = (⟨x.has, b8, x.size⟩, 0) := by
    unfold Sp.sayBody
    simp only [h8]
    rcases h7 with h | h
    · rw [h]; rfl
    · rw [h]; cases b8 <;> rfl
  rw [if_neg (show ¬ Sp.wBody = Sp.wSize by decide), hx]
  rfl
theorem facts_of (n k : Nat) (g : Bool) (hn : n < 1000000000) (hk : k < 3) : Facts (upOf g (oneOf n)) (upOf g (twoOf k)) n (k == 2) := by
  have h := dig_ok n hn
  unfold oneOf
  rw [up_one g h]
  have h3 : k = 0 ∨ k = 1 ∨ k = 2 := by omega
  rcases h3 with rfl | rfl | rfl
  · have e : upOf g (twoOf 0) = [] := by cases g <;> rfl
    rw [e]
    exact facts_none g h
  · cases g with
    | false =>
      exact facts_body false h [98, 111, 100, 121, 61, 55, 98, 105, 116] false (by decide) (step_body _ _ [55, 98, 105, 116] (by decide) (by decide) (.inr (by decide)))
    | true =>
      exact facts_body true h [66, 79, 68, 89, 61, 55, 66, 73, 84] false (by decide) (step_body _ _ [55, 66, 73, 84] (by decide) (by decide) (.inr (by decide)))
  · cases g with
    | false =>
      exact facts_body false h [98, 111, 100, 121, 61, 56, 98, 105, 116, 109, 105, 109, 101] true (by decide) (step_body _ _ [56, 98, 105, 116, 109, 105, 109, 101] (by decide) (by decide) (.inl rfl))
    | true =>
      exact facts_body true h [66, 79, 68, 89, 61, 56, 66, 73, 84, 77, 73, 77, 69] true (by decide) (step_body _ _ [56, 66, 73, 84, 77, 73, 77, 69] (by decide) (by decide) (.inl rfl))
theorem law6_true (sz bd : Nat) (gr : Bool) (w : World) (hsz : sz < 4294967296) (hbd : bd < 256) (ht : AtabIs w) (hm : MaxIs w) (hp : PowIs w) (hsy : SaysIs w) : Calls Tryz.prog 3 #[.int .u32 sz, .int .u8 bd, .bool gr] w (Ret (.bool true) w) :=
  law6_walk sz bd gr w (facts_of _ _ gr (Nat.mod_lt _ (by decide)) (Nat.mod_lt _ (by decide))) hsz hbd ht hm hp hsy
end Go.Proofs.YtgjlncfhghhaeaaGreatDoor
