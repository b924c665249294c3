/- path.Parse. -/
import Derived.Test.YtgjlncfhghhaeaaGreatDoorPath6
import Derived.RegionTactic
import Derived.BigRegion
import Derived.Deep.CutBlock
set_option linter.unusedSimpArgs false
set_option linter.unusedVariables false
namespace Go.Proofs.YtgjlncfhghhaeaaGreatDoor
open Go.RowKit
def ag5 (p : Sp.Path) (v : Value) : Value := .agg #[.bool p.null, .bool p.post, v, .string (S p.addr.1), .string (S p.addr.2)]
def parsePPost (s : List UInt8) (w : World) (e : Ending) (w' : World) : Prop := ∃ v, e = .returned (.tuple #[ag5 (Sp.parseP s).1 v, .string (S (Sp.parseP s).2.1), .int .i64 (Sp.parseP s).2.2]) ∧ Row encS w' v (Sp.parseP s).1.route ∧ (∀ k, v.ownBlock = some k → w.heap.size ≤ k) ∧ Below w.heap.size w w'
theorem idxB_lt (c : UInt8) : ∀ (s : List UInt8) (k : Nat), Sp.idxB c s = some k → k < s.length := by
  intro s
  induction s with
  | nil => intro k h; cases h
  | cons x r ih =>
    intro k h
    unfold Sp.idxB at h
    split at h
    · cases h; simp
    · cases hr : Sp.idxB c r with
      | none => rw [hr] at h; cases h
      | some j => rw [hr] at h; cases h; have := ih j hr; simp; omega
theorem ends_lt (s : List UInt8) (k : Nat) (h : Sp.ends s = some k) : k < s.length := by
  rw [ends_many] at h
  have hm := manyOf_le s
  cases hr : Sp.idxB 62 (s.drop (manyOf s)) with
  | none => rw [hr] at h; cases h
  | some j => rw [hr] at h; simp at h; have := idxB_lt 62 _ j hr; simp at this; omega
theorem route_len (s : List UInt8) : (Sp.route s).1.length ≤ s.length + 1 ∧ (∀ p ∈ (Sp.route s).1, p.length ≤ s.length) ∧ (Sp.route s).2.1.length ≤ s.length := by
  unfold Sp.route
  split
  · have hc := cutB_len 58 s
    dsimp only
    split
    · have hs := split_len 44 (Sp.cutB 58 s).1
      split
      · simp
      · rename_i l hl
        have hr := routeParts_len _ l hl
        refine ⟨by have := hr.1; simp only; omega, fun p hp => ?_, by simp only; omega⟩
        have := hr.2 (Sp.cutB 58 s).1.length hs.2 p hp
        omega
    · simp
  · simp
/-- What the switch makes of it. -/
def xOf (on : List UInt8) (l : List (List UInt8)) (dw : Int) : Option (Sp.Path × Int) :=
  if on.isEmpty && l.isEmpty then some (⟨true, false, l, ([], [])⟩, dw)
  else if Sp.low on == Sp.wPost && l.isEmpty then some (⟨false, true, l, ([], [])⟩, dw)
  else (if (Sp.parseA on).2 = 5 ∨ dw = 5 then none else some (⟨false, false, l, (Sp.parseA on).1⟩, max dw (Sp.parseA on).2))
def finOf (n : Nat) (bh : List UInt8) : Option (Sp.Path × Int) → Sp.Path × List UInt8 × Int
  | none => (Sp.path0, [], 5)
  | some p => if p.2 ≠ 0 ∨ 256 < n - bh.length then (Sp.path0, [], 3) else (p.1, bh, 0)
theorem parseP_60 (inner : List UInt8) : Sp.parseP (60 :: inner) = (match (Sp.route inner).2.2, Sp.ends (Sp.route inner).2.1 with
    | true, some k => finOf (inner.length + 1) ((Sp.route inner).2.1.drop (k + 1)) (xOf ((Sp.route inner).2.1.take k) (Sp.route inner).1 (Sp.domains (Sp.route inner).1))
    | _, _ => (Sp.path0, [], 5)) := by
  show (match (Sp.route inner).2.2, Sp.ends (Sp.route inner).2.1 with | true, some k => _ | _, _ => _) = _
  cases (Sp.route inner).2.2 with
  | false => rfl
  | true =>
    cases Sp.ends (Sp.route inner).2.1 with
    | none => rfl
    | some k =>
      show _ = finOf _ _ (xOf _ _ _)
      unfold xOf finOf
      rfl
set_option maxHeartbeats 1000000 in
theorem parseP_no (s : List UInt8) (w : World) (h : ∀ t, s ≠ 60 :: t) : Calls Tryz.prog 44 #[.string (S s)] w (parsePPost s w) := by
  have hpre := Tryz.strings_CutPrefix (S s) (S [60])
  simp only [S_toList] at hpre
  rcases prefix_one 60 s with ⟨t, rfl, _, _⟩ | ⟨h1, h2, h3⟩
  · exact absurd rfl (h t)
  rw [h1, h2] at hpre
  have HS := Lib.hid (show Sp.parseP s = (Sp.path0, [], 5) by
    cases s with
    | nil => rfl
    | cons c r => unfold Sp.parseP; simp only; rw [if_pos (fun e => h r (by rw [e]))])
  clear h1 h2 h3
  go_enter Tryz.func44, Tryz.ntmps44
  go_wp2_with (go_at_call 82; refine (hpre _).mono ?_; rintro e w1 ⟨rfl, rfl⟩)
  unfold parsePPost
  refine bodyPost_ret (v := .tuple #[ag5 Sp.path0 (.slice none 0 0), .string (S []), .int .i64 5]) (by simp [results, Tryz.results44, go_sem, ag5, Sp.path0] <;> rfl) rfl ⟨_, by rw [HS.out], by rw [HS.out]; exact row_none _, (fun k hk => by cases hk), ?_⟩
  exact (Below.refl _ _).alloc (Nat.le_refl _) _
/-- A path in memory. -/
structure PathAt (w : World) (B : Nat) (a b : Bool) (v : Value) (s t : ByteArray) : Prop where
  c0 : w.cell? ⟨B, 0, none⟩ = some (.bool a)
  c1 : w.cell? ⟨B, 1, none⟩ = some (.bool b)
  c2 : w.cell? ⟨B, 2, none⟩ = some v
  c3 : w.cell? ⟨B, 3, none⟩ = some (.string s)
  c4 : w.cell? ⟨B, 4, none⟩ = some (.string t)
  f0 : w.frozen? ⟨B, 0, none⟩ = false
  f1 : w.frozen? ⟨B, 1, none⟩ = false
  f2 : w.frozen? ⟨B, 2, none⟩ = false
  f3 : w.frozen? ⟨B, 3, none⟩ = false
  f4 : w.frozen? ⟨B, 4, none⟩ = false
theorem PathAt.below {w w1 : World} {B : Nat} {a b : Bool} {v : Value} {s t : ByteArray} (h : PathAt w B a b v s t) (hb : Below w.heap.size w w1) : PathAt w1 B a b v s t := by
  have hl := World.block_lt_of_cell? w _ h.c0
  have hf : ∀ o, w1.frozen? ⟨B, o, none⟩ = w.frozen? ⟨B, o, none⟩ := fun o => hb.frozen (p := ⟨B, o, none⟩) hl
  exact ⟨cell_below hb h.c0, cell_below hb h.c1, cell_below hb h.c2, cell_below hb h.c3, cell_below hb h.c4, (hf 0).trans h.f0, (hf 1).trans h.f1, (hf 2).trans h.f2, (hf 3).trans h.f3, (hf 4).trans h.f4⟩
theorem PathAt.new (w : World) (a b : Bool) (v : Value) (s t : ByteArray) (e : TypeId) : PathAt (w.alloc (.cells #[.bool a, .bool b, v, .string s, .string t] e)) w.heap.size a b v s t :=
  ⟨by simp, by simp, by simp, by simp, by simp, by simp, by simp, by simp, by simp, by simp⟩
theorem below_set {w W : World} (h : Below w.heap.size w W) (o : Nat) (v : Value) : Below w.heap.size w (W.setCell ⟨w.heap.size, o, none⟩ v) := h.setCell (Nat.le_refl _) v
theorem Row.setCell {α : Type} {enc : α → Value} {w : World} {v : Value} {xs : List α} (h : Row enc w v xs) (B o : Nat) (x : Value) (hne : ∀ k, v.ownBlock = some k → k ≠ B) : Row enc (w.setCell ⟨B, o, none⟩ x) v xs := by
  obtain ⟨A, c, rfl, hl, hx⟩ := h
  refine ⟨A, c, rfl, hl, fun hn => ?_⟩
  obtain ⟨b, o', rfl, hb, hc⟩ := hx hn
  have hbB : b ≠ B := hne b rfl
  exact ⟨b, o', rfl, by simpa using hb, fun j y hj => (World.cell?_setCell_other _ _ _ _ (by intro h; injection h with h1; exact hbB h1.symm)).trans (hc j y hj)⟩
theorem and_true2 {a b : Bool} (h : true = (a && b)) : a = true ∧ b = true := by cases a <;> cases b <;> simp_all
theorem PathAt.set0 {w : World} {B : Nat} {a b a' : Bool} {v : Value} {s t : ByteArray} (h : PathAt w B a b v s t) : PathAt (w.setCell ⟨B, 0, none⟩ (.bool a')) B a' b v s t := by
  obtain ⟨c0, c1, c2, c3, c4, f0, f1, f2, f3, f4⟩ := h
  exact ⟨World.cell?_setCell_same _ _ _ c0, (World.cell?_setCell_other _ _ _ _ (by simp)).trans c1, (World.cell?_setCell_other _ _ _ _ (by simp)).trans c2, (World.cell?_setCell_other _ _ _ _ (by simp)).trans c3, (World.cell?_setCell_other _ _ _ _ (by simp)).trans c4, by simpa using f0, by simpa using f1, by simpa using f2, by simpa using f3, by simpa using f4⟩
theorem PathAt.set1 {w : World} {B : Nat} {a b b' : Bool} {v : Value} {s t : ByteArray} (h : PathAt w B a b v s t) : PathAt (w.setCell ⟨B, 1, none⟩ (.bool b')) B a b' v s t := by
  obtain ⟨c0, c1, c2, c3, c4, f0, f1, f2, f3, f4⟩ := h
  exact ⟨(World.cell?_setCell_other _ _ _ _ (by simp)).trans c0, World.cell?_setCell_same _ _ _ c1, (World.cell?_setCell_other _ _ _ _ (by simp)).trans c2, (World.cell?_setCell_other _ _ _ _ (by simp)).trans c3, (World.cell?_setCell_other _ _ _ _ (by simp)).trans c4, by simpa using f0, by simpa using f1, by simpa using f2, by simpa using f3, by simpa using f4⟩
theorem PathAt.set34 {w : World} {B : Nat} {a b : Bool} {v : Value} {s t s' t' : ByteArray} (h : PathAt w B a b v s t) : PathAt ((w.setCell ⟨B, 3, none⟩ (.string s')).setCell ⟨B, 4, none⟩ (.string t')) B a b v s' t' := by
  obtain ⟨c0, c1, c2, c3, c4, f0, f1, f2, f3, f4⟩ := h
  have d4 : (w.setCell ⟨B, 3, none⟩ (.string s')).cell? ⟨B, 4, none⟩ = some (.string t) := (World.cell?_setCell_other _ _ _ _ (by simp)).trans c4
  refine ⟨?_, ?_, ?_, ?_, World.cell?_setCell_same _ _ _ d4, by simpa using f0, by simpa using f1, by simpa using f2, by simpa using f3, by simpa using f4⟩
  · exact ((World.cell?_setCell_other _ _ _ _ (by simp)).trans (World.cell?_setCell_other _ _ _ _ (by simp))).trans c0
  · exact ((World.cell?_setCell_other _ _ _ _ (by simp)).trans (World.cell?_setCell_other _ _ _ _ (by simp))).trans c1
  · exact ((World.cell?_setCell_other _ _ _ _ (by simp)).trans (World.cell?_setCell_other _ _ _ _ (by simp))).trans c2
  · exact (World.cell?_setCell_other _ _ _ _ (by simp)).trans (World.cell?_setCell_same _ _ _ c3)
theorem PathAt.lt {w : World} {B : Nat} {a b : Bool} {v : Value} {s t : ByteArray} (h : PathAt w B a b v s t) : B < w.heap.size := World.block_lt_of_cell? w _ h.c0
set_option maxHeartbeats 4000000 in
set_option maxRecDepth 100000 in
theorem parseP_go (inner : List UInt8) (w : World) (hs : inner.length ≤ 700000) (ht : AtabIs w) (hm : MaxIs w) (hp : PowIs w) : Calls Tryz.prog 44 #[.string (S (60 :: inner))] w (parsePPost (60 :: inner) w) := by
  have hpre := Tryz.strings_CutPrefix (S (60 :: inner)) (S [60])
  simp only [S_toList] at hpre
  rw [show Lib.trimPrefix (60 :: inner) [60] = inner by simp [Lib.trimPrefix, Lib.hasPrefix], show Lib.hasPrefix (60 :: inner) [60] = true by simp [Lib.hasPrefix]] at hpre
  have HS := Lib.hid (parseP_60 inner)
  have hrl := route_len inner
  have hrt := fun W => route_any inner W (by omega)
  unfold routePost at hrt
  generalize Sp.route inner = q at HS hrl hrt
  obtain ⟨l, rest, ris⟩ := q
  simp only at HS hrl hrt
  have hen := fun W => ends_any rest W (by omega)
  have hel := ends_lt rest
  unfold endsI at hen
  generalize Sp.ends rest = en at HS hen hel
  have hbx : ∀ o, Below w.heap.size w (w.alloc o) := fun o => (Below.refl _ _).alloc (Nat.le_refl _) _
  have HB := Lib.hid hbx
  clear hbx
  cases hok : (ris && en.isSome) with
  | false =>
    clear hel
    cases ris with
    | false =>
      have HF := Lib.hid (show Sp.parseP (60 :: inner) = (Sp.path0, [], 5) from HS.out)
      have hen2 : ∃ ei : Int, ∀ W, Calls Tryz.prog 84 #[.string (S rest)] W (fun e w' => e = .returned (.int .i64 ei) ∧ Below W.heap.size W w') := ⟨_, hen⟩
      clear hen
      obtain ⟨ei, hen⟩ := hen2
      go_enter Tryz.func44, Tryz.ntmps44
      go_wp2_with fail
      refine (hpre _).mono ?_
      rintro e w1 ⟨rfl, rfl⟩
      go_wp2_with fail
      refine (hrt _ (hm.below (HB.out _))).mono ?_
      rintro e w2 ⟨v, rfl, hrow, hb2, hvo⟩
      go_wp2_with fail
      refine (hen _).mono ?_
      rintro e w3 ⟨rfl, hb3⟩
      have hbw3 := below_trans' (below_trans' (HB.out (.cells #[.bool false, .bool false, .slice none 0 0, .string ByteArray.empty, .string ByteArray.empty] 36)) hb2) hb3
      obtain ⟨p0, p1, p2, p3, p4, f0, f1, f2, f3, f4⟩ := (((PathAt.new w false false (.slice none 0 0) ByteArray.empty ByteArray.empty 36).below hb2).below hb3)
      have hlx2 : w.heap.size < w3.heap.size := World.block_lt_of_cell? w3 _ p0
      clear hrow hvo hb2 hb3
      go_wp2_with fail
      unfold parsePPost
      refine bodyPost_ret (v := .tuple #[ag5 Sp.path0 (.slice none 0 0), .string (S []), .int .i64 5]) (by simp [results, Tryz.results44, go_sem, ag5, Sp.path0, p0, p1, p2, p3, p4, f0, f1, f2, f3, f4, hlx2] <;> rfl) rfl ⟨_, by rw [HF.out], by rw [HF.out]; exact row_none _, (fun k hk => by cases hk), ?_⟩
      iterate 5 (refine below_set ?_ _ _)
      exact hbw3
    | true =>
      cases en with
      | some k => simp at hok
      | none =>
        have HF := Lib.hid (show Sp.parseP (60 :: inner) = (Sp.path0, [], 5) from HS.out)
        simp only at hen
        go_enter Tryz.func44, Tryz.ntmps44
        go_wp2_with fail
        refine (hpre _).mono ?_
        rintro e w1 ⟨rfl, rfl⟩
        go_wp2_with fail
        refine (hrt _ (hm.below (HB.out _))).mono ?_
        rintro e w2 ⟨v, rfl, hrow, hb2, hvo⟩
        go_wp2_with fail
        refine (hen _).mono ?_
        rintro e w3 ⟨rfl, hb3⟩
        have hbw3 := below_trans' (below_trans' (HB.out (.cells #[.bool false, .bool false, .slice none 0 0, .string ByteArray.empty, .string ByteArray.empty] 36)) hb2) hb3
        obtain ⟨p0, p1, p2, p3, p4, f0, f1, f2, f3, f4⟩ := (((PathAt.new w false false (.slice none 0 0) ByteArray.empty ByteArray.empty 36).below hb2).below hb3)
        have hlx2 : w.heap.size < w3.heap.size := World.block_lt_of_cell? w3 _ p0
        clear hrow hvo hb2 hb3
        go_wp2_with fail
        unfold parsePPost
        refine bodyPost_ret (v := .tuple #[ag5 Sp.path0 (.slice none 0 0), .string (S []), .int .i64 5]) (by simp [results, Tryz.results44, go_sem, ag5, Sp.path0, p0, p1, p2, p3, p4, f0, f1, f2, f3, f4, hlx2] <;> rfl) rfl ⟨_, by rw [HF.out], by rw [HF.out]; exact row_none _, (fun k hk => by cases hk), ?_⟩
        iterate 5 (refine below_set ?_ _ _)
        exact hbw3
  | true =>
    simp only [Bool.and_eq_true] at hok
    obtain ⟨rfl, h2⟩ := hok
    cases en with
    | none => cases h2
    | some k =>
      have hkl := hel k rfl
      have hkz : (k : Int) + 1 ≤ (rest.length : Int) := by omega
      have hkz0 : (k : Int) ≤ (rest.length : Int) := by omega
      clear hel h2
      simp only at hen HS
      go_enter Tryz.func44, Tryz.ntmps44
      go_wp2_with fail
      refine (hpre _).mono ?_
      rintro e w1 ⟨rfl, rfl⟩
      go_wp2_with fail
      refine (hrt _ (hm.below (HB.out _))).mono ?_
      rintro e w2 ⟨v, rfl, hrow, hb2, hvo⟩
      go_wp2_with fail
      refine (hen _).mono ?_
      rintro e w3 ⟨rfl, hb3⟩
      obtain ⟨A, c, rfl, hll, hx⟩ := hrow
      have HX := Lib.hid hx
      have HVO := Lib.hid (show ∀ k, (Value.slice A l.length c).ownBlock = some k → k ≠ w.heap.size from fun k hk => by have := hvo k hk; simp at this; omega)
      have HVL := Lib.hid (show ∀ k, (Value.slice A l.length c).ownBlock = some k → w.heap.size ≤ k from fun k hk => by have := hvo k hk; simp at this; omega)
      clear hx hvo
      go_wp2_with fail
      go_region
      have hbA : Below w3.heap.size w3 (w3.alloc (.cells #[.bool false, .bool false, .slice A l.length c, .string ByteArray.empty, .string ByteArray.empty] 36)).drew := below_drewN ((Below.refl _ _).alloc (Nat.le_refl _) _) 1
      have hbw3 := below_trans' (below_trans' (HB.out (.cells #[.bool false, .bool false, .slice none 0 0, .string ByteArray.empty, .string ByteArray.empty] 36)) hb2) hb3
      have hrow4 : Row encS (w3.alloc (.cells #[.bool false, .bool false, .slice A l.length c, .string ByteArray.empty, .string ByteArray.empty] 36)).drew (.slice A l.length c) l := (Row.below (Row.below ⟨A, c, rfl, hll, HX.out⟩ hb3) hbA)
      have hbw4 := below_trans' hbw3 hbA
      have hdm := domains_any (.slice A l.length c) l _ hrow4 (by have := hrl.1; omega) (fun d hd => by have := hrl.2.1 d hd; omega) (ht.below hbw4) (hm.below hbw4) (hp.below hbw4)
      have HPB := Lib.hid (((PathAt.new w false false (.slice none 0 0) ByteArray.empty ByteArray.empty 36).below hb2).below hb3)
      have HPP := Lib.hid ((PathAt.new w3 false false (.slice A l.length c) ByteArray.empty ByteArray.empty 36).below (below_drewN (Below.refl _ _) 1))
      generalize Sp.domains l = dw at hdm HS
      go_wp2_with fail
      refine hdm.mono ?_
      rintro e w5 ⟨rfl, hb5⟩
      have hP2 := HPB.out
      have hP10 : PathAt w5 w3.heap.size false false (.slice A l.length c) ByteArray.empty ByteArray.empty := (show PathAt (w3.alloc (.cells #[.bool false, .bool false, .slice A l.length c, .string ByteArray.empty, .string ByteArray.empty] 36)).drew w3.heap.size false false (.slice A l.length c) ByteArray.empty ByteArray.empty from HPP.out).below hb5
      have hb35 := below_trans' hbA hb5
      have hrow3 : Row encS w3 (.slice A l.length c) l := Row.below ⟨A, c, rfl, hll, HX.out⟩ hb3
      have HROW := Lib.hid hrow3
      have HB3 := Lib.hid hbw3
      clear hrow4 hrow3 hdm hb2 hb3 hb5 hbA hbw3 hbw4 HPB HPP HX hen hrt hpre
      have hon : (rest.take k).length ≤ 700000 := by rw [List.length_take]; omega
      have hbl : (rest.drop (k + 1)).length ≤ inner.length := by rw [List.length_drop]; omega
      generalize rest.take k = on at HS hon
      generalize rest.drop (k + 1) = bh at HS hbl
      have hX1 : on.isEmpty = true → l.isEmpty = true → xOf on l dw = some (⟨true, false, l, ([], [])⟩, dw) := fun h1 h2 => by unfold xOf; rw [h1, h2]; rfl
      have hX2 : (on.isEmpty && l.isEmpty) = false → (Sp.low on == Sp.wPost) = true → l.isEmpty = true → xOf on l dw = some (⟨false, true, l, ([], [])⟩, dw) := fun h0 h1 h2 => by unfold xOf; rw [h0, h1, h2]; rfl
      have hX3 : (on.isEmpty && l.isEmpty) = false → (Sp.low on == Sp.wPost && l.isEmpty) = false → xOf on l dw = if (Sp.parseA on).2 = 5 ∨ dw = 5 then none else some (⟨false, false, l, (Sp.parseA on).1⟩, max dw (Sp.parseA on).2) := fun h0 h1 => by unfold xOf; rw [h0, h1]; rfl
      have hsame := same_any on [112, 111, 115, 116, 109, 97, 115, 116, 101, 114] w5 (by omega) (by decide)
      rw [show Sp.low [112, 111, 115, 116, 109, 97, 115, 116, 101, 114] = Sp.wPost by decide] at hsame
      have hpa := fun W (hW : Below w.heap.size w W) => parseA_any on W (by omega) (ht.below hW) (hm.below hW) (hp.below hW)
      unfold parseAPost ag2 at hpa
      generalize (Sp.low on == Sp.wPost) = sb at hsame hX2 hX3
      have HPO := Lib.hid hpa
      generalize xOf on l dw = X at HS hX1 hX2 hX3
      have HX1 := Lib.hid hX1
      have HX2 := Lib.hid hX2
      have HX3 := Lib.hid hX3
      have HP2 := Lib.hid hP2
      have HP10 := Lib.hid hP10
      have hlt10 := hP10.lt
      have hlt2 := hP2.lt
      clear hX1 hX2 hX3 hpa hP2 hP10 ht hm hp
      obtain ⟨ob, hob⟩ : ∃ ob, ob = on.isEmpty := ⟨_, rfl⟩
      obtain ⟨lb, hlb⟩ : ∃ lb, lb = l.isEmpty := ⟨_, rfl⟩
      have HLB : Hid ((lb = true → l.length = 0) ∧ (lb = false → 0 < l.length)) := by
        rw [hlb]; cases l with
        | nil => exact ⟨(fun _ => rfl), (fun h => by cases h)⟩
        | cons a r => exact ⟨(fun h => by cases h), (fun _ => by simp)⟩
      rw [← hob, ← hlb] at HX1 HX2 HX3
      have hob' : on.isEmpty = ob := hob.symm
      clear hob hlb
      go_upto_block 0 with (fail)
      have hpq := fun W (h35 : Below w3.heap.size w3 W) => HPO.out W (below_trans' HB3.out h35)
      generalize Sp.parseA on = q at hpq HX3
      obtain ⟨⟨a1, a2⟩, er⟩ := q
      simp only at hpq HX3
      clear HPO
      go_cut [13] (fun s13 wx => ∃ (p : Sp.Path) (er' : Int), s13 = .int .i64 er' ∧ Hid (X = some (p, er')) ∧ Hid (p.route = l) ∧ Hid (PathAt wx w3.heap.size p.null p.post (.slice A l.length c) (S p.addr.1) (S p.addr.2)) ∧ Below w3.heap.size w3 wx)
      case first =>
        obtain ⟨b67, hb67⟩ : ∃ b67, b67 = (ob && lb) := ⟨_, rfl⟩
        have HB67 := Lib.hid hb67
        clear hb67
        go_upto_region 14 with (fail)
        go_cut [67] (fun s67 wx => s67 = .bool b67 ∧ wx = w5)
        case first =>
          cases ob with
          | false =>
            have hb := HB67.out
            clear HB67
            subst hb
            go_wp2_with fail
            go_meet
            exact ⟨by rfl, rfl⟩
          | true =>
            cases lb with
            | false =>
              have hb := HB67.out
              clear HB67
              subst hb
              have h0 := HLB.out.2 rfl
              have e0 : ((l.length : Int) == 0) = false := by rw [beq_eq_false_iff_ne]; omega
              go_wp2_with fail
              go_meet
              exact ⟨by rfl, rfl⟩
            | true =>
              have hb := HB67.out
              clear HB67
              subst hb
              have h0 := HLB.out.1 rfl
              have e0 : ((l.length : Int) == 0) = true := by rw [h0]; rfl
              have H0 := Lib.hid h0
              clear h0
              go_wp2_with fail
              go_meet
              exact ⟨by rfl, rfl⟩
        case rest =>
          obtain ⟨rfl, rfl⟩ := hcut
          cases b67 with
          | true =>
            obtain ⟨h1, h2⟩ := and_true2 HB67.out
            have HHX := Lib.hid (HX1.out h1 h2)
            obtain ⟨q0, q1, q2, q3, q4, g0, g1, g2, g3, g4⟩ := HP10.out
            clear h1 h2
            go_wp2_with fail
            go_meet
            exact ⟨⟨true, false, l, ([], [])⟩, dw, rfl, HHX.out, rfl, HP10.out.set0, hb35.setCell (Nat.le_refl _) _⟩
          | false =>
            have HX4 := Lib.hid (HX3.out HB67.out.symm)
            have HX5 := Lib.hid (HX2.out HB67.out.symm)
            go_upto_region 16 with (fail)
            go_cut [76] (fun s76 wx => s76 = .bool (sb && lb) ∧ Below wc.heap.size wc wx)
            case first =>
              go_wp2_with fail
              refine hsame.mono ?_
              rintro e w6 ⟨rfl, hb6⟩
              cases sb with
              | false =>
                go_wp2_with fail
                go_meet
                exact ⟨by rfl, hb6⟩
              | true =>
                cases lb with
                | false =>
                  have h0 := HLB.out.2 rfl
                  have e0 : ((l.length : Int) == 0) = false := by rw [beq_eq_false_iff_ne]; omega
                  go_wp2_with fail
                  go_meet
                  exact ⟨by rfl, hb6⟩
                | true =>
                  have h0 := HLB.out.1 rfl
                  have e0 : ((l.length : Int) == 0) = true := by rw [h0]; rfl
                  have H0 := Lib.hid h0
                  clear h0
                  go_wp2_with fail
                  go_meet
                  exact ⟨by rfl, hb6⟩
            case rest =>
              obtain ⟨rfl, hb6⟩ := hcut
              rename World => w6
              have hb36 := below_trans' hb35 hb6
              have hP10 := HP10.out.below hb6
              have HP10b := Lib.hid hP10
              have hP2 := HP2.out.below hb36
              have HP2b := Lib.hid hP2
              obtain ⟨b76, hb76⟩ : ∃ b76, b76 = (sb && lb) := ⟨_, rfl⟩
              rw [← hb76]
              have HB76 := Lib.hid hb76
              clear hb76
              cases b76 with
              | true =>
                obtain ⟨h1, h2⟩ := and_true2 HB76.out
                have HHX := Lib.hid (HX5.out h1 h2)
                obtain ⟨q0, q1, q2, q3, q4, g0, g1, g2, g3, g4⟩ := hP10
                clear h1 h2 hP2
                go_wp2_with fail
                go_meet
                exact ⟨⟨false, true, l, ([], [])⟩, dw, rfl, HHX.out, rfl, HP10b.out.set1, hb36.setCell (Nat.le_refl _) _⟩
              | false =>
                have HXd := Lib.hid (HX4.out HB76.out.symm)
                clear hP10 hP2
                go_wp2_with fail
                refine (hpq _ hb36).mono ?_
                rintro e w7 ⟨rfl, hb7⟩
                have hP10c := HP10b.out.below hb7
                have hP2c := HP2b.out.below hb7
                have hb37 := below_trans' hb36 hb7
                have HP10d := Lib.hid hP10c
                obtain ⟨q0, q1, q2, q3, q4, g0, g1, g2, g3, g4⟩ := hP10c
                obtain ⟨p0, p1, p2, p3, p4, f0, f1, f2, f3, f4⟩ := hP2c
                have hl7 : w3.heap.size < w7.heap.size := Nat.lt_of_lt_of_le hlt10 (Nat.le_trans hb6.size hb7.size)
                have hl7b : w.heap.size < w7.heap.size := by omega
                by_cases h5 : er = 5
                · have e5 : (er == 5) = true := by simpa using h5
                  have HF := Lib.hid (show Sp.parseP (60 :: inner) = (Sp.path0, [], 5) by rw [HS.out, HXd.out, if_pos (.inl h5)]; rfl)
                  clear h5
                  go_wp2_with fail
                  unfold parsePPost
                  refine bodyPost_ret (v := .tuple #[ag5 Sp.path0 (.slice none 0 0), .string (S []), .int .i64 5]) (by simp [results, Tryz.results44, go_sem, ag5, Sp.path0, p0, p1, p2, p3, p4, f0, f1, f2, f3, f4, hl7b] <;> rfl) rfl ⟨_, by rw [HF.out], by rw [HF.out]; exact row_none _, (fun k hk => by cases hk), ?_⟩
                  refine below_alloc ?_ _
                  iterate 5 (refine below_set ?_ _ _)
                  exact below_trans' HB3.out hb37
                · have e5 : (er == 5) = false := by simpa using h5
                  by_cases hd5 : dw = 5
                  · have e6 : (dw == 5) = true := by simpa using hd5
                    have HF := Lib.hid (show Sp.parseP (60 :: inner) = (Sp.path0, [], 5) by rw [HS.out, HXd.out, if_pos (.inr hd5)]; rfl)
                    clear h5 hd5
                    go_wp2_with fail
                    unfold parsePPost
                    refine bodyPost_ret (v := .tuple #[ag5 Sp.path0 (.slice none 0 0), .string (S []), .int .i64 5]) (by simp [results, Tryz.results44, go_sem, ag5, Sp.path0, p0, p1, p2, p3, p4, f0, f1, f2, f3, f4, hl7b] <;> rfl) rfl ⟨_, by rw [HF.out], by rw [HF.out]; exact row_none _, (fun k hk => by cases hk), ?_⟩
                    refine below_alloc ?_ _
                    iterate 5 (refine below_set ?_ _ _)
                    exact below_trans' HB3.out hb37
                  · have e6 : (dw == 5) = false := by simpa using hd5
                    have HHX := Lib.hid (HXd.out.trans (if_neg (fun h => h.elim h5 hd5)))
                    clear h5 hd5
                    go_wp2_with fail
                    go_meet
                    exact ⟨⟨false, false, l, (a1, a2)⟩, max dw er, rfl, HHX.out, rfl, PathAt.below HP10d.out.set34 (below_alloc (Below.refl _ _) _), below_alloc ((hb37.setCell (p := ⟨w3.heap.size, 3, none⟩) (Nat.le_refl _) _).setCell (p := ⟨w3.heap.size, 4, none⟩) (Nat.le_refl _) _) _⟩
      case rest =>
        obtain ⟨p, er', rfl, HXs, HRT, HP, hb3x⟩ := hcut
        rename World => wx
        obtain ⟨q0, q1, q2, q3, q4, g0, g1, g2, g3, g4⟩ := HP.out
        obtain ⟨p0, p1, p2, p3, p4, f0, f1, f2, f3, f4⟩ := HP2.out.below hb3x
        have hlx : w3.heap.size < wx.heap.size := HP.out.lt
        have hlx2 : w.heap.size < wx.heap.size := Nat.lt_of_lt_of_le hlt2 hb3x.size
        have HFIN := Lib.hid (show Sp.parseP (60 :: inner) = if er' ≠ 0 ∨ 256 < inner.length + 1 - bh.length then (Sp.path0, [], 3) else (p, bh, 0) by rw [HS.out, HXs.out]; rfl)
        by_cases h0 : er' = 0
        · have e0 : (er' != 0) = false := by subst h0; rfl
          by_cases hlong : 256 < inner.length + 1 - bh.length
          · have hlz : (256 : Int) < (inner.length : Int) + 1 - (bh.length : Int) := by omega
            have HF := Lib.hid (HFIN.out.trans (if_pos (.inr hlong)))
            clear h0
            go_wp2_with fail
            unfold parsePPost
            refine bodyPost_ret (v := .tuple #[ag5 Sp.path0 (.slice none 0 0), .string (S []), .int .i64 3]) (by simp [results, Tryz.results44, go_sem, ag5, Sp.path0, p0, p1, p2, p3, p4, f0, f1, f2, f3, f4, hlx2] <;> rfl) rfl ⟨_, by rw [HF.out], by rw [HF.out]; exact row_none _, (fun k hk => by cases hk), ?_⟩
            iterate 5 (refine below_set ?_ _ _)
            exact below_trans' HB3.out hb3x
          · have hlz : ¬ (256 : Int) < (inner.length : Int) + 1 - (bh.length : Int) := by omega
            have HF := Lib.hid (HFIN.out.trans (if_neg (fun h => h.elim (fun h' => h' h0) hlong)))
            clear h0
            go_wp2_with fail
            unfold parsePPost
            refine bodyPost_ret (v := .tuple #[ag5 p (.slice A l.length c), .string (S bh), .int .i64 0]) (by simp [results, Tryz.results44, go_sem, ag5, p0, p1, p2, p3, p4, f0, f1, f2, f3, f4, hlx2] <;> rfl) rfl ⟨_, by rw [HF.out], ?_, HVL.out, ?_⟩
            · rw [HF.out]
              show Row encS _ _ p.route
              rw [HRT.out]
              iterate 5 (refine Row.setCell ?_ _ _ _ HVO.out)
              exact HROW.out.below hb3x
            · iterate 5 (refine below_set ?_ _ _)
              exact below_trans' HB3.out hb3x
        · have e0 : (er' != 0) = true := by simpa using h0
          have HF := Lib.hid (HFIN.out.trans (if_pos (.inl h0)))
          clear h0
          go_wp2_with fail
          unfold parsePPost
          refine bodyPost_ret (v := .tuple #[ag5 Sp.path0 (.slice none 0 0), .string (S []), .int .i64 3]) (by simp [results, Tryz.results44, go_sem, ag5, Sp.path0, p0, p1, p2, p3, p4, f0, f1, f2, f3, f4, hlx2] <;> rfl) rfl ⟨_, by rw [HF.out], by rw [HF.out]; exact row_none _, (fun k hk => by cases hk), ?_⟩
          iterate 5 (refine below_set ?_ _ _)
          exact below_trans' HB3.out hb3x
theorem parseP_any (s : List UInt8) (w : World) (hs : s.length ≤ 700000) (ht : AtabIs w) (hm : MaxIs w) (hp : PowIs w) : Calls Tryz.prog 44 #[.string (S s)] w (parsePPost s w) := by
  by_cases h : ∃ t, s = 60 :: t
  · obtain ⟨t, rfl⟩ := h
    exact parseP_go t w (by simp at hs; omega) ht hm hp
  · exact parseP_no s w (fun t e => h ⟨t, e⟩)
end Go.Proofs.YtgjlncfhghhaeaaGreatDoor
