/- path.ParseParams. -/
import Derived.Test.YtgjlncfhghhaeaaGreatDoorPath3
import Derived.Deep.DeepCutAuto
set_option linter.unusedSimpArgs false
set_option linter.unusedVariables false
namespace Go.Proofs.YtgjlncfhghhaeaaGreatDoor
open Go.RowKit
theorem scontains_any (v : Value) (xs : List (List UInt8)) (x : List UInt8) (w : World) (h : Row encS w v xs) : Calls Tryz.prog 43 #[v, .string (S x)] w fun e w' => e = .returned (.bool (xs.contains x)) ∧ w' = w := by
  obtain ⟨A, c, rfl, hl, hx⟩ := h
  by_cases hne : xs = []
  · subst hne
    exact Tryz.slices_Contains_string_empty A c (S x) w
  · obtain ⟨b, o, rfl, hb, hc⟩ := hx hne
    have := Tryz.slices_Contains_string b o xs.length c (xs.map S) (S x) w (by simp) (by omega) (fun j hj => by
      rw [List.length_map] at hj
      rw [hc j xs[j] (List.getElem?_eq_getElem hj)]
      simp [List.getD, hj])
    refine this.mono fun e w' ⟨he, hw⟩ => ⟨?_, hw⟩
    rw [he, List.take_of_length_le (by simp)]
    have e2 : Lib.containsS (xs.map S) (S x) = xs.contains x := by
      rw [Bool.eq_iff_iff, Lib.containsS_iff, List.contains_iff_mem, List.mem_map]
      exact ⟨fun ⟨a, ha, e⟩ => S_inj e ▸ ha, fun h => ⟨x, h, rfl⟩⟩
    rw [e2]
structure PInv (wS : World) (B : Nat) (v : Value) (x : Sp.Pars) (seen : List (List UInt8)) (W : World) : Prop where
  par : ParAt W B x
  grown : wS.grownBy W (some B)
  own : W.ownsRow wS.heap.size 9 1 v seen.length (seen.map encS)
theorem PInv.below {wS W W1 : World} {B : Nat} {v : Value} {x : Sp.Pars} {seen : List (List UInt8)} (h : PInv wS B v x seen W) (hb : Below W.heap.size W W1) : PInv wS B v x seen W1 :=
  ⟨h.par.below hb, grown_trans h.grown (grown_of_below hb _), h.own.kept (grown_of_below hb none) (by cases v.ownBlock <;> simp)⟩
theorem PInv.said {wS W W1 : World} {B : Nat} {v : Value} {x y : Sp.Pars} {seen : List (List UInt8)} (h : PInv wS B v x seen W) (hB : B < wS.heap.size) (hg : W.grownBy W1 (some B)) (hp : ParAt W1 B y) : PInv wS B v y seen W1 :=
  ⟨hp, grown_trans h.grown hg, h.own.kept hg (.inr fun hk => by have := own_base h.own B hk; omega)⟩
theorem PInv.appended {wS W W1 : World} {B : Nat} {v v' : Value} {x : Sp.Pars} {seen : List (List UInt8)} {nm : List UInt8} {o : Obj} (h : PInv wS B v x seen W) (hB : B < wS.heap.size) (hg : (W.alloc o).grownBy W1 v.ownBlock)
    (ho : W1.ownsRow wS.heap.size 9 1 v' (seen.length + 1) (seen.map encS ++ [.string (S nm)])) : PInv wS B v' x (seen ++ [nm]) W1 := by
  have hal := below_alloc (Below.refl W.heap.size W) o
  refine ⟨(h.par.below hal).kept hg (fun hk => by have := own_base h.own B hk; omega), ?_, by simpa using ho⟩
  have h1 := grown_trans h.grown (grown_of_below hal (some B))
  exact ⟨hg.os.trans h1.os, hg.tape.trans h1.tape, hg.output.trans h1.output, Nat.le_trans h1.size hg.size, fun i hi hne => (hg.block i (Nat.lt_of_lt_of_le hi h1.size) (fun hk => by have := own_base h.own i hk.symm; omega)).trans (h1.block i hi hne)⟩
theorem split_ne (c : UInt8) (s : List UInt8) : Sp.split c s ≠ [] := by
  cases s with
  | nil => simp [Sp.split]
  | cons x xs =>
    unfold Sp.split
    split
    · simp
    · split <;> simp
def ppPost (s : List UInt8) (w : World) (e : Ending) (w' : World) : Prop := e = .returned (.tuple #[.agg #[.bool (Sp.parseParams s).1.has, .bool (Sp.parseParams s).1.eight, .int .i64 (Sp.parseParams s).1.size], .int .i64 (Sp.parseParams s).2]) ∧ Below w.heap.size w w'
set_option maxHeartbeats 1000000 in
theorem pp_nil (w : World) : Calls Tryz.prog 10 #[.string (S [])] w (ppPost [] w) := by
  unfold ppPost Sp.parseParams Sp.pars0
  go_enter Tryz.func10, Tryz.ntmps10
  go_wp2
  refine bodyPost_ret (v := .tuple #[.agg #[.bool false, .bool false, .int .i64 0], .int .i64 0]) (by simp [results, Tryz.results10, go_sem] <;> rfl) rfl ⟨rfl, ?_⟩
  exact ((Below.refl _ _).alloc (Nat.le_refl _) _).alloc (by simp) _
set_option maxHeartbeats 1000000 in
theorem pp_form (c : UInt8) (r : List UInt8) (w : World) (hc : c ≠ 32) : Calls Tryz.prog 10 #[.string (S (c :: r))] w (ppPost (c :: r) w) := by
  have hcc : ((c.toNat : Int) != 32) = true := by
    rw [bne_iff_ne]; intro h; exact hc ((u8_eq c 32).2 h)
  have e : Sp.parseParams (c :: r) = (Sp.pars0, 5) := by simp only [Sp.parseParams]; rw [if_pos hc]
  unfold ppPost
  rw [e]
  unfold Sp.pars0
  clear e hc
  go_enter Tryz.func10, Tryz.ntmps10
  go_wp2
  refine bodyPost_ret (v := .tuple #[.agg #[.bool false, .bool false, .int .i64 0], .int .i64 5]) (by simp [results, Tryz.results10, go_sem] <;> rfl) rfl ⟨rfl, ?_⟩
  exact ((Below.refl _ _).alloc (Nat.le_refl _) _).alloc (by simp) _
/-- What a round makes of wrong. -/
def wrongOf (x : Sp.Pars) (seen : List (List UInt8)) (q : List UInt8 × List UInt8 × Bool × Bool) : Sp.Pars × Int :=
  if Sp.known q.1 && q.2.2.1 && !(seen.contains q.1) then Sp.say q.1 x q.2.1
  else if Sp.known q.1 && q.2.2.1 && q.1 == Sp.wSize then (x, max (Sp.saySize Sp.pars0 q.2.1).2 1)
  else (x, 1)
theorem step_eq (x : Sp.Pars × Int × List (List UInt8)) (one : List UInt8) : Sp.step x one = if !(Sp.parts one).2.2.2 || (wrongOf x.1 x.2.2 (Sp.parts one)).2 == 5 then none else some ((wrongOf x.1 x.2.2 (Sp.parts one)).1, max x.2.1 (wrongOf x.1 x.2.2 (Sp.parts one)).2, x.2.2 ++ [(Sp.parts one).1]) := rfl
theorem parseParams_32 (r : List UInt8) : Sp.parseParams (32 :: r) = match Sp.steps (Sp.pars0, 0, []) (Sp.split 32 r) with | none => (Sp.pars0, 5) | some x => if x.2.1 ≠ 0 then (Sp.pars0, x.2.1) else (x.1, 0) := rfl
theorem parts_len (s : List UInt8) : (Sp.parts s).1.length ≤ s.length ∧ (Sp.parts s).2.1.length ≤ s.length := by
  have := cutB_len 61 s
  unfold Sp.parts Sp.low
  simp only [List.length_map]
  exact this
set_option maxHeartbeats 4000000 in
set_option maxRecDepth 100000 in
theorem pp_go (r : List UInt8) (w : World) (hs : r.length ≤ 800000) (hm : MaxIs w) (hsy : SaysIs w) : Calls Tryz.prog 10 #[.string (S (32 :: r))] w (ppPost (32 :: r) w) := by
  obtain ⟨i0, hi0, hz0, hz1, hz2⟩ := info_parts info_str
  obtain ⟨bm, hbm, hlook⟩ := say_look hsy
  have HP := Lib.hid (parseParams_32 r)
  have hbx : Below w.heap.size w ((w.alloc (.cells #[.bool false, .bool false, .int .i64 0] 28)).alloc (.cells #[.bool false, .bool false, .int .i64 0] 28)) := ((Below.refl _ _).alloc (Nat.le_refl _) _).alloc (by simp) _
  have hsp := split_any r 32 ((w.alloc (.cells #[.bool false, .bool false, .int .i64 0] 28)).alloc (.cells #[.bool false, .bool false, .int .i64 0] 28)) (by omega)
  have hspl := split_len 32 r
  have hspn := split_ne 32 r
  go_enter Tryz.func10, Tryz.ntmps10
  go_wp2_with fail
  refine hsp.mono ?_
  rintro e wS ⟨v, rfl, hown, hbS⟩
  clear hsp
  have hbwS := below_trans' hbx hbS
  have hx2 : ParAt wS w.heap.size Sp.pars0 := ⟨cell_below hbS (by simp [Sp.pars0]), cell_below hbS (by simp [Sp.pars0]), cell_below hbS (by simp [Sp.pars0]), (hbS.frozen (p := ⟨w.heap.size, 0, none⟩) (by simp; omega)).trans (by simp), (hbS.frozen (p := ⟨w.heap.size, 1, none⟩) (by simp; omega)).trans (by simp), (hbS.frozen (p := ⟨w.heap.size, 2, none⟩) (by simp; omega)).trans (by simp)⟩
  have hx4 : ParAt wS (w.heap.size + 1) Sp.pars0 := ⟨cell_below hbS (by simp [Sp.pars0]), cell_below hbS (by simp [Sp.pars0]), cell_below hbS (by simp [Sp.pars0]), (hbS.frozen (p := ⟨w.heap.size + 1, 0, none⟩) (by simp)).trans (by simp), (hbS.frozen (p := ⟨w.heap.size + 1, 1, none⟩) (by simp)).trans (by simp), (hbS.frozen (p := ⟨w.heap.size + 1, 2, none⟩) (by simp)).trans (by simp)⟩
  have hB4 := hx4.lt
  obtain ⟨bl, cl, rfl, hbl, hbl2⟩ : ∃ bl cl, v = .slice (some ⟨bl, 0, none⟩) (Sp.split 32 r).length cl ∧ w.heap.size + 2 ≤ bl ∧ bl < wS.heap.size := by
    obtain ⟨g, cap, hv, h1, h2⟩ := hown.form (List.length_pos_iff.2 hspn)
    exact ⟨g, cap, hv, by simpa using h1, h2⟩
  have hlist : ∀ W, wS.grownBy W (some (w.heap.size + 1)) → ∀ (j : Nat) x, (Sp.split 32 r)[j]? = some x → W.cell? ⟨bl, j, none⟩ = some (.string (S x)) := fun W hg j x hj => by
    have hjl := (List.getElem?_eq_some_iff.1 hj).1
    have h1 : W.heap[bl]? = wS.heap[bl]? := hg.block bl hbl2 (by simp; omega)
    rw [World.cell?_of_block (w := wS) h1, hown.cellAt j (by omega), List.getElem?_map, hj]; rfl
  have hgb : ∀ W, wS.grownBy W (some (w.heap.size + 1)) → Below w.heap.size w W := fun W hg => hbwS.grown hg hbwS.size (fun k hk => by cases hk; omega)
  generalize Sp.split 32 r = L at hown hspl hspn hlist HP
  have HL := Lib.hid hlist
  have HG := Lib.hid hgb
  have HLK := Lib.hid hlook
  have HSL := Lib.hid hspl
  clear hown hlist hgb hlook hspl hbS
  go_wp2_with fail
  go_loopw [5, 6, 27] (fun e v6 i wr => ∃ (j : Nat) (x : Sp.Pars × Int × List (List UInt8)), j ≤ L.length ∧ i = .int .i64 j ∧ e = .int .i64 x.2.1 ∧ PInv wS (w.heap.size + 1) v6 x.1 x.2.2 wr ∧ x.2.2.length = j ∧ Hid (Sp.steps (Sp.pars0, 0, []) L = Sp.steps x (L.drop j))) (fun _ _ i _ => L.length - (intOf i).toNat)
  case atStart => exact ⟨0, (Sp.pars0, 0, []), Nat.zero_le _, rfl, rfl, ⟨hx4, ⟨rfl, rfl, rfl, Nat.le_refl _, fun _ _ _ => rfl⟩, ⟨by simp, .inl ⟨rfl, rfl⟩⟩⟩, rfl, rfl⟩
  case round =>
    obtain ⟨j, x, hj, rfl, rfl, hinv, hlen, H⟩ := hrel
    obtain ⟨x1, x2, x3⟩ := x
    simp only at hinv hlen
    by_cases hlt : j < L.length
    · have hltz : (j : Int) < (L.length : Int) := by omega
      have hcell := HL.out wr hinv.grown j L[j] (List.getElem?_eq_getElem hlt)
      have hol := HSL.out.2 L[j] (List.getElem_mem hlt)
      have H1 := Lib.hid (H.out.trans (by rw [List.drop_eq_getElem_cons hlt]))
      clear H
      generalize L[j] = one at hcell hol H1
      have hpl := parts_len one
      have hpa := parts_any one wr (by omega) (hm.below (HG.out wr hinv.grown))
      have HST := Lib.hid (step_eq (x1, x2, x3) one)
      unfold partsPost at hpa
      generalize Sp.parts one = q at hpa HST hpl
      obtain ⟨nm, vl, has, is_⟩ := q
      simp only at hpa HST hpl
      have HINV := Lib.hid hinv
      have HPL := Lib.hid hpl
      clear hinv hpl
      go_wp2_with fail
      refine hpa.mono ?_
      rintro e w2 ⟨rfl, hb2⟩
      have hinv2 := HINV.out.below hb2
      have hbw2 := HG.out w2 hinv2.grown
      obtain ⟨fv, hlk, hfs, hfb⟩ := HLK.out w2 nm (by have := HPL.out.1; omega) hbw2
      have hbm2 := cell_below hbw2 hbm
      obtain ⟨kn, hkn⟩ : ∃ kn, kn = Sp.known nm := ⟨_, rfl⟩
      rw [← hkn] at hlk
      have HKN := Lib.hid hkn
      clear hkn
      have HF := Lib.hid (And.intro hfs hfb)
      have hseen : Row encS w2 u6 x3 := row_of_owns encS hinv2.own (by have := HSL.out.1; omega)
      have hct := fun W (hW : W = w2) => scontains_any u6 x3 nm W (by rw [hW]; exact hseen)
      obtain ⟨ct, hct0⟩ : ∃ ct, ct = x3.contains nm := ⟨_, rfl⟩
      rw [← hct0] at hct
      have HCT := Lib.hid hct0
      clear hct0
      clear hfs hfb hseen hbm
      go_upto_region 14 with (fail)
      go_cut [53] (fun s53 wx => s53 = .bool (kn && has && !ct) ∧ wx = w2)
      case first =>
        cases kn with
        | false =>
          go_wp2_with fail
          go_meet
          exact ⟨by rfl, rfl⟩
        | true =>
          cases has with
          | false =>
            go_wp2_with fail
            go_meet
            exact ⟨by rfl, rfl⟩
          | true =>
            go_wp2_with (go_at_call 43; refine (hct _ rfl).mono ?_; rintro e w3 ⟨rfl, rfl⟩)
            go_meet
            exact ⟨by rfl, rfl⟩
      case rest =>
        obtain ⟨rfl, rfl⟩ := hcut
        have HWR := Lib.hid (show wrongOf x1 x3 (nm, vl, has, is_) = if kn && has && !ct then Sp.say nm x1 vl else if kn && has && nm == Sp.wSize then (x1, max (Sp.saySize Sp.pars0 vl).2 1) else (x1, 1) by rw [HKN.out, HCT.out]; rfl)
        have HKN2 := Lib.hid (show kn = true → nm = Sp.wSize ∨ nm = Sp.wBody by
          intro h; rw [HKN.out] at h; simpa [Sp.known] using h)
        generalize wrongOf x1 x3 (nm, vl, has, is_) = y at HST HWR
        obtain ⟨y1, y2⟩ := y
        simp only at HST
        have hpar := hinv2.par
        have hB4' : w.heap.size + 1 < wc.heap.size := Nat.lt_of_lt_of_le hB4 hinv2.grown.size
        have hvl : vl.length ≤ 1000000 := by have := HPL.out.2; omega
        have hsz := saySize_any x1 (w.heap.size + 1) vl wc hvl hpar
        have hbd := sayBody_any x1 (w.heap.size + 1) vl wc hvl hpar
        have HINV2 := Lib.hid hinv2
        clear hpar hinv2 hct HCT HKN
        go_upto_if 53 with (fail)
        go_cut [15] (fun s15 wx => s15 = .int .i64 y2 ∧ Hid (PInv wS (w.heap.size + 1) u6 y1 x3 wx))
        case first =>
          cases hb53 : (kn && has && !ct) with
          | true =>
            simp only [Bool.and_eq_true, Bool.not_eq_true'] at hb53
            obtain ⟨⟨rfl, rfl⟩, rfl⟩ := hb53
            have HW2 := Lib.hid (HWR.out.trans (if_pos rfl))
            rcases HKN2.out rfl with hnm | hnm
            · have hfv := HF.out.1 hnm
              have HW3 := Lib.hid (HW2.out.trans (show Sp.say nm x1 vl = Sp.saySize x1 vl by unfold Sp.say; rw [if_pos hnm]))
              subst hfv
              clear hnm
              go_wp2_with (go_at_call 192; refine hsz.mono ?_; rintro e w4 ⟨rfl, hg4, hp4⟩)
              go_meet
              exact ⟨by rw [← HW3.out], by rw [← HW3.out] at hp4; exact HINV2.out.said hB4 hg4 hp4⟩
            · have hfv := HF.out.2 hnm
              have HW3 := Lib.hid (HW2.out.trans (show Sp.say nm x1 vl = Sp.sayBody x1 vl by unfold Sp.say; rw [if_neg (by rw [hnm]; decide)]))
              subst hfv
              clear hnm
              go_wp2_with (go_at_call 193; refine hbd.mono ?_; rintro e w4 ⟨rfl, hg4, hp4⟩)
              go_meet
              exact ⟨by rw [← HW3.out], by rw [← HW3.out] at hp4; exact HINV2.out.said hB4 hg4 hp4⟩
          | false =>
            have HW2 := Lib.hid (HWR.out.trans (if_neg (by rw [hb53]; simp)))
            cases kn with
            | false =>
              have HW3 := Lib.hid (HW2.out.trans (show (if (false && has && nm == Sp.wSize) = true then (x1, max (Sp.saySize Sp.pars0 vl).2 1) else (x1, 1)) = (x1, 1) from rfl))
              clear hb53
              go_wp2_with fail
              go_meet
              exact ⟨by rw [(Prod.mk.inj HW3.out).2], by rw [(Prod.mk.inj HW3.out).1]; exact HINV2.out⟩
            | true =>
              cases has with
              | false =>
                have HW3 := Lib.hid (HW2.out.trans (show (if (true && false && nm == Sp.wSize) = true then (x1, max (Sp.saySize Sp.pars0 vl).2 1) else (x1, 1)) = (x1, 1) from rfl))
                clear hb53
                go_wp2_with fail
                go_meet
                exact ⟨by rw [(Prod.mk.inj HW3.out).2], by rw [(Prod.mk.inj HW3.out).1]; exact HINV2.out⟩
              | true =>
                clear hb53
                by_cases hnm : nm = Sp.wSize
                · have hfv := HF.out.1 hnm
                  have HW3 := Lib.hid (HW2.out.trans (if_pos (by rw [hnm]; rfl)))
                  subst hfv
                  have hns : (nm == [115, 105, 122, 101]) = true := by rw [hnm]; rfl
                  have hpz : ParAt (wc.alloc (.cells #[.bool false, .bool false, .int .i64 0] 28)) wc.heap.size Sp.pars0 := ⟨by simp [Sp.pars0], by simp [Sp.pars0], by simp [Sp.pars0], by simp, by simp, by simp⟩
                  have hnew := saySize_any Sp.pars0 wc.heap.size vl (wc.alloc (.cells #[.bool false, .bool false, .int .i64 0] 28)) hvl hpz
                  clear hnm hpz
                  go_wp2_with (go_at_call 192; refine hnew.mono ?_; rintro e w4 ⟨rfl, hg4, hp4⟩)
                  go_meet
                  refine ⟨by rw [(Prod.mk.inj HW3.out).2], ?_⟩
                  rw [(Prod.mk.inj HW3.out).1]
                  exact HINV2.out.below (((Below.refl _ wc).alloc (Nat.le_refl _) _).grown hg4 (by simp) (fun k hk => by cases hk; exact Nat.le_refl _))
                · have hns : (nm == [115, 105, 122, 101]) = false := by simpa [Sp.wSize] using hnm
                  have HW3 := Lib.hid (HW2.out.trans (if_neg (by simpa [Sp.wSize] using hnm)))
                  clear hnm
                  go_wp2_with fail
                  go_meet
                  exact ⟨by rw [(Prod.mk.inj HW3.out).2], by rw [(Prod.mk.inj HW3.out).1]; exact HINV2.out⟩
        case rest =>
          obtain ⟨rfl, HPI⟩ := hcut
          rename World => w5
          have hz := HPI.out
          have hz2 := hx2.kept hz.grown (by simp)
          have hbw5 := HG.out w5 hz.grown
          obtain ⟨q0, q1, q2, f0, f1, f2⟩ := hz2
          simp only [Sp.pars0] at q0 q1 q2
          have hzl : w.heap.size < w5.heap.size := Nat.lt_of_lt_of_le (by omega) hz.grown.size
          have hbsz : wS.heap.size ≤ w5.heap.size + 1 := by have := hz.grown.size; omega
          by_cases hbad : (!is_ || y2 == 5) = true
          · have HF1 := Lib.hid (show Sp.parseParams (32 :: r) = (Sp.pars0, 5) by
              rw [HP.out, H1.out]
              simp only [Sp.steps]
              rw [HST.out, if_pos hbad])
            cases is_ with
            | false =>
              clear hbad HPI
              go_wp2
              unfold ppPost
              refine bodyPost_ret (v := .tuple #[.agg #[.bool false, .bool false, .int .i64 0], .int .i64 5]) (by simp [results, Tryz.results10, go_sem, q0, q1, q2, f0, f1, f2, hzl] <;> rfl) rfl ⟨by rw [HF1.out]; rfl, ?_⟩
              exact ((hbw5.setCell (Nat.le_refl _) _).setCell (Nat.le_refl _) _).setCell (Nat.le_refl _) _
            | true =>
              have e5 : (y2 == 5) = true := by simpa using hbad
              clear hbad HPI
              go_wp2
              unfold ppPost
              refine bodyPost_ret (v := .tuple #[.agg #[.bool false, .bool false, .int .i64 0], .int .i64 5]) (by simp [results, Tryz.results10, go_sem, q0, q1, q2, f0, f1, f2, hzl] <;> rfl) rfl ⟨by rw [HF1.out]; rfl, ?_⟩
              exact ((hbw5.setCell (Nat.le_refl _) _).setCell (Nat.le_refl _) _).setCell (Nat.le_refl _) _
          · have HF1 := Lib.hid (show Sp.steps (Sp.pars0, 0, []) L = Sp.steps (y1, max x2 y2, x3 ++ [nm]) (L.drop (j + 1)) by
              rw [H1.out]
              simp only [Sp.steps]
              rw [HST.out, if_neg hbad])
            cases is_ with
            | false => exact absurd rfl hbad
            | true =>
              have e5 : (y2 == 5) = false := by simpa using hbad
              have hownz := hz.own
              have hxl : x3.length ≤ 800001 := by have := HSL.out.1; omega
              clear hbad hz
              go_wp2_with (at_builtin; refine wpList_append_own _ rfl _ _ 32 rfl wS.heap.size 9 i0 (.string ByteArray.empty) 1 16 Tryz.underlying32 hi0 hz0 hz1 hz2 rfl (by decide) _ _ _ rfl (hownz.alloc _) ⟨w5.heap.size, 0, none⟩ 1 1 [.string (S nm)] rfl rfl (cell_one_new _ _ _) (by simp [Value.oneCell']) (by unfold maxLen; omega) (by omega) (by simpa using hbsz) ?_; intro v' w6 hown1 hgrow _)
              go_roundw
              case rel => exact ⟨j + 1, (y1, max x2 y2, x3 ++ [nm]), by omega, by go_num, rfl, HPI.out.appended hB4 hgrow (by simpa using hown1), by simp [hlen], HF1⟩
              case measure => simp [intOf]; omega
    · have hltz : ¬ (j : Int) < (L.length : Int) := by omega
      have hz2 := hx2.kept hinv.grown (by simp)
      have hbw5 := HG.out wr hinv.grown
      obtain ⟨q0, q1, q2, f0, f1, f2⟩ := hz2
      simp only [Sp.pars0] at q0 q1 q2
      obtain ⟨p0, p1, p2, g0, g1, g2⟩ := hinv.par
      have hzl : w.heap.size < wr.heap.size := Nat.lt_of_lt_of_le (by omega) hinv.grown.size
      have H1 := Lib.hid (show Sp.parseParams (32 :: r) = if x2 ≠ 0 then (Sp.pars0, x2) else (x1, 0) by
        rw [HP.out, H.out, List.drop_eq_nil_of_le (by omega)]; rfl)
      clear H hinv
      by_cases hx0 : x2 = 0
      · have e0 : (x2 != 0) = false := by subst hx0; rfl
        have H2 := Lib.hid (H1.out.trans (if_neg (fun h => h hx0)))
        clear H1 hx0
        go_wp2
        unfold ppPost
        refine bodyPost_ret (v := .tuple #[.agg #[.bool x1.has, .bool x1.eight, .int .i64 x1.size], .int .i64 0]) (by simp [results, Tryz.results10, go_sem, q0, q1, q2, f0, f1, f2, hzl] <;> rfl) rfl ⟨by rw [H2.out], ?_⟩
        exact ((hbw5.setCell (Nat.le_refl _) _).setCell (Nat.le_refl _) _).setCell (Nat.le_refl _) _
      · have e0 : (x2 != 0) = true := by simpa using hx0
        have H2 := Lib.hid (H1.out.trans (if_pos hx0))
        clear H1 hx0
        go_wp2
        unfold ppPost
        refine bodyPost_ret (v := .tuple #[.agg #[.bool false, .bool false, .int .i64 0], .int .i64 x2]) (by simp [results, Tryz.results10, go_sem, q0, q1, q2, f0, f1, f2, hzl] <;> rfl) rfl ⟨by rw [H2.out]; rfl, ?_⟩
        exact ((hbw5.setCell (Nat.le_refl _) _).setCell (Nat.le_refl _) _).setCell (Nat.le_refl _) _
theorem parseParams_any (s : List UInt8) (w : World) (hs : s.length ≤ 800000) (hm : MaxIs w) (hsy : SaysIs w) : Calls Tryz.prog 10 #[.string (S s)] w (ppPost s w) := by
  cases s with
  | nil => exact pp_nil w
  | cons c r =>
    by_cases h : c = 32
    · subst h; exact pp_go r w (by simp at hs; omega) hm hsy
    · exact pp_form c r w h
end Go.Proofs.YtgjlncfhghhaeaaGreatDoor
