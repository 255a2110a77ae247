-- PRINTED BY print.sh 35421559b90ae4d0a3588c463048766b98c2df88dd9212a6774a882060cdf62d: not written by this session
import Derived.Test.YtdjifjnophcnlaaDoorPVarFillsx0
import Derived.Test.YtdjifjnophcnlaaDoorPVarFillsx5
namespace Go.Proofs.YtdjifjnophcnlaaDoor.PVarFills
open Go.RowKit Go.Proofs.YtdjifjnophcnlaaDoorW.PrintWords Go.Proofs.YtdjifjnophcnlaaDoorW.PrintLast Go.Proofs.YtdjifjnophcnlaaDoorW.PrintMore
attribute [local go_sem] max2_int min2_int max_two min_two max_three min_three max_four min_four   -- for this text's walks alone
set_option linter.unusedVariables false
set_option linter.unusedSimpArgs false

/-! ### clerestoryref2_NumberAt: function 54 -/
mutual
def clerestoryref2_NumberAt.j0 : Nat → ByteArray → Int → Bool → Option (Int × Int)
  | 0, _, _, _ => none
  | k + 1, x0, x4, x16 => if x16 = true then (clerestoryref2_NumberAt.j1 k x0 1) else (clerestoryref2_NumberAt.j1 k x0 x4)
def clerestoryref2_NumberAt.j1 : Nat → ByteArray → Int → Option (Int × Int)
  | 0, _, _ => none
  | k + 1, x0, x4 => clerestoryref2_NumberAt.l0 k x0 x4 x4 0
def clerestoryref2_NumberAt.j3 : Nat → ByteArray → Int → Int → Int → Option (Int × Int)
  | 0, _, _, _, _ => none
  | k + 1, x0, x4, x5, x6 => (clerestoryref2_at.f x0 x4).bind fun t176 => (if t176 = 46 then (if (wrap64 (x4 + 1)) < (x0.size : Int) then (if 0 ≤ (wrap64 (x4 + 1)) then ((clerestoryref2_digit.f (bt x0 (wrap64 (x4 + 1)))).bind fun t177 => (clerestoryref2_NumberAt.j4 k x0 x4 (mn (wrap64 (1000 * x6)) 1000000000) (wrap64 (x4 - x5)) t177)) else (none)) else (clerestoryref2_NumberAt.j4 k x0 x4 (mn (wrap64 (1000 * x6)) 1000000000) (wrap64 (x4 - x5)) false)) else (clerestoryref2_NumberAt.j4 k x0 x4 (mn (wrap64 (1000 * x6)) 1000000000) (wrap64 (x4 - x5)) false))
def clerestoryref2_NumberAt.j4 : Nat → ByteArray → Int → Int → Int → Bool → Option (Int × Int)
  | 0, _, _, _, _, _ => none
  | k + 1, x0, x4, x6, x7, x62 => if x62 = true then (clerestoryref2_NumberAt.l1 k x0 (wrap64 (x4 + 1)) x6 x7 100) else (clerestoryref2_NumberAt.j6 k x0 x4 x6 x7)
def clerestoryref2_NumberAt.j6 : Nat → ByteArray → Int → Int → Int → Option (Int × Int)
  | 0, _, _, _, _ => none
  | k + 1, x0, x4, x6, x7 => if x7 = 0 then (some (0, 0)) else (if 0 < (x0.size : Int) then (if (bt x0 0) = 45 then (some (wrap64 (-x6), x4)) else (some (x6, x4))) else (none))
def clerestoryref2_NumberAt.l1 : Nat → ByteArray → Int → Int → Int → Int → Option (Int × Int)
  | 0, _, _, _, _, _ => none
  | k + 1, x0, x4, x6, x7, x8 => if x4 < (x0.size : Int) then (if 0 ≤ x4 then ((clerestoryref2_digit.f (bt x0 x4)).bind fun t178 => (if t178 = true then (clerestoryref2_NumberAt.l1 k x0 (wrap64 (x4 + 1)) (mn (wrap64 (x6 + (wrap64 (x8 * (((bt x0 x4) - 48) % 256))))) 1000000000) (wrap64 (x7 + 1)) (wrap64 (Int.tdiv x8 10))) else (clerestoryref2_NumberAt.j6 k x0 x4 x6 x7))) else (none)) else (clerestoryref2_NumberAt.j6 k x0 x4 x6 x7)
def clerestoryref2_NumberAt.l0 : Nat → ByteArray → Int → Int → Int → Option (Int × Int)
  | 0, _, _, _, _ => none
  | k + 1, x0, x4, x5, x6 => if x4 < (x0.size : Int) then (if 0 ≤ x4 then ((clerestoryref2_digit.f (bt x0 x4)).bind fun t175 => (if t175 = true then (clerestoryref2_NumberAt.l0 k x0 (wrap64 (x4 + 1)) x5 (mn (wrap64 ((wrap64 (10 * x6)) + (((bt x0 x4) - 48) % 256))) 1000000000)) else (clerestoryref2_NumberAt.j3 k x0 x4 x5 x6))) else (none)) else (clerestoryref2_NumberAt.j3 k x0 x4 x5 x6)
end
def clerestoryref2_NumberAt.f (k : Nat) (a0 : ByteArray) : Option (Int × Int) := (clerestoryref2_at.f a0 0).bind fun t173 => (if t173 = 43 then (clerestoryref2_NumberAt.j0 k a0 0 true) else ((clerestoryref2_at.f a0 0).bind fun t174 => (clerestoryref2_NumberAt.j0 k a0 0 (t174 == 45))))
theorem clerestoryref2_NumberAt.mono_l : ∀ k, (∀ y0 y1 y2, LeO (clerestoryref2_NumberAt.j0 k y0 y1 y2) (clerestoryref2_NumberAt.j0 (k + 1) y0 y1 y2)) ∧ (∀ y0 y1, LeO (clerestoryref2_NumberAt.j1 k y0 y1) (clerestoryref2_NumberAt.j1 (k + 1) y0 y1)) ∧ (∀ y0 y1 y2 y3, LeO (clerestoryref2_NumberAt.j3 k y0 y1 y2 y3) (clerestoryref2_NumberAt.j3 (k + 1) y0 y1 y2 y3)) ∧ (∀ y0 y1 y2 y3 y4, LeO (clerestoryref2_NumberAt.j4 k y0 y1 y2 y3 y4) (clerestoryref2_NumberAt.j4 (k + 1) y0 y1 y2 y3 y4)) ∧ (∀ y0 y1 y2 y3, LeO (clerestoryref2_NumberAt.j6 k y0 y1 y2 y3) (clerestoryref2_NumberAt.j6 (k + 1) y0 y1 y2 y3)) ∧ (∀ y0 y1 y2 y3 y4, LeO (clerestoryref2_NumberAt.l1 k y0 y1 y2 y3 y4) (clerestoryref2_NumberAt.l1 (k + 1) y0 y1 y2 y3 y4)) ∧ (∀ y0 y1 y2 y3, LeO (clerestoryref2_NumberAt.l0 k y0 y1 y2 y3) (clerestoryref2_NumberAt.l0 (k + 1) y0 y1 y2 y3))
  | 0 => ⟨fun _ _ _ r h => by simp [clerestoryref2_NumberAt.j0] at h, fun _ _ r h => by simp [clerestoryref2_NumberAt.j1] at h, fun _ _ _ _ r h => by simp [clerestoryref2_NumberAt.j3] at h, fun _ _ _ _ _ r h => by simp [clerestoryref2_NumberAt.j4] at h, fun _ _ _ _ r h => by simp [clerestoryref2_NumberAt.j6] at h, fun _ _ _ _ _ r h => by simp [clerestoryref2_NumberAt.l1] at h, fun _ _ _ _ r h => by simp [clerestoryref2_NumberAt.l0] at h⟩
  | k + 1 => by
    obtain ⟨ih0, ih1, ih2, ih3, ih4, ih5, ih6⟩ := clerestoryref2_NumberAt.mono_l k
    refine ⟨?_, ?_, ?_, ?_, ?_, ?_, ?_⟩
    · intro y0 y1 y2
      unfold clerestoryref2_NumberAt.j0
      repeat' first
      | (with_reducible exact ih0 _ _ _)
      | (with_reducible exact ih1 _ _)
      | (with_reducible exact ih2 _ _ _ _)
      | (with_reducible exact ih3 _ _ _ _ _)
      | (with_reducible exact ih4 _ _ _ _)
      | (with_reducible exact ih5 _ _ _ _ _)
      | (with_reducible exact ih6 _ _ _ _)
      | (with_reducible exact LeO.refl _)
      | (with_reducible exact LeO.none _)
      | (with_reducible refine LeO.ite ?_ ?_)
      | (with_reducible refine LeO.bind ?_ (fun _ => ?_))
      | exact ih0 _ _ _
      | exact ih1 _ _
      | exact ih2 _ _ _ _
      | exact ih3 _ _ _ _ _
      | exact ih4 _ _ _ _
      | exact ih5 _ _ _ _ _
      | exact ih6 _ _ _ _
      | exact LeO.none _
      | refine LeO.ite ?_ ?_
      | refine LeO.bind ?_ (fun _ => ?_)
    · intro y0 y1
      unfold clerestoryref2_NumberAt.j1
      repeat' first
      | (with_reducible exact ih0 _ _ _)
      | (with_reducible exact ih1 _ _)
      | (with_reducible exact ih2 _ _ _ _)
      | (with_reducible exact ih3 _ _ _ _ _)
      | (with_reducible exact ih4 _ _ _ _)
      | (with_reducible exact ih5 _ _ _ _ _)
      | (with_reducible exact ih6 _ _ _ _)
      | (with_reducible exact LeO.refl _)
      | (with_reducible exact LeO.none _)
      | (with_reducible refine LeO.ite ?_ ?_)
      | (with_reducible refine LeO.bind ?_ (fun _ => ?_))
      | exact ih0 _ _ _
      | exact ih1 _ _
      | exact ih2 _ _ _ _
      | exact ih3 _ _ _ _ _
      | exact ih4 _ _ _ _
      | exact ih5 _ _ _ _ _
      | exact ih6 _ _ _ _
      | exact LeO.none _
      | refine LeO.ite ?_ ?_
      | refine LeO.bind ?_ (fun _ => ?_)
    · intro y0 y1 y2 y3
      unfold clerestoryref2_NumberAt.j3
      repeat' first
      | (with_reducible exact ih0 _ _ _)
      | (with_reducible exact ih1 _ _)
      | (with_reducible exact ih2 _ _ _ _)
      | (with_reducible exact ih3 _ _ _ _ _)
      | (with_reducible exact ih4 _ _ _ _)
      | (with_reducible exact ih5 _ _ _ _ _)
      | (with_reducible exact ih6 _ _ _ _)
      | (with_reducible exact LeO.refl _)
      | (with_reducible exact LeO.none _)
      | (with_reducible refine LeO.ite ?_ ?_)
      | (with_reducible refine LeO.bind ?_ (fun _ => ?_))
      | exact ih0 _ _ _
      | exact ih1 _ _
      | exact ih2 _ _ _ _
      | exact ih3 _ _ _ _ _
      | exact ih4 _ _ _ _
      | exact ih5 _ _ _ _ _
      | exact ih6 _ _ _ _
      | exact LeO.none _
      | refine LeO.ite ?_ ?_
      | refine LeO.bind ?_ (fun _ => ?_)
    · intro y0 y1 y2 y3 y4
      unfold clerestoryref2_NumberAt.j4
      repeat' first
      | (with_reducible exact ih0 _ _ _)
      | (with_reducible exact ih1 _ _)
      | (with_reducible exact ih2 _ _ _ _)
      | (with_reducible exact ih3 _ _ _ _ _)
      | (with_reducible exact ih4 _ _ _ _)
      | (with_reducible exact ih5 _ _ _ _ _)
      | (with_reducible exact ih6 _ _ _ _)
      | (with_reducible exact LeO.refl _)
      | (with_reducible exact LeO.none _)
      | (with_reducible refine LeO.ite ?_ ?_)
      | (with_reducible refine LeO.bind ?_ (fun _ => ?_))
      | exact ih0 _ _ _
      | exact ih1 _ _
      | exact ih2 _ _ _ _
      | exact ih3 _ _ _ _ _
      | exact ih4 _ _ _ _
      | exact ih5 _ _ _ _ _
      | exact ih6 _ _ _ _
      | exact LeO.none _
      | refine LeO.ite ?_ ?_
      | refine LeO.bind ?_ (fun _ => ?_)
    · intro y0 y1 y2 y3
      unfold clerestoryref2_NumberAt.j6
      repeat' first
      | (with_reducible exact ih0 _ _ _)
      | (with_reducible exact ih1 _ _)
      | (with_reducible exact ih2 _ _ _ _)
      | (with_reducible exact ih3 _ _ _ _ _)
      | (with_reducible exact ih4 _ _ _ _)
      | (with_reducible exact ih5 _ _ _ _ _)
      | (with_reducible exact ih6 _ _ _ _)
      | (with_reducible exact LeO.refl _)
      | (with_reducible exact LeO.none _)
      | (with_reducible refine LeO.ite ?_ ?_)
      | (with_reducible refine LeO.bind ?_ (fun _ => ?_))
      | exact ih0 _ _ _
      | exact ih1 _ _
      | exact ih2 _ _ _ _
      | exact ih3 _ _ _ _ _
      | exact ih4 _ _ _ _
      | exact ih5 _ _ _ _ _
      | exact ih6 _ _ _ _
      | exact LeO.none _
      | refine LeO.ite ?_ ?_
      | refine LeO.bind ?_ (fun _ => ?_)
    · intro y0 y1 y2 y3 y4
      unfold clerestoryref2_NumberAt.l1
      repeat' first
      | (with_reducible exact ih0 _ _ _)
      | (with_reducible exact ih1 _ _)
      | (with_reducible exact ih2 _ _ _ _)
      | (with_reducible exact ih3 _ _ _ _ _)
      | (with_reducible exact ih4 _ _ _ _)
      | (with_reducible exact ih5 _ _ _ _ _)
      | (with_reducible exact ih6 _ _ _ _)
      | (with_reducible exact LeO.refl _)
      | (with_reducible exact LeO.none _)
      | (with_reducible refine LeO.ite ?_ ?_)
      | (with_reducible refine LeO.bind ?_ (fun _ => ?_))
      | exact ih0 _ _ _
      | exact ih1 _ _
      | exact ih2 _ _ _ _
      | exact ih3 _ _ _ _ _
      | exact ih4 _ _ _ _
      | exact ih5 _ _ _ _ _
      | exact ih6 _ _ _ _
      | exact LeO.none _
      | refine LeO.ite ?_ ?_
      | refine LeO.bind ?_ (fun _ => ?_)
    · intro y0 y1 y2 y3
      unfold clerestoryref2_NumberAt.l0
      repeat' first
      | (with_reducible exact ih0 _ _ _)
      | (with_reducible exact ih1 _ _)
      | (with_reducible exact ih2 _ _ _ _)
      | (with_reducible exact ih3 _ _ _ _ _)
      | (with_reducible exact ih4 _ _ _ _)
      | (with_reducible exact ih5 _ _ _ _ _)
      | (with_reducible exact ih6 _ _ _ _)
      | (with_reducible exact LeO.refl _)
      | (with_reducible exact LeO.none _)
      | (with_reducible refine LeO.ite ?_ ?_)
      | (with_reducible refine LeO.bind ?_ (fun _ => ?_))
      | exact ih0 _ _ _
      | exact ih1 _ _
      | exact ih2 _ _ _ _
      | exact ih3 _ _ _ _ _
      | exact ih4 _ _ _ _
      | exact ih5 _ _ _ _ _
      | exact ih6 _ _ _ _
      | exact LeO.none _
      | refine LeO.ite ?_ ?_
      | refine LeO.bind ?_ (fun _ => ?_)
theorem clerestoryref2_NumberAt.mono : ∀ a0 k, LeO (clerestoryref2_NumberAt.f k a0) (clerestoryref2_NumberAt.f (k + 1) a0) := by
  intro a0 k
  obtain ⟨ih0, ih1, ih2, ih3, ih4, ih5, ih6⟩ := clerestoryref2_NumberAt.mono_l k
  unfold clerestoryref2_NumberAt.f
  repeat' first
      | (with_reducible exact ih0 _ _ _)
      | (with_reducible exact ih1 _ _)
      | (with_reducible exact ih2 _ _ _ _)
      | (with_reducible exact ih3 _ _ _ _ _)
      | (with_reducible exact ih4 _ _ _ _)
      | (with_reducible exact ih5 _ _ _ _ _)
      | (with_reducible exact ih6 _ _ _ _)
      | (with_reducible exact LeO.refl _)
      | (with_reducible exact LeO.none _)
      | (with_reducible refine LeO.ite ?_ ?_)
      | (with_reducible refine LeO.bind ?_ (fun _ => ?_))
      | exact ih0 _ _ _
      | exact ih1 _ _
      | exact ih2 _ _ _ _
      | exact ih3 _ _ _ _ _
      | exact ih4 _ _ _ _
      | exact ih5 _ _ _ _ _
      | exact ih6 _ _ _ _
      | exact LeO.none _
      | refine LeO.ite ?_ ?_
      | refine LeO.bind ?_ (fun _ => ?_)
set_option maxHeartbeats 8000000 in
set_option maxRecDepth 100000 in
theorem clerestoryref2_NumberAt.calls (k : Nat) (a0 : ByteArray) (r1 : Int) (r2 : Int) (w : World) (h : clerestoryref2_NumberAt.f k a0 = some (r1, r2)) :
    Calls Tryd.prog 54 #[.string a0] w fun e w' => e = .returned (.tuple #[.int .i64 r1, .int .i64 r2]) ∧ Below w.heap.size w w' := by
  have HB := Aside0.mk (Below.refl w.heap.size w)
  have H : ((clerestoryref2_at.f a0 0).bind fun t173 => (if t173 = 43 then (clerestoryref2_NumberAt.j0 k a0 0 true) else ((clerestoryref2_at.f a0 0).bind fun t174 => (clerestoryref2_NumberAt.j0 k a0 0 (t174 == 45))))) = some (r1, r2) := h
  clear h
  have HC2 := Aside0.mk H
  clear H
  go_enter Tryd.func54, Tryd.ntmps54
  go_upto_region 2 with (fail)
  go_cut [16] (fun v16 wc => ∃ (kq : Nat) (x16_1 : Bool), v16 = .bool x16_1 ∧ Aside0 (clerestoryref2_NumberAt.j0 kq a0 0 x16_1 = some (r1, r2)) ∧ Aside0 (kq ≤ k) ∧ Aside0 (Below w.heap.size w wc))
  case first =>
    have H := HC2.out
    clear HC2
    replace H := Option.bind_eq_some_iff.mp H
    obtain ⟨t173, A30, H⟩ := H
    replace H : (if t173 = 43 then (clerestoryref2_NumberAt.j0 k a0 0 true) else ((clerestoryref2_at.f a0 0).bind fun t174 => (clerestoryref2_NumberAt.j0 k a0 0 (t174 == 45)))) = some (r1, r2) := H
    have A3 := Aside0.mk A30
    clear A30
    by_cases c4 : t173 = 43
    · rw [if_pos c4] at H
      have c4b0 : (t173 == 43) = true := beq_iff_eq.mpr c4
      have c4b1 : (t173 != 43) = false := bne_eq_false_iff_eq.mpr c4
      clear c4
      (first | rw [c4b0] | (simp only [i64_w, i32_w]; rw [c4b0]) | skip)
      have H' := Aside0.mk H
      clear H
      go_wp2_with (first | ((with_reducible refine gate_callee (f := 51) rfl ?_); refine goesL_ (some 10) rfl rfl Tryd.func51 (by kernel_rfl) rfl #[.string a0, .int .i64 0] rfl (by (try simp only [List.map_toArray, List.map_cons, List.map_nil]); first | done | rfl | (simp only [List.length_drop, List.length_take]; rfl)) ?_; (with_reducible refine (clerestoryref2_at.calls a0 0 t173 _ A3.out).mono ?_); rintro e w' ⟨rfl, ⟨nd, rfl⟩⟩; refine ⟨_, rfl, ?_⟩))
      go_meet
      case rel => exact ⟨_, (true), (by first | rfl | (simp; done) | (simp [*]; done)), H', ⟨by first | omega | exact Nat.le_refl _⟩, ⟨by repeat (first | (with_reducible first | exact HB.out | apply below_alloc | apply pw_below_drewN | apply below_drew1) | exact HB.out)⟩⟩
    · rw [if_neg c4] at H
      have c4b0 : (t173 == 43) = false := beq_eq_false_iff_ne.mpr c4
      have c4b1 : (t173 != 43) = true := bne_iff_ne.mpr c4
      (first | rw [c4b0] | (simp only [i64_w, i32_w]; rw [c4b0]) | skip)
      replace H := Option.bind_eq_some_iff.mp H
      obtain ⟨t174, A50, H⟩ := H
      replace H : (clerestoryref2_NumberAt.j0 k a0 0 (t174 == 45)) = some (r1, r2) := H
      have A5 := Aside0.mk A50
      clear A50
      have H' := Aside0.mk H
      clear H
      go_wp2_with (first | ((with_reducible refine gate_callee (f := 51) rfl ?_); refine goesL_ (some 10) rfl rfl Tryd.func51 (by kernel_rfl) rfl #[.string a0, .int .i64 0] rfl (by (try simp only [List.map_toArray, List.map_cons, List.map_nil]); first | done | rfl | (simp only [List.length_drop, List.length_take]; rfl)) ?_; (with_reducible refine (clerestoryref2_at.calls a0 0 t173 _ A3.out).mono ?_); rintro e w' ⟨rfl, ⟨nd, rfl⟩⟩; refine ⟨_, rfl, ?_⟩) | (go_at_call 51; (with_reducible refine (clerestoryref2_at.calls a0 0 t174 _ A5.out).mono ?_); rintro e w' ⟨rfl, ⟨nd, rfl⟩⟩))
      go_meet
      case rel => exact ⟨_, ((t174 == 45)), (by first | rfl | (simp; done) | (simp [*]; done)), H', ⟨by first | omega | exact Nat.le_refl _⟩, ⟨by repeat (first | (with_reducible first | exact HB.out | apply below_alloc | apply pw_below_drewN | apply below_drew1) | exact HB.out)⟩⟩
  case rest =>
    clear HC2
    try clear p2
    try clear c4
    try clear c4b0
    try clear c4b1
    try clear c5
    obtain ⟨kq, x16_1, rfl, HA, HJ1, HB⟩ := hcut
    cases kq with
    | zero => exact absurd HA.out (by simp [clerestoryref2_NumberAt.j0])
    | succ kj1 =>
      have H := HA.out
      clear HA
      simp only [clerestoryref2_NumberAt.j0] at H
      have HC6 := Aside0.mk H
      clear H
      go_upto_if 16 with (fail)
      go_cut [4] (fun v4 wc => ∃ (kq : Nat) (x4_5 : Int), v4 = .int .i64 x4_5 ∧ Aside0 (clerestoryref2_NumberAt.j1 kq a0 x4_5 = some (r1, r2)) ∧ Aside0 (kq ≤ kj1) ∧ Aside0 (Below w.heap.size w wc))
      case first =>
        have H := HC6.out
        clear HC6
        by_cases c7 : x16_1 = true
        · subst c7
          have H1 : (clerestoryref2_NumberAt.j1 kj1 a0 1) = some (r1, r2) := by rw [if_pos rfl] at H; exact H
          clear H
          have H := H1
          clear H1
          have H' := Aside0.mk H
          clear H
          go_wp2
          go_meet
          case rel => exact ⟨_, (1), (by first | rfl | (simp; done) | (simp [*]; done)), H', ⟨by have := HJ1.out; first | omega | exact Nat.le_refl _⟩, ⟨by repeat (first | (with_reducible first | exact HB.out | apply below_alloc | apply pw_below_drewN | apply below_drew1) | exact HB.out)⟩⟩
        · replace c7 := Bool.eq_false_iff.mpr c7
          subst c7
          have H1 : (clerestoryref2_NumberAt.j1 kj1 a0 0) = some (r1, r2) := by rw [if_neg (show ¬ (false = true) by decide)] at H; exact H
          clear H
          have H := H1
          clear H1
          have H' := Aside0.mk H
          clear H
          go_wp2
          go_meet
          case rel => exact ⟨_, (0), (by first | rfl | (simp; done) | (simp [*]; done)), H', ⟨by have := HJ1.out; first | omega | exact Nat.le_refl _⟩, ⟨by repeat (first | (with_reducible first | exact HB.out | apply below_alloc | apply pw_below_drewN | apply below_drew1) | exact HB.out)⟩⟩
      case rest =>
        clear HC6
        try clear p2
        try clear c4
        try clear c4b0
        try clear c4b1
        try clear c5
        try clear c7
        try clear p2
        obtain ⟨kq, x4_5, rfl, HA, HJ5, HB⟩ := hcut
        cases kq with
        | zero => exact absurd HA.out (by simp [clerestoryref2_NumberAt.j1])
        | succ kj5 =>
          have H := HA.out
          clear HA
          simp only [clerestoryref2_NumberAt.j1] at H
          have HC8 := Aside0.mk H
          clear H
          go_upto_block 0 with (fail)
          go_cut [4, 6] (fun v4 v6 wc => ∃ (kq : Nat) (x4_7 : Int) (x6_7 : Int), v4 = .int .i64 x4_7 ∧ v6 = .int .i64 x6_7 ∧ Aside0 (clerestoryref2_NumberAt.j3 kq a0 x4_7 x4_5 x6_7 = some (r1, r2)) ∧ Aside0 (kq ≤ kj5) ∧ Aside0 (Below w.heap.size w wc))
          case first =>
            have H := HC8.out
            clear HC8
            have H' := Aside0.mk H
            clear H
            go_wp2
            go_loopg [4, 6] kj5 (fun kq v4 v6 w' => ∃ (x4_3 : Int) (x6_3 : Int), v4 = .int .i64 x4_3 ∧ v6 = .int .i64 x6_3 ∧ Aside0 (clerestoryref2_NumberAt.l0 kq a0 x4_3 x4_5 x6_3 = some (r1, r2)) ∧ Aside0 (kq ≤ kj5) ∧ Aside0 (Below w.heap.size w w'))
            case atStart => exact ⟨(x4_5), (0), (by first | rfl | (simp; done) | (simp [*]; done)), (by first | rfl | (simp; done) | (simp [*]; done)), H', ⟨Nat.le_refl _⟩, ⟨by repeat (first | (with_reducible first | exact HB.out | apply below_alloc | apply pw_below_drewN | apply below_drew1) | exact HB.out)⟩⟩
            case round =>
              clear H'
              try clear p2
              try clear c4
              try clear c4b0
              try clear c4b1
              try clear c5
              try clear c7
              try clear p2
              obtain ⟨x4_3, x6_3, rfl, rfl, HA, HK3, HB⟩ := hrel
              cases gk with
              | zero => exact absurd HA.out (by simp [clerestoryref2_NumberAt.l0])
              | succ k3 =>
                have H := HA.out
                clear HA
                simp only [clerestoryref2_NumberAt.l0] at H
                by_cases c9 : x4_3 < (a0.size : Int)
                · rw [if_pos c9] at H
                  have c9b0 : decide (x4_3 < (a0.size : Int)) = true := decide_eq_true c9
                  clear c9
                  (first | rw [c9b0] | (simp only [i64_w, i32_w]; rw [c9b0]) | skip)
                  by_cases c10 : 0 ≤ x4_3
                  · rw [if_pos c10] at H
                    have c10b0 : decide (0 ≤ x4_3) = true := decide_eq_true c10
                    clear c10
                    replace H := Option.bind_eq_some_iff.mp H
                    obtain ⟨t175, A120, H⟩ := H
                    replace H : (if t175 = true then (clerestoryref2_NumberAt.l0 k3 a0 (wrap64 (x4_3 + 1)) x4_5 (mn (wrap64 ((wrap64 (10 * x6_3)) + (((bt a0 x4_3) - 48) % 256))) 1000000000)) else (clerestoryref2_NumberAt.j3 k3 a0 x4_3 x4_5 x6_3)) = some (r1, r2) := H
                    have A12 := Aside0.mk A120
                    clear A120
                    by_cases c13 : t175 = true
                    · subst c13
                      have H1 : (clerestoryref2_NumberAt.l0 k3 a0 (wrap64 (x4_3 + 1)) x4_5 (mn (wrap64 ((wrap64 (10 * x6_3)) + (((bt a0 x4_3) - 48) % 256))) 1000000000)) = some (r1, r2) := by rw [if_pos rfl] at H; exact H
                      clear H
                      have H := H1
                      clear H1
                      obtain ⟨ji15, hji15⟩ : ∃ j_ : Int, (mn (wrap64 ((wrap64 (10 * x6_3)) + (((bt a0 x4_3) - 48) % 256))) 1000000000) = j_ := ⟨_, rfl⟩
                      replace H : (clerestoryref2_NumberAt.l0 k3 a0 (wrap64 (x4_3 + 1)) x4_5 ji15) = some (r1, r2) := by first | (rw [hji15] at H; exact H) | (simp only [hji15] at H ⊢; exact H)
                      (try rw [hji15] at A12)
                      have hji15_ : (if 1000000000 < (wrap64 ((wrap64 (10 * x6_3)) + (((bt a0 x4_3) - 48) % 256))) then 1000000000 else (wrap64 ((wrap64 (10 * x6_3)) + (((bt a0 x4_3) - 48) % 256)))) = ji15 := hji15
                      have H' := Aside0.mk H
                      clear H
                      have p11 : 0 ≤ (x4_3 : Int) := of_decide_eq_true (by first | (with_reducible assumption) | assumption)
                      have q11 : x4_3 < (a0.size : Int) := of_decide_eq_true (by first | (with_reducible assumption) | assumption)
                      have hx11 := bt_at a0 x4_3
                      replace p11 := eq_true p11
                      replace q11 := eq_true q11
                      go_wp2_with (first | (go_at_call 77; (with_reducible refine (clerestoryref2_digit.calls (bt a0 x4_3) true _ A12.out).mono ?_); rintro e w' ⟨rfl, ⟨nd, rfl⟩⟩; have p14 : 0 ≤ (x4_3 : Int) := of_decide_eq_true (by first | (with_reducible assumption) | assumption); have q14 : x4_3 < (a0.size : Int) := of_decide_eq_true (by first | (with_reducible assumption) | assumption); have hx14 := bt_at a0 x4_3; replace p14 := eq_true p14; replace q14 := eq_true q14))
                      go_roundg k3
                      case measure => have := HJ1.out; have := HJ5.out; have := HK3.out; omega
                      case rel => exact ⟨(wrap64 (x4_3 + 1)), (ji15), (by first | rfl | (simp; done) | (simp [*]; done)), (by first | rfl | (simp; done) | (simp only [← hji15] <;> (first | rfl | simp)) | (simp [*]; done)), H', ⟨by have := HJ1.out; have := HJ5.out; have := HK3.out; omega⟩, ⟨by repeat (first | (with_reducible first | exact HB.out | apply below_alloc | apply pw_below_drewN | apply below_drew1) | exact HB.out)⟩⟩
                    · replace c13 := Bool.eq_false_iff.mpr c13
                      subst c13
                      have H1 : (clerestoryref2_NumberAt.j3 k3 a0 x4_3 x4_5 x6_3) = some (r1, r2) := by rw [if_neg (show ¬ (false = true) by decide)] at H; exact H
                      clear H
                      have H := H1
                      clear H1
                      have H' := Aside0.mk H
                      clear H
                      have p11 : 0 ≤ (x4_3 : Int) := of_decide_eq_true (by first | (with_reducible assumption) | assumption)
                      have q11 : x4_3 < (a0.size : Int) := of_decide_eq_true (by first | (with_reducible assumption) | assumption)
                      have hx11 := bt_at a0 x4_3
                      replace p11 := eq_true p11
                      replace q11 := eq_true q11
                      go_wp2_with (first | (go_at_call 77; (with_reducible refine (clerestoryref2_digit.calls (bt a0 x4_3) false _ A12.out).mono ?_); rintro e w' ⟨rfl, ⟨nd, rfl⟩⟩))
                      go_meet
                      case rel => exact ⟨_, (x4_3), (x6_3), (by first | rfl | (simp; done) | (simp [*]; done)), (by first | rfl | (simp; done) | (simp [*]; done)), H', ⟨by have := HJ1.out; have := HJ5.out; have := HK3.out; first | omega | exact Nat.le_refl _⟩, ⟨by repeat (first | (with_reducible first | exact HB.out | apply below_alloc | apply pw_below_drewN | apply below_drew1) | exact HB.out)⟩⟩
                  · rw [if_neg c10] at H
                    exact absurd H (by simp)
                · rw [if_neg c9] at H
                  have c9b0 : decide (x4_3 < (a0.size : Int)) = false := decide_eq_false c9
                  clear c9
                  (first | rw [c9b0] | (simp only [i64_w, i32_w]; rw [c9b0]) | skip)
                  have H' := Aside0.mk H
                  clear H
                  go_wp2
                  go_meet
                  case rel => exact ⟨_, (x4_3), (x6_3), (by first | rfl | (simp; done) | (simp [*]; done)), (by first | rfl | (simp; done) | (simp [*]; done)), H', ⟨by have := HJ1.out; have := HJ5.out; have := HK3.out; first | omega | exact Nat.le_refl _⟩, ⟨by repeat (first | (with_reducible first | exact HB.out | apply below_alloc | apply pw_below_drewN | apply below_drew1) | exact HB.out)⟩⟩
          case rest =>
            clear HC8
            try clear c1
            try clear p1
            try clear q1
            try clear hx1
            try clear p2
            try clear c4
            try clear c4b0
            try clear c4b1
            try clear c5
            try clear p6
            try clear c7
            try clear c9
            try clear c9b0
            try clear c10
            try clear c10b0
            try clear p11
            try clear q11
            try clear hx11
            try clear c13
            try clear p14
            try clear q14
            try clear hx14
            try clear p11
            try clear p14
            try clear p2
            try clear q11
            try clear q14
            obtain ⟨kq, x4_7, x6_7, rfl, rfl, HA, HJ7, HB⟩ := hcut
            cases kq with
            | zero => exact absurd HA.out (by simp [clerestoryref2_NumberAt.j3])
            | succ kj7 =>
              have H := HA.out
              clear HA
              simp only [clerestoryref2_NumberAt.j3] at H
              obtain ⟨ji16, hji16⟩ : ∃ j_ : Int, (mn (wrap64 (1000 * x6_7)) 1000000000) = j_ := ⟨_, rfl⟩
              replace H : ((clerestoryref2_at.f a0 x4_7).bind fun t176 => (if t176 = 46 then (if (wrap64 (x4_7 + 1)) < (a0.size : Int) then (if 0 ≤ (wrap64 (x4_7 + 1)) then ((clerestoryref2_digit.f (bt a0 (wrap64 (x4_7 + 1)))).bind fun t177 => (clerestoryref2_NumberAt.j4 kj7 a0 x4_7 ji16 (wrap64 (x4_7 - x4_5)) t177)) else (none)) else (clerestoryref2_NumberAt.j4 kj7 a0 x4_7 ji16 (wrap64 (x4_7 - x4_5)) false)) else (clerestoryref2_NumberAt.j4 kj7 a0 x4_7 ji16 (wrap64 (x4_7 - x4_5)) false))) = some (r1, r2) := by first | (rw [hji16] at H; exact H) | (simp only [hji16] at H ⊢; exact H)
              have hji16_ : (if 1000000000 < (wrap64 (1000 * x6_7)) then 1000000000 else (wrap64 (1000 * x6_7))) = ji16 := hji16
              have HC17 := Aside0.mk H
              clear H
              go_upto_region 11 with (fail)
              go_cut [62] (fun v62 wc => ∃ (kq : Nat) (x62_16 : Bool), v62 = .bool x62_16 ∧ Aside0 (clerestoryref2_NumberAt.j4 kq a0 x4_7 ji16 (wrap64 (x4_7 - x4_5)) x62_16 = some (r1, r2)) ∧ Aside0 (kq ≤ kj7) ∧ Aside0 (Below w.heap.size w wc))
              case first =>
                have H := HC17.out
                clear HC17
                replace H := Option.bind_eq_some_iff.mp H
                obtain ⟨t176, A180, H⟩ := H
                replace H : (if t176 = 46 then (if (wrap64 (x4_7 + 1)) < (a0.size : Int) then (if 0 ≤ (wrap64 (x4_7 + 1)) then ((clerestoryref2_digit.f (bt a0 (wrap64 (x4_7 + 1)))).bind fun t177 => (clerestoryref2_NumberAt.j4 kj7 a0 x4_7 ji16 (wrap64 (x4_7 - x4_5)) t177)) else (none)) else (clerestoryref2_NumberAt.j4 kj7 a0 x4_7 ji16 (wrap64 (x4_7 - x4_5)) false)) else (clerestoryref2_NumberAt.j4 kj7 a0 x4_7 ji16 (wrap64 (x4_7 - x4_5)) false)) = some (r1, r2) := H
                have A18 := Aside0.mk A180
                clear A180
                by_cases c19 : t176 = 46
                · rw [if_pos c19] at H
                  have c19b0 : (t176 == 46) = true := beq_iff_eq.mpr c19
                  have c19b1 : (t176 != 46) = false := bne_eq_false_iff_eq.mpr c19
                  clear c19
                  (first | rw [c19b0] | (simp only [i64_w, i32_w]; rw [c19b0]) | skip)
                  by_cases c20 : (wrap64 (x4_7 + 1)) < (a0.size : Int)
                  · rw [if_pos c20] at H
                    have c20b0 : decide ((wrap64 (x4_7 + 1)) < (a0.size : Int)) = true := decide_eq_true c20
                    clear c20
                    obtain ⟨ji21, hji21⟩ : ∃ j_ : Int, (wrap64 (x4_7 + 1)) = j_ := ⟨_, rfl⟩
                    replace H : (if 0 ≤ (ji21) then ((clerestoryref2_digit.f (bt a0 (ji21))).bind fun t177 => (clerestoryref2_NumberAt.j4 kj7 a0 x4_7 ji16 (wrap64 (x4_7 - x4_5)) t177)) else (none)) = some (r1, r2) := by first | (rw [hji21] at H; exact H) | (simp only [hji21] at H ⊢; exact H)
                    (try rw [hji21] at c20b0)
                    (try rw [hji21] at A18)
                    have hji21w : (IntKind.i64.wrap (x4_7 + 1)) = ji21 := (i64_w _).trans hji21
                    by_cases c22 : 0 ≤ (ji21)
                    · rw [if_pos c22] at H
                      have c22b0 : decide (0 ≤ (ji21)) = true := decide_eq_true c22
                      clear c22
                      replace H := Option.bind_eq_some_iff.mp H
                      obtain ⟨t177, A240, H⟩ := H
                      replace H : (clerestoryref2_NumberAt.j4 kj7 a0 x4_7 ji16 (wrap64 (x4_7 - x4_5)) t177) = some (r1, r2) := H
                      have A24 := Aside0.mk A240
                      clear A240
                      have H' := Aside0.mk H
                      clear H
                      go_wp2_with (first | ((with_reducible refine gate_callee (f := 51) rfl ?_); refine goesL_ (some 47) rfl rfl Tryd.func51 (by kernel_rfl) rfl #[.string a0, .int .i64 x4_7] rfl (by (try simp only [List.map_toArray, List.map_cons, List.map_nil]); first | done | rfl | (simp only [List.length_drop, List.length_take]; rfl)) ?_; (with_reducible refine (clerestoryref2_at.calls a0 x4_7 t176 _ A18.out).mono ?_); rintro e w' ⟨rfl, ⟨nd, rfl⟩⟩; refine ⟨_, rfl, ?_⟩; have p23 : 0 ≤ ((ji21) : Int) := of_decide_eq_true (by first | (with_reducible assumption) | assumption); have q23 : (ji21) < (a0.size : Int) := of_decide_eq_true (by first | (with_reducible assumption) | assumption); have hx23 := bt_at a0 (ji21); replace p23 := eq_true p23; replace q23 := eq_true q23) | (go_at_call 77; (with_reducible refine (clerestoryref2_digit.calls (bt a0 (ji21)) t177 _ A24.out).mono ?_); rintro e w' ⟨rfl, ⟨nd, rfl⟩⟩))
                      go_meet
                      case rel => exact ⟨_, (t177), (by first | rfl | (simp; done) | (simp [*]; done)), H', ⟨by have := HJ1.out; have := HJ5.out; have := HJ7.out; first | omega | exact Nat.le_refl _⟩, ⟨by repeat (first | (with_reducible first | exact HB.out | apply below_alloc | apply pw_below_drewN | apply below_drew1) | exact HB.out)⟩⟩
                    · rw [if_neg c22] at H
                      exact absurd H (by simp)
                  · rw [if_neg c20] at H
                    have c20b0 : decide ((wrap64 (x4_7 + 1)) < (a0.size : Int)) = false := decide_eq_false c20
                    clear c20
                    have H' := Aside0.mk H
                    clear H
                    go_wp2_with (first | ((with_reducible refine gate_callee (f := 51) rfl ?_); refine goesL_ (some 47) rfl rfl Tryd.func51 (by kernel_rfl) rfl #[.string a0, .int .i64 x4_7] rfl (by (try simp only [List.map_toArray, List.map_cons, List.map_nil]); first | done | rfl | (simp only [List.length_drop, List.length_take]; rfl)) ?_; (with_reducible refine (clerestoryref2_at.calls a0 x4_7 t176 _ A18.out).mono ?_); rintro e w' ⟨rfl, ⟨nd, rfl⟩⟩; refine ⟨_, rfl, ?_⟩))
                    go_meet
                    case rel => exact ⟨_, (false), (by first | rfl | (simp; done) | (simp [*]; done)), H', ⟨by have := HJ1.out; have := HJ5.out; have := HJ7.out; first | omega | exact Nat.le_refl _⟩, ⟨by repeat (first | (with_reducible first | exact HB.out | apply below_alloc | apply pw_below_drewN | apply below_drew1) | exact HB.out)⟩⟩
                · rw [if_neg c19] at H
                  have c19b0 : (t176 == 46) = false := beq_eq_false_iff_ne.mpr c19
                  have c19b1 : (t176 != 46) = true := bne_iff_ne.mpr c19
                  (first | rw [c19b0] | (simp only [i64_w, i32_w]; rw [c19b0]) | skip)
                  have H' := Aside0.mk H
                  clear H
                  go_wp2_with (first | ((with_reducible refine gate_callee (f := 51) rfl ?_); refine goesL_ (some 47) rfl rfl Tryd.func51 (by kernel_rfl) rfl #[.string a0, .int .i64 x4_7] rfl (by (try simp only [List.map_toArray, List.map_cons, List.map_nil]); first | done | rfl | (simp only [List.length_drop, List.length_take]; rfl)) ?_; (with_reducible refine (clerestoryref2_at.calls a0 x4_7 t176 _ A18.out).mono ?_); rintro e w' ⟨rfl, ⟨nd, rfl⟩⟩; refine ⟨_, rfl, ?_⟩))
                  go_meet
                  case rel => exact ⟨_, (false), (by first | rfl | (simp; done) | (simp [*]; done)), H', ⟨by have := HJ1.out; have := HJ5.out; have := HJ7.out; first | omega | exact Nat.le_refl _⟩, ⟨by repeat (first | (with_reducible first | exact HB.out | apply below_alloc | apply pw_below_drewN | apply below_drew1) | exact HB.out)⟩⟩
              case rest =>
                clear HC17
                try clear c1
                try clear p1
                try clear q1
                try clear hx1
                try clear c2
                try clear p2
                try clear q2
                try clear hx2
                try clear c4
                try clear c4b0
                try clear c4b1
                try clear c5
                try clear p6
                try clear c7
                try clear c9
                try clear c9b0
                try clear c10
                try clear c10b0
                try clear p11
                try clear q11
                try clear hx11
                try clear c13
                try clear p14
                try clear q14
                try clear hx14
                try clear c19
                try clear c19b0
                try clear c19b1
                try clear c20
                try clear c20b0
                try clear c22
                try clear c22b0
                try clear p23
                try clear q23
                try clear hx23
                try clear p1
                try clear p11
                try clear p14
                try clear p2
                try clear p23
                try clear p6
                try clear q1
                try clear q11
                try clear q14
                try clear q23
                obtain ⟨kq, x62_16, rfl, HA, HJ16, HB⟩ := hcut
                cases kq with
                | zero => exact absurd HA.out (by simp [clerestoryref2_NumberAt.j4])
                | succ kj16 =>
                  have H := HA.out
                  clear HA
                  simp only [clerestoryref2_NumberAt.j4] at H
                  have HC25 := Aside0.mk H
                  clear H
                  go_upto_if 62 with (fail)
                  go_cut [4, 6, 7] (fun v4 v6 v7 wc => ∃ (kq : Nat) (x4_24 : Int) (x6_24 : Int) (x7_24 : Int), v4 = .int .i64 x4_24 ∧ v6 = .int .i64 x6_24 ∧ v7 = .int .i64 x7_24 ∧ Aside0 (clerestoryref2_NumberAt.j6 kq a0 x4_24 x6_24 x7_24 = some (r1, r2)) ∧ Aside0 (kq ≤ kj16) ∧ Aside0 (Below w.heap.size w wc))
                  case first =>
                    have H := HC25.out
                    clear HC25
                    by_cases c26 : x62_16 = true
                    · subst c26
                      have H1 : (clerestoryref2_NumberAt.l1 kj16 a0 (wrap64 (x4_7 + 1)) ji16 (wrap64 (x4_7 - x4_5)) 100) = some (r1, r2) := by rw [if_pos rfl] at H; exact H
                      clear H
                      have H := H1
                      clear H1
                      have H' := Aside0.mk H
                      clear H
                      go_wp2
                      go_loopg [4, 6, 7, 8] kj16 (fun kq v4 v6 v7 v8 w' => ∃ (x4_5 : Int) (x6_5 : Int) (x7_5 : Int) (x8_5 : Int), v4 = .int .i64 x4_5 ∧ v6 = .int .i64 x6_5 ∧ v7 = .int .i64 x7_5 ∧ v8 = .int .i64 x8_5 ∧ Aside0 (clerestoryref2_NumberAt.l1 kq a0 x4_5 x6_5 x7_5 x8_5 = some (r1, r2)) ∧ Aside0 (kq ≤ kj16) ∧ Aside0 (Below w.heap.size w w'))
                      case atStart => exact ⟨(wrap64 (x4_7 + 1)), (ji16), ((wrap64 (x4_7 - x4_5))), (100), (by first | rfl | (simp; done) | (simp [*]; done)), (by first | rfl | (simp; done) | (simp only [← hji16] <;> (first | rfl | simp)) | (simp [*]; done)), (by first | rfl | (simp; done) | (simp [*]; done)), (by first | rfl | (simp; done) | (simp [*]; done)), H', ⟨Nat.le_refl _⟩, ⟨by repeat (first | (with_reducible first | exact HB.out | apply below_alloc | apply pw_below_drewN | apply below_drew1) | exact HB.out)⟩⟩
                      case round =>
                        clear H'
                        try clear c1
                        try clear p1
                        try clear q1
                        try clear hx1
                        try clear c2
                        try clear p2
                        try clear q2
                        try clear hx2
                        try clear c4
                        try clear c4b0
                        try clear c4b1
                        try clear c5
                        try clear p6
                        try clear c7
                        try clear c9
                        try clear c9b0
                        try clear c10
                        try clear c10b0
                        try clear p11
                        try clear q11
                        try clear hx11
                        try clear c13
                        try clear p14
                        try clear q14
                        try clear hx14
                        try clear c19
                        try clear c19b0
                        try clear c19b1
                        try clear c20
                        try clear c20b0
                        try clear c22
                        try clear c22b0
                        try clear p23
                        try clear q23
                        try clear hx23
                        try clear c26
                        try clear p1
                        try clear p11
                        try clear p14
                        try clear p2
                        try clear p23
                        try clear p6
                        try clear q1
                        try clear q11
                        try clear q14
                        try clear q2
                        try clear q23
                        obtain ⟨x4_5, x6_5, x7_5, x8_5, rfl, rfl, rfl, rfl, HA, HK5, HB⟩ := hrel
                        cases gk with
                        | zero => exact absurd HA.out (by simp [clerestoryref2_NumberAt.l1])
                        | succ k5 =>
                          have H := HA.out
                          clear HA
                          simp only [clerestoryref2_NumberAt.l1] at H
                          by_cases c27 : x4_5 < (a0.size : Int)
                          · rw [if_pos c27] at H
                            have c27b0 : decide (x4_5 < (a0.size : Int)) = true := decide_eq_true c27
                            clear c27
                            (first | rw [c27b0] | (simp only [i64_w, i32_w]; rw [c27b0]) | skip)
                            by_cases c28 : 0 ≤ x4_5
                            · rw [if_pos c28] at H
                              have c28b0 : decide (0 ≤ x4_5) = true := decide_eq_true c28
                              clear c28
                              replace H := Option.bind_eq_some_iff.mp H
                              obtain ⟨t178, A300, H⟩ := H
                              replace H : (if t178 = true then (clerestoryref2_NumberAt.l1 k5 a0 (wrap64 (x4_5 + 1)) (mn (wrap64 (x6_5 + (wrap64 (x8_5 * (((bt a0 x4_5) - 48) % 256))))) 1000000000) (wrap64 (x7_5 + 1)) (wrap64 (Int.tdiv x8_5 10))) else (clerestoryref2_NumberAt.j6 k5 a0 x4_5 x6_5 x7_5)) = some (r1, r2) := H
                              have A30 := Aside0.mk A300
                              clear A300
                              by_cases c31 : t178 = true
                              · subst c31
                                have H1 : (clerestoryref2_NumberAt.l1 k5 a0 (wrap64 (x4_5 + 1)) (mn (wrap64 (x6_5 + (wrap64 (x8_5 * (((bt a0 x4_5) - 48) % 256))))) 1000000000) (wrap64 (x7_5 + 1)) (wrap64 (Int.tdiv x8_5 10))) = some (r1, r2) := by rw [if_pos rfl] at H; exact H
                                clear H
                                have H := H1
                                clear H1
                                obtain ⟨ji33, hji33⟩ : ∃ j_ : Int, (mn (wrap64 (x6_5 + (wrap64 (x8_5 * (((bt a0 x4_5) - 48) % 256))))) 1000000000) = j_ := ⟨_, rfl⟩
                                replace H : (clerestoryref2_NumberAt.l1 k5 a0 (wrap64 (x4_5 + 1)) ji33 (wrap64 (x7_5 + 1)) (wrap64 (Int.tdiv x8_5 10))) = some (r1, r2) := by first | (rw [hji33] at H; exact H) | (simp only [hji33] at H ⊢; exact H)
                                (try rw [hji33] at A30)
                                have hji33_ : (if 1000000000 < (wrap64 (x6_5 + (wrap64 (x8_5 * (((bt a0 x4_5) - 48) % 256))))) then 1000000000 else (wrap64 (x6_5 + (wrap64 (x8_5 * (((bt a0 x4_5) - 48) % 256)))))) = ji33 := hji33
                                have H' := Aside0.mk H
                                clear H
                                have p29 : 0 ≤ (x4_5 : Int) := of_decide_eq_true (by first | (with_reducible assumption) | assumption)
                                have q29 : x4_5 < (a0.size : Int) := of_decide_eq_true (by first | (with_reducible assumption) | assumption)
                                have hx29 := bt_at a0 x4_5
                                replace p29 := eq_true p29
                                replace q29 := eq_true q29
                                go_wp2_with (first | (go_at_call 77; (with_reducible refine (clerestoryref2_digit.calls (bt a0 x4_5) true _ A30.out).mono ?_); rintro e w' ⟨rfl, ⟨nd, rfl⟩⟩; have p32 : 0 ≤ (x4_5 : Int) := of_decide_eq_true (by first | (with_reducible assumption) | assumption); have q32 : x4_5 < (a0.size : Int) := of_decide_eq_true (by first | (with_reducible assumption) | assumption); have hx32 := bt_at a0 x4_5; replace p32 := eq_true p32; replace q32 := eq_true q32))
                                go_roundg k5
                                case measure => have := HJ1.out; have := HJ5.out; have := HJ7.out; have := HJ16.out; have := HK5.out; omega
                                case rel => exact ⟨(wrap64 (x4_5 + 1)), (ji33), (wrap64 (x7_5 + 1)), (wrap64 (Int.tdiv x8_5 10)), (by first | rfl | (simp; done) | (simp [*]; done)), (by first | rfl | (simp; done) | (simp only [← hji33] <;> (first | rfl | simp)) | (simp [*]; done)), (by first | rfl | (simp; done) | (simp [*]; done)), (by first | rfl | (simp; done) | (simp [*]; done)), H', ⟨by have := HJ1.out; have := HJ5.out; have := HJ7.out; have := HJ16.out; have := HK5.out; omega⟩, ⟨by repeat (first | (with_reducible first | exact HB.out | apply below_alloc | apply pw_below_drewN | apply below_drew1) | exact HB.out)⟩⟩
                              · replace c31 := Bool.eq_false_iff.mpr c31
                                subst c31
                                have H1 : (clerestoryref2_NumberAt.j6 k5 a0 x4_5 x6_5 x7_5) = some (r1, r2) := by rw [if_neg (show ¬ (false = true) by decide)] at H; exact H
                                clear H
                                have H := H1
                                clear H1
                                have H' := Aside0.mk H
                                clear H
                                have p29 : 0 ≤ (x4_5 : Int) := of_decide_eq_true (by first | (with_reducible assumption) | assumption)
                                have q29 : x4_5 < (a0.size : Int) := of_decide_eq_true (by first | (with_reducible assumption) | assumption)
                                have hx29 := bt_at a0 x4_5
                                replace p29 := eq_true p29
                                replace q29 := eq_true q29
                                go_wp2_with (first | (go_at_call 77; (with_reducible refine (clerestoryref2_digit.calls (bt a0 x4_5) false _ A30.out).mono ?_); rintro e w' ⟨rfl, ⟨nd, rfl⟩⟩))
                                go_meet
                                case rel => exact ⟨_, (x4_5), (x6_5), (x7_5), (by first | rfl | (simp; done) | (simp [*]; done)), (by first | rfl | (simp; done) | (simp [*]; done)), (by first | rfl | (simp; done) | (simp [*]; done)), H', ⟨by have := HJ1.out; have := HJ5.out; have := HJ7.out; have := HJ16.out; have := HK5.out; first | omega | exact Nat.le_refl _⟩, ⟨by repeat (first | (with_reducible first | exact HB.out | apply below_alloc | apply pw_below_drewN | apply below_drew1) | exact HB.out)⟩⟩
                            · rw [if_neg c28] at H
                              exact absurd H (by simp)
                          · rw [if_neg c27] at H
                            have c27b0 : decide (x4_5 < (a0.size : Int)) = false := decide_eq_false c27
                            clear c27
                            (first | rw [c27b0] | (simp only [i64_w, i32_w]; rw [c27b0]) | skip)
                            have H' := Aside0.mk H
                            clear H
                            go_wp2
                            go_meet
                            case rel => exact ⟨_, (x4_5), (x6_5), (x7_5), (by first | rfl | (simp; done) | (simp [*]; done)), (by first | rfl | (simp; done) | (simp [*]; done)), (by first | rfl | (simp; done) | (simp [*]; done)), H', ⟨by have := HJ1.out; have := HJ5.out; have := HJ7.out; have := HJ16.out; have := HK5.out; first | omega | exact Nat.le_refl _⟩, ⟨by repeat (first | (with_reducible first | exact HB.out | apply below_alloc | apply pw_below_drewN | apply below_drew1) | exact HB.out)⟩⟩
                    · replace c26 := Bool.eq_false_iff.mpr c26
                      subst c26
                      have H1 : (clerestoryref2_NumberAt.j6 kj16 a0 x4_7 ji16 (wrap64 (x4_7 - x4_5))) = some (r1, r2) := by rw [if_neg (show ¬ (false = true) by decide)] at H; exact H
                      clear H
                      have H := H1
                      clear H1
                      have H' := Aside0.mk H
                      clear H
                      go_wp2
                      go_meet
                      case rel => exact ⟨_, (x4_7), (ji16), ((wrap64 (x4_7 - x4_5))), (by first | rfl | (simp; done) | (simp [*]; done)), (by first | rfl | (simp; done) | (simp only [← hji16] <;> (first | rfl | simp)) | (simp [*]; done)), (by first | rfl | (simp; done) | (simp [*]; done)), H', ⟨by have := HJ1.out; have := HJ5.out; have := HJ7.out; have := HJ16.out; first | omega | exact Nat.le_refl _⟩, ⟨by repeat (first | (with_reducible first | exact HB.out | apply below_alloc | apply pw_below_drewN | apply below_drew1) | exact HB.out)⟩⟩
                  case rest =>
                    clear HC25
                    try clear c1
                    try clear p1
                    try clear q1
                    try clear hx1
                    try clear c2
                    try clear p2
                    try clear q2
                    try clear hx2
                    try clear c3
                    try clear p3
                    try clear q3
                    try clear hx3
                    try clear c4
                    try clear c4b0
                    try clear c4b1
                    try clear c5
                    try clear p6
                    try clear c7
                    try clear c9
                    try clear c9b0
                    try clear c10
                    try clear c10b0
                    try clear p11
                    try clear q11
                    try clear hx11
                    try clear c13
                    try clear p14
                    try clear q14
                    try clear hx14
                    try clear c19
                    try clear c19b0
                    try clear c19b1
                    try clear c20
                    try clear c20b0
                    try clear c22
                    try clear c22b0
                    try clear p23
                    try clear q23
                    try clear hx23
                    try clear c26
                    try clear c27
                    try clear c27b0
                    try clear c28
                    try clear c28b0
                    try clear p29
                    try clear q29
                    try clear hx29
                    try clear c31
                    try clear p32
                    try clear q32
                    try clear hx32
                    try clear p1
                    try clear p11
                    try clear p14
                    try clear p2
                    try clear p23
                    try clear p29
                    try clear p32
                    try clear p6
                    try clear q1
                    try clear q11
                    try clear q14
                    try clear q2
                    try clear q23
                    try clear q29
                    try clear q32
                    obtain ⟨kq, x4_24, x6_24, x7_24, rfl, rfl, rfl, HA, HJ24, HB⟩ := hcut
                    cases kq with
                    | zero => exact absurd HA.out (by simp [clerestoryref2_NumberAt.j6])
                    | succ kj24 =>
                      have H := HA.out
                      clear HA
                      simp only [clerestoryref2_NumberAt.j6] at H
                      by_cases c34 : x7_24 = 0
                      · rw [if_pos c34] at H
                        have c34b0 : (x7_24 == 0) = true := beq_iff_eq.mpr c34
                        have c34b1 : (x7_24 != 0) = false := bne_eq_false_iff_eq.mpr c34
                        clear c34
                        simp only [Option.some.injEq, Prod.mk.injEq] at H
                        obtain ⟨rfl, rfl⟩ := H
                        go_wp2
                        go_ret2
                        exact ⟨by first | rfl | (simp [errW_none, errW_some] <;> rfl) | (simp only [← hji16]; first | rfl | (simp [errW_none, errW_some] <;> rfl)) | (simp [*, errW_none, errW_some] <;> rfl), by repeat (first | (with_reducible first | exact HB.out | apply below_alloc | apply pw_below_drewN | apply below_drew1) | exact HB.out)⟩
                      · rw [if_neg c34] at H
                        have c34b0 : (x7_24 == 0) = false := beq_eq_false_iff_ne.mpr c34
                        have c34b1 : (x7_24 != 0) = true := bne_iff_ne.mpr c34
                        by_cases c35 : 0 < (a0.size : Int)
                        · rw [if_pos c35] at H
                          have c35b0 : decide (0 < (a0.size : Int)) = true := decide_eq_true c35
                          have c35b1 : decide (0 < a0.size) = true := decide_eq_true (by omega)
                          clear c35
                          by_cases c37 : (bt a0 0) = 45
                          · rw [if_pos c37] at H
                            have c37b0 : ((bt a0 0) == 45) = true := beq_iff_eq.mpr c37
                            have c37b1 : ((bt a0 0) != 45) = false := bne_eq_false_iff_eq.mpr c37
                            clear c37
                            simp only [Option.some.injEq, Prod.mk.injEq] at H
                            obtain ⟨rfl, rfl⟩ := H
                            have p36 : 0 ≤ (0 : Int) := (by omega)
                            have q36 : 0 < a0.size := (by have : (0 : Int) < (a0.size : Int) := of_decide_eq_true (by first | (with_reducible assumption) | assumption); omega)
                            have hx36 : ∀ h : 0 < a0.size, ((a0[0]'h).toNat : Int) = bt a0 0 := bt_at a0 0
                            clear p36
                            have qi36 : (0 < (a0.size : Int)) = True := eq_true (of_decide_eq_true (by first | (with_reducible assumption) | assumption))
                            replace q36 := eq_true q36
                            go_wp2
                            go_ret2
                            exact ⟨by first | rfl | (simp [errW_none, errW_some] <;> rfl) | (simp only [← hji16]; first | rfl | (simp [errW_none, errW_some] <;> rfl)) | (simp [*, errW_none, errW_some] <;> rfl), by repeat (first | (with_reducible first | exact HB.out | apply below_alloc | apply pw_below_drewN | apply below_drew1) | exact HB.out)⟩
                          · rw [if_neg c37] at H
                            have c37b0 : ((bt a0 0) == 45) = false := beq_eq_false_iff_ne.mpr c37
                            have c37b1 : ((bt a0 0) != 45) = true := bne_iff_ne.mpr c37
                            simp only [Option.some.injEq, Prod.mk.injEq] at H
                            obtain ⟨rfl, rfl⟩ := H
                            have p36 : 0 ≤ (0 : Int) := (by omega)
                            have q36 : 0 < a0.size := (by have : (0 : Int) < (a0.size : Int) := of_decide_eq_true (by first | (with_reducible assumption) | assumption); omega)
                            have hx36 : ∀ h : 0 < a0.size, ((a0[0]'h).toNat : Int) = bt a0 0 := bt_at a0 0
                            clear p36
                            have qi36 : (0 < (a0.size : Int)) = True := eq_true (of_decide_eq_true (by first | (with_reducible assumption) | assumption))
                            replace q36 := eq_true q36
                            go_wp2
                            go_ret2
                            exact ⟨by first | rfl | (simp [errW_none, errW_some] <;> rfl) | (simp only [← hji16]; first | rfl | (simp [errW_none, errW_some] <;> rfl)) | (simp [*, errW_none, errW_some] <;> rfl), by repeat (first | (with_reducible first | exact HB.out | apply below_alloc | apply pw_below_drewN | apply below_drew1) | exact HB.out)⟩
                        · rw [if_neg c35] at H
                          exact absurd H (by simp)

-- NOT PRINTED: function 28 (clerestoryref2_Lower)

end Go.Proofs.YtdjifjnophcnlaaDoor.PVarFills
