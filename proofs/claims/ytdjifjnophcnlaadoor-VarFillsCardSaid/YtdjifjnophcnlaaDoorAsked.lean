/-
  vars.asked answers Block.askOf: the name of a block, what is behind its comma, and whether they are there; the slice handed back reads as the list. Conditions: the slice reads as the tokens, at most 400.
-/
import Derived.Test.YtdjifjnophcnlaaDoorBlock
import Derived.Lib.Strings
import Derived.Lib.Hide
import Derived.WalkKit
import Derived.KernelRfl
import Derived.BigQuiet
set_option linter.unusedVariables false
set_option linter.unusedSimpArgs false
namespace Go.Proofs.YtdjifjnophcnlaaDoor
open Go.RowKit Go.Proofs.YtdjifjnophcnlaaDoorW.PrintWords Go.Proofs.YtdjifjnophcnlaaDoorW.PrintLast Go.Proofs.YtdjifjnophcnlaaDoorW.PrintMore
open PVarFills (S37 k37)
namespace Asked

/-- What asked hands back. -/
def Post (p : ByteArray × List S37 × Bool × Bool) (w : World) (e : Ending) (w' : World) : Prop :=
  ∃ v, e = .returned (.tuple #[.string p.1, v, .bool p.2.2.1, .bool p.2.2.2]) ∧ Kd.V k37 37 w' w.heap.size (fun _ => True) v p.2.1 ∧ Below w.heap.size w w'

/-- A slice that reads as ys; all below as it was. -/
def St (w wr : World) (A : Option Addr) (c : Nat) (ys : List S37) : Prop := Kd.V k37 37 wr w.heap.size (fun _ => True) (.slice A ys.length c) ys ∧ Below w.heap.size w wr

theorem St.below {w wr w1 : World} {A : Option Addr} {c : Nat} {ys : List S37} (h : St w wr A c ys) (hb : Below wr.heap.size wr w1) : St w w1 A c ys :=
  ⟨Kd.V_below h.1 hb, h.2.trans (hb.mono h.2.size)⟩

theorem St.tail {w wr : World} {A : Option Addr} {c : Nat} {ys : List S37} (h : St w wr A c ys) (h0 : 0 < ys.length) :
    ∃ A1 c1, St w wr A1 c1 (ys.drop 1) ∧ ∀ W : World, (Instr.slice 29 (.slice A ys.length c) (some (.int .i64 1)) none none).run Tryd.prog W = .ok (.slice A1 (ys.drop 1).length c1) W := by
  obtain ⟨_, hc, hF⟩ := Kd.V_at (e := 37) (base := 0) h.1
  obtain ⟨ii, hi0, _, hsz37, _⟩ := info_parts PVarFills.info37
  have hcut := cut_from (P := Tryd.prog) 29 37 .i64 Tryd.underlying29 hi0 4 hsz37 A ys.length c 1 (by omega) (by omega)
  have hf := Kd.F_cut (m := 1) (c := c) hF (by omega) hc
  rw [show k37.sz = 4 from rfl] at hf
  rw [show ((1 : Int)).toNat = 1 from rfl, show ys.length - 1 = (ys.drop 1).length by rw [List.length_drop]] at hcut
  exact ⟨_, _, ⟨Kd.V_mk (by rw [List.length_drop]; omega) hf, h.2⟩, hcut⟩

theorem St.head {w wr : World} {A : Option Addr} {c : Nat} {ys : List S37} (h : St w wr A c ys) (h0 : 0 < ys.length) :
    ∃ ad y, A = some ad ∧ ys = y :: ys.drop 1 ∧ wr.cell? ad = some (.int .i64 y.f0) ∧ wr.cell? ⟨ad.block, ad.off + 1, none⟩ = some (.string y.f1) ∧ wr.cell? ⟨ad.block, ad.off + 2, none⟩ = some (.string y.f2) ∧ wr.cell? ⟨ad.block, ad.off + 3, none⟩ = some (.int .i64 y.f3) := by
  obtain ⟨ad, rfl, e0, e1, e2, e3⟩ := PVarFills.at_T37 (Kd.V_reads' h.1).2.2 0 (by omega) (by omega)
  rw [show ((0 : Int)).toNat = 0 from rfl, show 0 * 4 = 0 from rfl, Addr.add_zero'] at e0 e1 e2 e3
  have := Block.drop_cons ys 0 h0
  rw [List.drop_zero] at this
  exact ⟨ad, _, rfl, this, e0, e1, e2, e3⟩

theorem results_tmp4 {fn : Func} {t u v x : Tmp} (h : fn.results = #[.tmp t, .tmp u, .tmp v, .tmp x]) (tmps : Array Value) (P : Program) (w : World) :
    (results fn tmps).run P w = .ok (.tuple #[tmps.getD t undef, tmps.getD u undef, tmps.getD v undef, tmps.getD x undef]) w := by
  simp [results, h]

theorem cell_stays {w w' : World} {a : Addr} {v : Value} (h : w.cell? a = some v) (hb : Below w.heap.size w w') : w'.cell? a = some v := (hb.cell (World.block_lt_of_cell? w _ h)).trans h

theorem loud_cons (y : S37) (r : List S37) : Block.loud (y :: r) = if Sp.silent (view y) then Block.loud r else y :: r := by
  simp only [Block.loud, List.dropWhile_cons]

theorem ask_nil {xs : List S37} (h : Block.loud xs = []) : Block.askOf xs = (⟨#[]⟩, [], false, false) := by rw [Block.askOf, h]
theorem ask_other {xs r : List S37} {y : S37} (h : Block.loud xs = y :: r) (hk : y.f0 ≠ 1) : Block.askOf xs = (⟨#[]⟩, [], false, false) := by rw [Block.askOf, h]; exact if_neg hk
theorem ask_name {xs r : List S37} {y : S37} (h : Block.loud xs = y :: r) (hk : y.f0 = 1) : Block.askOf xs = Block.tailOf y.f2 r := by rw [Block.askOf, h]; exact if_pos hk
theorem tail_nil {n : ByteArray} {xs : List S37} (h : Block.loud xs = []) : Block.tailOf n xs = (n, [], false, true) := by rw [Block.tailOf, h]
theorem tail_yes {n : ByteArray} {xs r : List S37} {y : S37} (h : Block.loud xs = y :: r) (hk : y.f0 = 12) (h4 : y.f1.data.toList = [44]) : Block.tailOf n xs = (n, r, true, true) := by rw [Block.tailOf, h]; exact if_pos ⟨hk, h4⟩
theorem tail_no {n : ByteArray} {xs r : List S37} {y : S37} (h : Block.loud xs = y :: r) (hk : ¬ (y.f0 = 12 ∧ y.f1.data.toList = [44])) : Block.tailOf n xs = (⟨#[]⟩, [], false, false) := by rw [Block.tailOf, h]; exact if_neg hk

set_option maxHeartbeats 4000000 in
set_option maxRecDepth 100000 in
theorem asked_any (A : Option Addr) (c : Nat) (xs : List S37) (w : World) (hV : Kd.V k37 37 w w.heap.size (fun _ => True) (.slice A xs.length c) xs) (hn : xs.length ≤ 400) :
    Calls Tryd.prog 24 #[.slice A xs.length c] w (Post (Block.askOf xs) w) := by
  obtain ⟨p, hp⟩ : ∃ p, Block.askOf xs = p := ⟨_, rfl⟩
  rw [hp]
  have HP := Lib.hid hp
  have HS := Lib.hid (show St w w A c xs from ⟨hV, Below.refl _ _⟩)
  clear hp hV
  go_enter Tryd.func24, Tryd.ntmps24
  go_wp2
  go_loopw [0] (fun v wr => ∃ (A1 : Option Addr) (c1 : Nat) (ys : List S37), v = .slice A1 ys.length c1 ∧ ys.length ≤ 400 ∧ Hid (St w wr A1 c1 ys ∧ Block.loud ys = Block.loud xs)) (fun v _ => match v with | .slice _ n _ => n | _ => 0)
  case atStart => exact ⟨A, c, xs, rfl, hn, Lib.hid ⟨HS.out, rfl⟩⟩
  case round =>
    clear HS
    obtain ⟨A1, c1, ys, rfl, hy, HI⟩ := hrel
    have HS := Lib.hid HI.out.1
    have HL := Lib.hid HI.out.2
    clear HI
    rcases Nat.eq_zero_or_pos ys.length with h0 | h0
    · have hq1 : decide ((ys.length : Int) > 0) = false := decide_eq_false (by omega)
      have hq2 : ((ys.length : Int) == 0) = true := beq_iff_eq.2 (by omega)
      have HA := Lib.hid (show p = (⟨#[]⟩, [], false, false) from by rw [← HP.out]; exact ask_nil (by rw [← HL.out, List.eq_nil_of_length_eq_zero h0]; rfl))
      have hpos : (0 < ys.length) = False := eq_false (by omega)
      clear h0
      go_wp2
      (try simp only [Exit.inBlock, Exit.then]); refine bodyPost_ret (results_tmp4 rfl _ _ _) rfl ?_
      rw [HA.out]
      exact ⟨_, rfl, Kd.V_nil _ _ _ _ _, HS.out.2⟩
    · have hq1 : decide ((ys.length : Int) > 0) = true := decide_eq_true (by omega)
      have hq2 : ((ys.length : Int) == 0) = false := beq_eq_false_iff_ne.2 (by omega)
      obtain ⟨A2, c2, hS2, hcut⟩ := HS.out.tail h0
      obtain ⟨ad, y, rfl, hye, hc0, hc1, hc2, hc3⟩ := HS.out.head h0
      obtain ⟨r, hr⟩ : ∃ r, ys.drop 1 = r := ⟨_, rfl⟩
      have hlen : ys.length = r.length + 1 := by rw [← hr, List.length_drop]; omega
      rw [hr] at hS2 hcut hye
      have HS2 := Lib.hid hS2
      have HE := Lib.hid hye
      have HN := Lib.hid hlen
      have HC := Lib.hid (Block.silent_eq y)
      have hpos : (0 < ys.length) = True := eq_true h0
      clear hS2 hr hye hlen
      obtain ⟨y0, y1, y2, y3⟩ := y
      dsimp only at hc0 hc1 hc2 hc3 HC
      rcases hs : Sp.silent (view ⟨y0, y1, y2, y3⟩) with _ | _
      · have HQ := Lib.hid hs
        rw [hs] at HC
        clear hs
        have HLx := Lib.hid (show Block.loud xs = ⟨y0, y1, y2, y3⟩ :: r from by rw [← HL.out, HE.out, loud_cons, HQ.out]; rfl)
        by_cases hk : y0 = 1
        · have hk1 : (y0 != 1) = false := bne_eq_false_iff_eq.2 hk
          have HP2 := Lib.hid (show Block.tailOf y2 r = p from by rw [← HP.out]; exact (ask_name HLx.out hk).symm)
          clear hk
          go_upto_region 3 with (first
            | (go_at_call 46; refine (PVarFills.vars_silent.calls y0 y1 y2 y3 false _ HC.out).mono ?_; rintro e w2 ⟨rfl, hb⟩; have HS3 := Lib.hid (HS2.out.below hb); have hd0 := cell_stays hc0 hb; have hd2 := cell_stays hc2 hb; clear hb))
          clear hc0 hc1 hc2 hc3
          have hrn : r.length ≤ 400 := by have := HN.out; omega
          clear HS HL HE HN HC HQ HLx HP HS2
          go_wp2
          go_loopw [0] (fun v wr => ∃ (A1 : Option Addr) (c1 : Nat) (zs : List S37), v = .slice A1 zs.length c1 ∧ zs.length ≤ 400 ∧ Hid (St w wr A1 c1 zs ∧ Block.loud zs = Block.loud r)) (fun v _ => match v with | .slice _ n _ => n | _ => 0)
          case atStart => exact ⟨A2, c2, r, rfl, hrn, Lib.hid ⟨HS3.out, rfl⟩⟩
          case round =>
            clear HS3 hd0 hd2 hq1 hq2 hcut hpos h0
            obtain ⟨A3, c3, zs, rfl, hz, HI⟩ := hrel
            have HS := Lib.hid HI.out.1
            have HL := Lib.hid HI.out.2
            clear HI
            rcases Nat.eq_zero_or_pos zs.length with h0 | h0
            · have hq1 : decide ((zs.length : Int) > 0) = false := decide_eq_false (by omega)
              have hq2 : ((zs.length : Int) == 0) = true := beq_iff_eq.2 (by omega)
              have HA := Lib.hid (show p = (y2, [], false, true) from by rw [← HP2.out]; exact tail_nil (by rw [← HL.out, List.eq_nil_of_length_eq_zero h0]; rfl))
              have hpos : (0 < zs.length) = False := eq_false (by omega)
              clear h0
              go_wp2
              (try simp only [Exit.inBlock, Exit.then]); refine bodyPost_ret (results_tmp4 rfl _ _ _) rfl ?_
              rw [HA.out]
              exact ⟨_, rfl, Kd.V_nil _ _ _ _ _, HS.out.2⟩
            · have hq1 : decide ((zs.length : Int) > 0) = true := decide_eq_true (by omega)
              have hq2 : ((zs.length : Int) == 0) = false := beq_eq_false_iff_ne.2 (by omega)
              obtain ⟨A4, c4, hS4, hcut⟩ := HS.out.tail h0
              obtain ⟨ad3, u, rfl, hue, hc0, hc1, hc2, hc3⟩ := HS.out.head h0
              obtain ⟨r2, hr2⟩ : ∃ r2, zs.drop 1 = r2 := ⟨_, rfl⟩
              have hlen : zs.length = r2.length + 1 := by rw [← hr2, List.length_drop]; omega
              rw [hr2] at hS4 hcut hue
              have HS4 := Lib.hid hS4
              have HE := Lib.hid hue
              have HN := Lib.hid hlen
              have HC := Lib.hid (Block.silent_eq u)
              have hpos : (0 < zs.length) = True := eq_true h0
              clear hS4 hr2 hue hlen
              obtain ⟨u0, u1, u2, u3⟩ := u
              dsimp only at hc0 hc1 hc2 hc3 HC
              rcases hs : Sp.silent (view ⟨u0, u1, u2, u3⟩) with _ | _
              · have HQ := Lib.hid hs
                rw [hs] at HC
                clear hs
                have HLr := Lib.hid (show Block.loud r = ⟨u0, u1, u2, u3⟩ :: r2 from by rw [← HL.out, HE.out, loud_cons, HQ.out]; rfl)
                go_upto_region 9 with (first
                  | (go_at_call 46; refine (PVarFills.vars_silent.calls u0 u1 u2 u3 false _ HC.out).mono ?_; rintro e w3 ⟨rfl, hb⟩; have HS5 := Lib.hid (HS4.out.below hb); have hd0 := cell_stays hc0 hb; have hd1 := cell_stays hc1 hb; clear hb))
                clear hc0 hc1 hc2 hc3
                by_cases h12 : u0 = 12
                · have hk12 : (u0 != 12) = false := bne_eq_false_iff_eq.2 h12
                  have HK := Lib.hid h12
                  clear h12
                  by_cases h44 : u1.data.toList = [44]
                  · have hk44 : (u1.toList != ([44] : List UInt8)) = false := by rw [ByteArray.toList_eq]; exact bne_eq_false_iff_eq.2 h44
                    have hk45 : (u1.toList == ([44] : List UInt8)) = true := by rw [ByteArray.toList_eq]; exact beq_iff_eq.2 h44
                    have HA := Lib.hid (show p = (y2, r2, true, true) from by rw [← HP2.out]; exact tail_yes HLr.out HK.out h44)
                    clear h44
                    go_wp2
                    go_quiet (fail)
                    try go_wp2
                    (try simp only [Exit.inBlock, Exit.then]); refine bodyPost_ret (results_tmp4 rfl _ _ _) rfl ?_
                    rw [HA.out]
                    exact ⟨_, rfl, (HS5.out.below (pw_below_drewN (Below.refl _ _) _)).1, (HS5.out.below (pw_below_drewN (Below.refl _ _) _)).2⟩
                  · have hk44 : (u1.toList != ([44] : List UInt8)) = true := by rw [ByteArray.toList_eq]; exact bne_iff_ne.2 h44
                    have hk45 : (u1.toList == ([44] : List UInt8)) = false := by rw [ByteArray.toList_eq]; exact beq_eq_false_iff_ne.2 h44
                    have HA := Lib.hid (show p = (⟨#[]⟩, [], false, false) from by rw [← HP2.out]; exact tail_no HLr.out (fun h => h44 h.2))
                    clear h44
                    go_wp2
                    (try simp only [Exit.inBlock, Exit.then]); refine bodyPost_ret (results_tmp4 rfl _ _ _) rfl ?_
                    rw [HA.out]
                    exact ⟨_, rfl, Kd.V_nil _ _ _ _ _, HS5.out.2⟩
                · have hk12 : (u0 != 12) = true := bne_iff_ne.2 h12
                  have HA := Lib.hid (show p = (⟨#[]⟩, [], false, false) from by rw [← HP2.out]; exact tail_no HLr.out (fun h => h12 h.1))
                  clear h12
                  go_wp2
                  (try simp only [Exit.inBlock, Exit.then]); refine bodyPost_ret (results_tmp4 rfl _ _ _) rfl ?_
                  rw [HA.out]
                  exact ⟨_, rfl, Kd.V_nil _ _ _ _ _, HS5.out.2⟩
              · have HQ := Lib.hid hs
                rw [hs] at HC
                clear hs
                go_wp2_with (first
                  | (go_at_call 46; refine (PVarFills.vars_silent.calls u0 u1 u2 u3 true _ HC.out).mono ?_; rintro e w3 ⟨rfl, hb⟩; have HB2 := Lib.hid hb; clear hb))
                go_roundw
                case rel => exact ⟨A4, c4, r2, rfl, by have := HN.out; omega, Lib.hid ⟨HS4.out.below HB2.out, by rw [← HL.out, HE.out, loud_cons, HQ.out]; rfl⟩⟩
                case measure => have := HN.out; simp; omega
        · have hk1 : (y0 != 1) = true := bne_iff_ne.2 hk
          have HA := Lib.hid (show p = (⟨#[]⟩, [], false, false) from by rw [← HP.out]; exact ask_other HLx.out hk)
          clear hk
          go_wp2_with (first
            | (go_at_call 46; refine (PVarFills.vars_silent.calls y0 y1 y2 y3 false _ HC.out).mono ?_; rintro e w2 ⟨rfl, hb⟩; have HS3 := Lib.hid (HS2.out.below hb); have hd0 := cell_stays hc0 hb; clear hb))
          (try simp only [Exit.inBlock, Exit.then]); refine bodyPost_ret (results_tmp4 rfl _ _ _) rfl ?_
          rw [HA.out]
          exact ⟨_, rfl, Kd.V_nil _ _ _ _ _, HS3.out.2⟩
      · have HQ := Lib.hid hs
        rw [hs] at HC
        clear hs
        go_wp2_with (first
          | (go_at_call 46; refine (PVarFills.vars_silent.calls y0 y1 y2 y3 true _ HC.out).mono ?_; rintro e w2 ⟨rfl, hb⟩; have HB2 := Lib.hid hb; clear hb))
        go_roundw
        case rel => exact ⟨A2, c2, r, rfl, by have := HN.out; omega, Lib.hid ⟨HS2.out.below HB2.out, by rw [← HL.out, HE.out, loud_cons, HQ.out]; rfl⟩⟩
        case measure => have := HN.out; simp; omega

end Asked
end Go.Proofs.YtdjifjnophcnlaaDoor
