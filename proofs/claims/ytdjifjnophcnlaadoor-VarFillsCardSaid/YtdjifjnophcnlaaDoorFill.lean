/-
  vars.Fill answers Sp.fillS. Conditions: the pairs read, their values have at most 2^47 - 4096 bytes; the library's tables are as laid.
-/
import Derived.Test.YtdjifjnophcnlaaDoorCut
import Derived.Test.YtdjifjnophcnlaaDoorVars
import Derived.Test.YtdjifjnophcnlaaDoorPut
import Derived.Test.YtdjifjnophcnlaaDoorToks
set_option linter.unusedVariables false
set_option linter.unusedSimpArgs false
namespace Go.Proofs.YtdjifjnophcnlaaDoor
open Go.RowKit Go.Proofs.YtdjifjnophcnlaaDoorW.PrintWords Go.Proofs.YtdjifjnophcnlaaDoorW.PrintLast Go.Proofs.YtdjifjnophcnlaaDoorW.PrintMore
open PVarFills (S37 S28 k37 k28)

/-- What the library's variables hold. -/
def Laid (w : World) : Prop := Glob w ∧ FoldTab w
theorem Laid.below {w w' : World} (h : Laid w) (hb : Below w.heap.size w w') : Laid w' := ⟨h.1.below hb, h.2.below hb⟩

namespace Fill

/-- What is known of the tokens in memory. -/
def Fine (xs : List S37) : Prop := xs.length ≤ 400 ∧ ∀ x ∈ xs, (x.f1.size ≠ 0 ∧ x.f1.size ≤ 400) ∧ x.f2.size ≤ 400 ∧ (x.f1.data.toList = [44] → x.f0 = 12)

theorem fine_of (l : Sp.By) (hl : l.length ≤ 400) (xs : List S37) (h : views xs = Sp.toks l) : Fine xs := by
  obtain ⟨h1, h2, h3⟩ := Toks.toks_good l
  rw [← h] at h1 h3
  refine ⟨?_, fun x hx => ?_⟩
  · have : (views xs).length = xs.length := by simp [views]
    omega
  · obtain ⟨a, b, c, d⟩ := h1 (view x) (List.mem_map_of_mem hx)
    have e1 : x.f1.size = (view x).raw.length := Lib.size_eq _
    have e2 : x.f2.size = (view x).val.length := Lib.size_eq _
    exact ⟨⟨by omega, by omega⟩, by omega, d⟩

theorem Fine.sub {xs ys : List S37} (h : Fine xs) (hl : ys.length ≤ xs.length) (hs : ∀ y ∈ ys, y ∈ xs) : Fine ys := ⟨Nat.le_trans hl h.1, fun y hy => h.2 y (hs y hy)⟩

theorem views_length (xs : List S37) : (views xs).length = xs.length := by simp [views]
theorem views_drop (xs : List S37) (m : Nat) : views (xs.drop m) = (views xs).drop m := by simp [views, List.map_drop]
theorem views_take (xs : List S37) (m : Nat) : views (xs.take m) = (views xs).take m := by simp [views, List.map_take]

theorem fine_raw {xs : List S37} (h : Fine xs) : ∀ t ∈ views xs, 1 ≤ t.raw.length := fun t ht => by
  obtain ⟨x, hx, rfl⟩ := List.mem_map.1 ht
  have e1 : x.f1.size = (view x).raw.length := Lib.size_eq _
  have := (h.2 x hx).1.1
  omega

set_option maxHeartbeats 8000000 in
set_option maxRecDepth 100000 in
theorem fill_any (Av : Option Addr) (cv : Nat) (env : List S28) (hbig : ∀ x ∈ env, x.f1.size ≤ 140737488351232) : ∀ (d : Nat) (s : ByteArray) (w : World), s.size < d → Laid w → Kd.C k28 w Av env.length env →
    Calls Tryd.prog 5 #[.string s, .slice Av env.length cv] w (FillPost (Sp.fillS (Back.envOf env) d s.data.toList) w)
  | 0, s, w, h, _, _ => absurd h (Nat.not_lt_zero _)
  | d + 1, s, w, hd, hL, hE => by
    have ih := fill_any Av cv env hbig d
    by_cases hsz : 400 < s.size
    · have hfs : Sp.fillS (Back.envOf env) (d + 1) s.data.toList = none := by
        rw [Sp.fillS, if_pos (by rw [← Lib.size_eq]; exact hsz)]
      rw [hfs]
      clear hfs hE hL ih
      have hgt : decide ((s.size : Int) > 400) = true := by simp; omega
      go_enter Tryd.func5, Tryd.ntmps5
      go_wp2
      go_ret2
      exact ⟨_, false, rfl, rfl, fun _ => rfl, Below.refl _ _⟩
    · have hfs : Sp.fillS (Back.envOf env) (d + 1) s.data.toList = Sp.goS (Sp.fillS (Back.envOf env) d) (Back.envOf env) ((Sp.toks s.data.toList).length + 1) (Sp.toks s.data.toList) [] := by
        rw [Sp.fillS, if_neg (by rw [← Lib.size_eq]; exact hsz)]
      obtain ⟨tgt, htgt⟩ : ∃ tgt, Sp.fillS (Back.envOf env) (d + 1) s.data.toList = tgt := ⟨_, rfl⟩
      rw [htgt] at hfs ⊢
      have HS := Lib.hid hfs.symm
      have HL := Lib.hid hL
      have HE := Lib.hid hE
      have IH := Lib.hid ih
      have hgt : decide ((s.size : Int) > 400) = false := by simp; omega
      have hsz4 : s.size ≤ 400 := by omega
      clear hfs htgt hL hE ih
      go_enter Tryd.func5, Tryd.ntmps5
      go_wp2_with (first
        | (go_at_call 7; refine (Cut.cut_any s w hsz4 HL.out.1).mono ?_; rintro e w1 ⟨v, xs, rfl, ht, hv, hb⟩; have HV := Lib.hid (show Kd.V k37 37 w1 w1.heap.size (fun _ => True) v xs from Kd.R_V ht); have HW := Lib.hid hv; have HB1 := Lib.hid hb; clear ht hv hb; obtain ⟨A, c, rfl⟩ := Kd.V_slice HV.out))
      have HF := Lib.hid (fine_of s.data.toList (by rw [← Lib.size_eq]; exact hsz4) xs HW.out)
      have HSum := Lib.hid (show Toks.sum (views xs) ≤ s.size by rw [HW.out, Lib.size_eq]; exact (Toks.toks_good _).2.1)
      have HI := Lib.hid (show Toks.Inv (Sp.fillS (Back.envOf env) d) (Back.envOf env) (views xs) tgt 0 [] from Toks.Inv.start (by rw [HW.out]; exact HS.out))
      have hn := HF.out.1
      have HBd := Lib.hid (Bld.Bd.fresh w1)
      have HWr := Lib.hid ((Below.refl w1.heap.size w1).alloc (Nat.le_refl _) (.cells #[.pointer none, .slice none 0 0] 34))
      clear HS HW
      go_loopw [8] (fun v8 wr => ∃ (i : Nat) (acc : Sp.By), v8 = .int .i64 i ∧ i ≤ xs.length ∧ Hid (Toks.Inv (Sp.fillS (Back.envOf env) d) (Back.envOf env) (views xs) tgt i acc ∧ Bld.Bd w1.heap.size w1.heap.size acc wr ∧ Below w1.heap.size w1 wr)) (fun i _ => xs.length - (intOf i).toNat)
      case atStart => exact ⟨0, [], rfl, Nat.zero_le _, Lib.hid ⟨HI.out, HBd.out, HWr.out⟩⟩
      case round =>
        clear HI HBd HWr
        obtain ⟨i, acc, rfl, hi, HI⟩ := hrel
        have HBd := Lib.hid HI.out.2.1
        have HBw := Lib.hid HI.out.2.2
        have HIv := Lib.hid HI.out.1
        have hacc : acc.length ≤ 800 := by
          have h1 := HI.out.1.2
          have h2 := HSum.out
          omega
        have hBs := HI.out.2.2.size
        clear HI
        by_cases hlt : i < xs.length
        · have HVr := Lib.hid (Kd.V_below HV.out HBw.out)
          have hroom := (Kd.V_reads' HVr.out).2.1
          obtain ⟨ad, rfl, hx0, hx1, hx2, hx3⟩ := PVarFills.at_T37 (Kd.V_reads' HVr.out).2.2 (i : Int) (by omega) (by omega)
          have hdr := Block.drop_cons xs i hlt
          have hfx := HF.out.2 _ (Block.rd_mem xs i hlt)
          obtain ⟨x, hxe⟩ : ∃ x, PVarFills.rd_T37 xs (i : Int) = x := ⟨_, rfl⟩
          rw [hxe] at hx0 hx1 hx2 hx3 hdr hfx
          obtain ⟨r0, hr0⟩ : ∃ r0, xs.drop (i + 1) = r0 := ⟨_, rfl⟩
          rw [hr0] at hdr
          have HD := Lib.hid (show (views xs).drop i = view x :: views r0 by rw [← views_drop, hdr]; rfl)
          have HR := Lib.hid (show (views xs).drop (i + 1) = views r0 by rw [← views_drop, hr0])
          have HX := Lib.hid hfx
          have HY := Lib.hid (And.intro hdr hr0)
          have hLa := HL.out.below (HB1.out.trans (HBw.out.mono HB1.out.size))
          have CV := Lib.hid (Vars.isVar_any x wr hfx.2.1 hLa.2)
          have hz1 := hfx.1.2
          clear hxe hr0 hdr hfx hLa
          obtain ⟨x0, x1, x2, x3⟩ := x
          dsimp only at hx0 hx1 hx2 hx3 hz1
          simp only [Int.toNat_natCast] at hx0 hx1 hx2 hx3
          obtain ⟨bv, hbv⟩ : ∃ bv, Sp.isVar (view ⟨x0, x1, x2, x3⟩) = bv := ⟨_, rfl⟩
          rw [hbv] at CV
          have HQ := Lib.hid hbv
          clear hbv
          cases bv
          · go_wp2_with (first
              | (go_at_call 8; refine CV.out.mono ?_; rintro e w2 ⟨rfl, hb⟩; have HBd2 := Lib.hid (HBd.out.below hb); have HB2 := Lib.hid (HBw.out.trans (hb.mono hBs)); have hx1' := cell_below hx1 hb; clear hb)
              | (go_at_call 9; refine (Bld.wstr _ _ _ _ _ HBd2.out (by omega)).mono ?_; rintro e w3 ⟨rfl, hbd, hb, _⟩; have HBd3 := Lib.hid hbd; have HB3 := Lib.hid (HB2.out.trans hb); clear hbd hb))
            go_roundw
            case rel => exact ⟨i + 1, acc ++ x1.data.toList, rfl, by omega, Lib.hid ⟨HIv.out.plain HD.out HR.out HQ.out (show x1.data.toList.length ≤ 400 by rw [← Lib.size_eq]; exact hz1), HBd3.out, HB3.out⟩⟩
            case measure => simp [intOf]; omega
          · obtain ⟨ii, hi0, _, hsz37, _⟩ := info_parts PVarFills.info37
            have hFr : Kd.F k37 wr (fun _ => True) (some ad) xs.length xs := (Kd.V_at (e := 37) (base := 0) HVr.out).2.2
            have h2 : x0 = 2 := by
              have := HQ.out
              simp only [Sp.isVar, view, Bool.and_eq_true, beq_iff_eq] at this
              exact this.1
            have hlen0 : r0.length + (i + 1) = xs.length := by rw [← HY.out.2, List.length_drop]; omega
            have hFy : Fine (⟨x0, x1, x2, x3⟩ :: r0) := HF.out.sub (by simp; omega) (fun y hy => by rw [← HY.out.1] at hy; exact List.mem_of_mem_drop hy)
            have hcl := Block.closed_eq ⟨x0, x1, x2, x3⟩ r0 hFy.1 (fun y hy => (hFy.2 y hy).1) h2
            obtain ⟨K, hK⟩ : ∃ K, 2 * ((⟨x0, x1, x2, x3⟩ : S37) :: r0).length + 1 = K := ⟨_, rfl⟩
            rw [hK] at hcl
            -- the tokens from here on
            have hcut1 := cut_from (P := Tryd.prog) 29 37 .i64 Tryd.underlying29 hi0 4 hsz37 (some ad) xs.length c (i : Int) (by omega) (by omega)
            have hf1 := Kd.F_cut (m := (i : Int).toNat) (c := c) hFr (by omega) hroom
            rw [show k37.sz = 4 from rfl] at hf1
            obtain ⟨A1, hA1⟩ : ∃ A1, (if c = (i : Int).toNat then some ad else (some ad : Option Addr).map (·.add ((i : Int).toNat * 4))) = A1 := ⟨_, rfl⟩
            obtain ⟨c1, hc1⟩ : ∃ c1, c - (i : Int).toNat = c1 := ⟨_, rfl⟩
            obtain ⟨ys, hys⟩ : ∃ ys, (⟨x0, x1, x2, x3⟩ : S37) :: r0 = ys := ⟨_, rfl⟩
            have hy : xs.drop (i : Int).toNat = ys := by rw [Int.toNat_natCast, HY.out.1, hys]
            have hyl : xs.length - (i : Int).toNat = ys.length := by rw [← hy, List.length_drop]
            rw [hA1, hy] at hf1
            rw [hA1, hc1, hyl] at hcut1
            rw [hys] at hcl
            have HV1 := Lib.hid (show Kd.V k37 37 wr wr.heap.size (fun _ => True) (.slice A1 ys.length c1) ys from Kd.V_mk (by rw [← hyl, ← hc1]; exact Nat.sub_le_sub_right hroom _) hf1)
            clear hf1 hy hyl hA1 hc1 hys hK hFy h2
            rcases hbk : Sp.blk [Sp.closer (view ⟨x0, x1, x2, x3⟩)] (views r0) with _ | k
            · have HT := Lib.hid (HIv.out.open_ HD.out HQ.out hbk)
              rw [hbk] at hcl
              have HC := Lib.hid (show PVarFills.vars_closed.f K ys = some 0 from hcl)
              clear hbk hcl hFr hi0 hsz37 hlen0 hroom
              go_wp2_with (first
                | (go_at_call 8; refine CV.out.mono ?_; rintro e w2 ⟨rfl, hb⟩; have HB2 := Lib.hid (HBw.out.trans (hb.mono hBs)); have HV2 := Lib.hid (Kd.V_below HV1.out hb); clear hb)
                | (go_at_call 10; refine (PVarFills.vars_closed.calls K A1 c1 ys 0 _ (Kd.V_reads' HV2.out).2.2 (Kd.V_reads' HV2.out).2.1 HC.out).mono ?_; rintro e w3 ⟨rfl, hb⟩; have HB3 := Lib.hid (HB2.out.trans (hb.mono HB2.out.size)); clear hb))
              go_ret2
              exact ⟨_, false, rfl, by rw [HT.out]; rfl, fun _ => rfl, HB1.out.trans (HB3.out.mono HB1.out.size)⟩
            · have hkb := Toks.blk_le _ _ _ hbk
              rw [views_length] at hkb
              have hk1 : 1 ≤ k := hkb.2 (by simp)
              have hk2 : k ≤ r0.length := hkb.1
              rw [hbk] at hcl
              obtain ⟨R, hR⟩ : ∃ R : Int, Block.ende 1 (some k) = R := ⟨_, rfl⟩
              have hRk : R = 1 + (k : Int) := by rw [← hR]; show ((1 + k : Nat) : Int) = 1 + (k : Int); omega
              rw [hR] at hcl
              have HC := Lib.hid hcl
              have hR0 : (R == 0) = false := beq_eq_false_iff_ne.2 (by omega)
              clear hcl hR hkb
              have HBK := Lib.hid hbk
              clear hbk
              -- the tokens of the block
              have e1 : ((i : Int) + 1).toNat = i + 1 := by omega
              have e2 : ((i : Int) + R - 1).toNat = i + k := by rw [hRk]; omega
              have hcut2 := cut_mid (P := Tryd.prog) 29 37 .i64 .i64 Tryd.underlying29 hi0 4 hsz37 (some ad) xs.length c ((i : Int) + 1) ((i : Int) + R - 1) (by omega) (by rw [hRk]; omega) (by rw [hRk]; omega) hroom
              have hf2 := Kd.F_mid (lo := i + 1) (hi := i + k) (c := c) hFr (by omega) (by omega) hroom
              rw [show k37.sz = 4 from rfl] at hf2
              rw [e1, e2] at hcut2
              obtain ⟨A2, hA2⟩ : ∃ A2, (if c = i + 1 then some ad else (some ad : Option Addr).map (·.add ((i + 1) * 4))) = A2 := ⟨_, rfl⟩
              obtain ⟨c2, hc2⟩ : ∃ c2, c - (i + 1) = c2 := ⟨_, rfl⟩
              obtain ⟨zs, hzs⟩ : ∃ zs, (xs.take (i + k)).drop (i + 1) = zs := ⟨_, rfl⟩
              have hzr : zs = r0.take (k - 1) := by
                rw [← hzs, List.drop_take, HY.out.2, show i + k - (i + 1) = k - 1 by omega]
              have hzl : i + k - (i + 1) = zs.length := by
                rw [hzr, List.length_take]; omega
              rw [hA2, hzs] at hf2
              rw [hA2, hc2, hzl] at hcut2
              have HV2 := Lib.hid (show Kd.V k37 37 wr wr.heap.size (fun _ => True) (.slice A2 zs.length c2) zs from Kd.V_mk (by rw [← hc2, ← hzl]; omega) hf2)
              have HFz := Lib.hid (show Fine zs from HF.out.sub (by rw [hzr, List.length_take]; omega) (fun y hy => by rw [hzr] at hy; have := List.mem_of_mem_take hy; rw [← HY.out.2] at this; exact List.mem_of_mem_drop this))
              have HZ := Lib.hid (show views zs = (views r0).take (k - 1) by rw [hzr, views_take])
              have HSh := Lib.hid (show ∀ us, (us = [] ∨ ∃ m, us = zs.drop (m + 1)) → (Sp.head (views us)).length < s.size from by
                have h0 : 0 < s.size := by
                  have h1 := HSum.out
                  have h2 := Toks.sum_drop (views xs) i
                  rw [HD.out] at h2
                  simp only [Toks.sum] at h2
                  have h3 : x1.size ≠ 0 := (HX.out).1.1
                  have h4 : x1.size = (view ⟨x0, x1, x2, x3⟩).raw.length := Lib.size_eq _
                  omega
                rintro us (rfl | ⟨m, rfl⟩)
                · exact h0
                · have hraw := fine_raw HFz.out
                  rw [views_drop]
                  have h5 := Toks.head_le ((views zs).drop (m + 1)) (fun t ht => hraw t (List.mem_of_mem_drop ht))
                  have h6 := Toks.sum_drop (views zs) (m + 1)
                  have h7 : Toks.sum (views zs) ≤ Toks.sum (views r0) := by rw [HZ.out]; exact Toks.sum_take _ _
                  have h1 := HSum.out
                  have h2 := Toks.sum_drop (views xs) i
                  rw [HD.out] at h2
                  simp only [Toks.sum] at h2
                  have h3 : x1.size ≠ 0 := (HX.out).1.1
                  have h4 : x1.size = (view ⟨x0, x1, x2, x3⟩).raw.length := Lib.size_eq _
                  omega)
              have hRa : 2 ≤ R := by omega
              have hRb : (i : Int) + R ≤ 400 := by omega
              have HRK := Lib.hid hRk
              have HXL := Lib.hid hlen0
              have HK := Lib.hid hk2
              clear hf2 hA2 hc2 hzs hzr hzl e1 e2 hRk hFr hi0 hsz37 hlen0 hroom hk1 hk2
              go_upto_region 13 with (first
                | (go_at_call 8; refine CV.out.mono ?_; rintro e w2 ⟨rfl, hb⟩; have HB2 := Lib.hid (HBw.out.trans (hb.mono hBs)); have HBd2 := Lib.hid (HBd.out.below hb); have HV12 := Lib.hid (Kd.V_below HV1.out hb); have HV22 := Lib.hid (Kd.V_below HV2.out hb); have HD2 := Lib.hid hb; clear hb)
                | (go_at_call 10; refine (PVarFills.vars_closed.calls K A1 c1 ys R _ (Kd.V_reads' HV12.out).2.2 (Kd.V_reads' HV12.out).2.1 HC.out).mono ?_; rintro e w3 ⟨rfl, hb⟩; have HB3 := Lib.hid (HB2.out.trans (hb.mono HB2.out.size)); have HBd3 := Lib.hid (HBd2.out.below hb); have HV23 := Lib.hid (Kd.V_below HV22.out hb); have HD3 := Lib.hid (HD2.out.trans (hb.mono HD2.out.size)); clear hb))
              have IHP := Lib.hid (fun (w4 : World) (hb : Below wr.heap.size wr w4) => Put.put_any (Sp.fillS (Back.envOf env) d) Av cv env s.size w4 (Kd.C_below HE.out (HB1.out.trans ((HBw.out.trans (hb.mono hBs)).mono HB1.out.size))) A2 c2 zs (Kd.V_below HV2.out hb) HFz.out.1 (fun y hy => ⟨(HFz.out.2 y hy).1.2, (HFz.out.2 y hy).2.2⟩) HSh.out
                (fun s' w' hs' hb' => IH.out s' w' (by omega) (HL.out.below (HB1.out.trans (((HBw.out.trans (hb.mono hBs)).mono HB1.out.size).trans (hb'.mono (Nat.le_trans HB1.out.size (Nat.le_trans hBs hb.size)))))) (Kd.C_below HE.out (HB1.out.trans (((HBw.out.trans (hb.mono hBs)).mono HB1.out.size).trans (hb'.mono (Nat.le_trans HB1.out.size (Nat.le_trans hBs hb.size))))))))
              go_upto_region 14 with (first
                | (go_at_call 11; refine (IHP.out _ HD3.out).mono ?_; rintro e w4 ⟨v, b, rfl, ho, hv, hb⟩; have HO := Lib.hid (And.intro ho hv); have HB4 := Lib.hid (HB3.out.trans (hb.mono HB3.out.size)); have HBd4 := Lib.hid (HBd3.out.below hb); clear hb ho hv))
              have HP := Lib.hid (show Sp.putS (Sp.fillS (Back.envOf env) d) (Back.envOf env) ((views r0).take (k - 1)) = if b then some v.data.toList else none by rw [← HZ.out]; exact HO.out.1)
              clear hcut1 hcut2 HV1 HV2 HC HV12 HV22 HV23 IHP HSh HFz HO
              cases b
              · have HT := Lib.hid (HIv.out.unput HD.out HQ.out HBK.out HP.out)
                go_wp2
                go_ret2
                exact ⟨_, false, rfl, by rw [HT.out]; rfl, fun _ => rfl, HB1.out.trans (HB4.out.mono HB1.out.size)⟩
              · have hvz : v.size ≤ 140737488351232 := by
                  rw [Lib.size_eq]
                  exact Toks.putS_le _ _ 140737488351232 (by omega) (fun s' v' h' => Toks.fillS_le _ _ _ _ h') (fun p hp => by
                    obtain ⟨y, hy, rfl⟩ := List.mem_map.1 hp
                    show y.f1.data.toList.length ≤ _
                    rw [← Lib.size_eq]; exact hbig y hy) _ _ HP.out
                obtain ⟨acc2, hacc2⟩ : ∃ acc2, acc ++ v.data.toList = acc2 := ⟨_, rfl⟩
                have HA2 := Lib.hid hacc2
                clear hacc2
                by_cases hl : 400 < acc2.length
                · have HT := Lib.hid (HIv.out.long HD.out HQ.out HBK.out HP.out (by rw [HA2.out]; exact hl))
                  have hgt3 : decide ((acc2.length : Int) > 400) = true := by simp; omega
                  go_wp2_with (first
                    | (go_at_call 9; refine (Bld.wstr _ _ _ _ _ HBd4.out (by omega)).mono ?_; rintro e w5 ⟨rfl, hbd, hb, _⟩; rw [HA2.out] at hbd; have HBd5 := Lib.hid hbd; have HB5 := Lib.hid (HB4.out.trans hb); clear hbd hb)
                    | (go_at_call 12; refine (Bld.blen _ _ _ _ HBd5.out).mono ?_; rintro e w6 ⟨rfl, rfl⟩))
                  go_ret2
                  exact ⟨_, false, rfl, by rw [HT.out]; rfl, fun _ => rfl, HB1.out.trans (HB5.out.mono HB1.out.size)⟩
                · have HI2 := Lib.hid (HIv.out.var HD.out HR.out HQ.out HBK.out HP.out (by rw [HA2.out]; exact hl))
                  have hgt3 : decide ((acc2.length : Int) > 400) = false := by simp; omega
                  go_wp2_with (first
                    | (go_at_call 9; refine (Bld.wstr _ _ _ _ _ HBd4.out (by omega)).mono ?_; rintro e w5 ⟨rfl, hbd, hb, _⟩; rw [HA2.out] at hbd; have HBd5 := Lib.hid hbd; have HB5 := Lib.hid (HB4.out.trans hb); clear hbd hb)
                    | (go_at_call 12; refine (Bld.blen _ _ _ _ HBd5.out).mono ?_; rintro e w6 ⟨rfl, rfl⟩))
                  go_roundw
                  case rel => exact ⟨i + 1 + k, acc2, by congr 1; rw [HRK.out]; push_cast; omega, by have := HRK.out; have := HXL.out; have := HK.out; omega, Lib.hid ⟨by rw [← HA2.out]; exact HI2.out, HBd5.out, HB5.out⟩⟩
                  case measure => simp [intOf]; omega
        · obtain rfl : i = xs.length := by omega
          have HT := Lib.hid (show tgt = if 400 < acc.length then none else some acc from Toks.Inv.stop (by rw [views_length]; exact HIv.out))
          by_cases hl : 400 < acc.length
          · have hgt2 : decide ((acc.length : Int) > 400) = true := by simp; omega
            go_wp2_with (first
              | (go_at_call 12; refine (Bld.blen _ _ _ _ HBd.out).mono ?_; rintro e w4 ⟨rfl, rfl⟩))
            go_ret2
            exact ⟨_, false, rfl, by rw [HT.out, if_pos hl]; rfl, fun _ => rfl, HB1.out.trans (HBw.out.mono HB1.out.size)⟩
          · have hgt2 : decide ((acc.length : Int) > 400) = false := by simp; omega
            go_wp2_with (first
              | (go_at_call 12; refine (Bld.blen _ _ _ _ HBd.out).mono ?_; rintro e w4 ⟨rfl, rfl⟩)
              | (go_at_call 13; refine (Bld.bstr _ _ _ _ HBd.out).mono ?_; rintro e w3 ⟨rfl, hb⟩; have HB3 := Lib.hid hb; clear hb))
            go_ret2
            exact ⟨_, true, rfl, by rw [HT.out, if_neg hl]; rfl, (fun h => nomatch h), HB1.out.trans ((HBw.out.trans HB3.out).mono HB1.out.size)⟩

end Fill
end Go.Proofs.YtdjifjnophcnlaaDoor
