/-
  The reference's Tokens and IsVar (package 2). Conditions: texts of at most 400 bytes.
  Pure: how the reference's FillOf reads a block (skip, the name, skip, the comma) is Sp.asked. No program and no memory is walked here. Conditions: at most 400 tokens.
  The reference's FillOf (package 2) answers Sp.fillS. Conditions: the pairs read, their values have at most 2^47 - 4096 bytes.
  The law's own two functions: put (a set example) and VarFills, over the contracts of both sides. Conditions: the library's tables are as laid; the pairs read, their values have at most 2^47 - 4096 bytes.
-/
import Derived.Test.YtdjifjnophcnlaaDoorRefH
import Derived.Test.YtdjifjnophcnlaaDoorCut
import Derived.Test.YtdjifjnophcnlaaDoorVars
import Derived.Great.BuildSlice
set_option linter.unusedVariables false
set_option linter.unusedSimpArgs false

namespace Go.Proofs.YtdjifjnophcnlaaDoor.RefI
open Go.RowKit Go.Proofs.YtdjifjnophcnlaaDoorW.PrintWords Go.Proofs.YtdjifjnophcnlaaDoorW.PrintLast Go.Proofs.YtdjifjnophcnlaaDoorW.PrintMore
open PVarFills (S37 S28 k37 k28)
open Cut

set_option maxHeartbeats 2000000 in
set_option maxRecDepth 100000 in
theorem tokens_any (s : ByteArray) (w : World) (hm : s.size ≤ 400) : Calls Tryd.prog 14 #[.string s] w (ToksPost (Sp.toks s.data.toList) w) := by
  have hS := Lib.hid (Inv.start s.data.toList w)
  go_enter Tryd.func14, Tryd.ntmps14
  go_wp2
  go_loopw [0, 3] (fun a b wr => ∃ (u : ByteArray) (xs : List S37), a = .string u ∧ u.size ≤ 400 ∧ Hid (Inv s.data.toList w u.data.toList b xs wr)) (fun a _ _ => match a with | .string u => u.size | _ => 0)
  case atStart => exact ⟨s, [], rfl, hm, hS⟩
  case round =>
    clear hS
    obtain ⟨u, xs, rfl, hu, HI⟩ := hrel
    by_cases h0 : 0 < u.size
    · have he := Leaf.nonempty u h0
      have hne : decide ((u.size : Int) > 0) = true := decide_eq_true (by omega)
      obtain ⟨c, r, hc0, hl⟩ := Leaf.first_of u h0
      have cf := fun w => RefH.tokenAt_any u w h0 hu
      have hr := Tk.tk_raw c r
      rw [← hl, ← Lib.size_eq] at hr
      obtain ⟨t, ht⟩ : ∃ t, Sp.tk u.data.toList = t := ⟨_, rfl⟩
      unfold TokPost at cf
      rw [ht] at cf hr
      obtain ⟨raw, hraw⟩ : ∃ raw : ByteArray, (⟨t.raw.toArray⟩ : ByteArray) = raw := ⟨_, rfl⟩
      obtain ⟨val, hval⟩ : ∃ val : ByteArray, (⟨t.val.toArray⟩ : ByteArray) = val := ⟨_, rfl⟩
      have hz : raw.size = t.raw.length := by rw [← hraw, Lib.size_eq]
      rw [hraw, hval] at cf
      have CF := Lib.hid cf
      have HT := Lib.hid (show view ⟨t.k, raw, val, 0⟩ = Sp.tk u.data.toList by rw [ht, ← hraw, ← hval]; rfl)
      have HZ := Lib.hid (show raw.size = (Sp.tk u.data.toList).raw.length by rw [ht]; exact hz)
      have HL := Lib.hid hl
      have hr1 : 1 ≤ raw.size := by omega
      have hr2 : raw.size ≤ u.size := by omega
      have hlen : (xs.length + 1) * 48 ≤ 140737488355328 := by have h1 := HI.out.2.1; rw [← Lib.size_eq, ← Lib.size_eq] at h1; omega
      have hBs := HI.out.2.2.2.size
      clear ht hl hraw hval hz hr cf
      go_wp2_with (first
        | (go_at_call 27; refine (CF.out _).mono ?_; rintro e w3 ⟨nn, rfl, hb⟩; have HO := Lib.hid (HI.out.2.2.1.below hb); have HB3 := Lib.hid (HI.out.2.2.2.trans (hb.mono hBs)); have hB3 := HB3.out.size; clear hb)
        | (at_builtin; go_must (refine Kd.R_append k37 (w0 := w) w.heap.size rfl (.tmp 10) (.tmp 12) 29 37 _ 48 rfl Tryd.underlying29 info37 rfl (by decide) (by omega) _ xs (⟨t.k, raw, val, nn⟩ : S37) [.int .i64 t.k, .string raw, .string val, .int .i64 nn] (fun _ => True) (fun _ => False) rfl (by simp [Act.eval]) (PVarFills.k37_mkM _ _ _ _) (fun _ hk => hk.elim) (fun _ _ => trivial) (Kd.R_alloc HO.out _) (HB3.out.alloc hB3 _) (by simp; omega) hlen ?_); intro v1 w4 ho hb4 hg hat; have HO4 := Lib.hid ho; have HB4 := Lib.hid hb4; obtain ⟨⟨-, g1, -, -⟩, -⟩ := (at_grown HO.out hg).cells; clear ho hb4 hg hat))
      go_roundw
      case rel => exact ⟨u.extract raw.size u.size, xs ++ [⟨t.k, raw, val, nn⟩], rfl, by rw [Lib.size_eq, Lib.extract_to_end, List.length_drop, ← Lib.size_eq]; omega,
        Lib.hid (Inv.step (c := c) (r := r) (x := ⟨t.k, raw, val, nn⟩) (by have := HI.out; rw [HL.out] at this; exact this) (by rw [← HL.out, ← HT.out]; rfl) (by rw [Lib.extract_to_end, HL.out, ← HL.out, ← HZ.out]) HO4.out HB4.out)⟩
      case measure =>
        have : (u.extract raw.size u.size).size = u.size - raw.size := by rw [Lib.size_eq, Lib.extract_to_end, List.length_drop, ← Lib.size_eq]
        simp [this]; omega
    · have hl : u.data.toList = [] := List.eq_nil_of_length_eq_zero (by rw [← Lib.size_eq]; omega)
      have he : u.toList.isEmpty = true := by rw [Lib.toList_data, hl]; rfl
      have hne : decide ((u.size : Int) > 0) = false := decide_eq_false (by omega)
      have HL := Lib.hid hl
      clear hl
      go_wp2
      go_ret
      have h := HI.out
      rw [HL.out] at h
      exact ⟨_, xs, rfl, h.2.2.1, h.stop, h.2.2.2⟩


set_option maxHeartbeats 1000000 in
set_option maxRecDepth 100000 in
/-- IsVar. -/
theorem isVar_any (x : S37) (w : World) (hz : x.f2.size ≤ 400) :
    Calls Tryd.prog 15 #[Vars.tv x] w fun e w' => e = .returned (.bool (Sp.isVar (view x))) ∧ Below w.heap.size w w' := by
  obtain ⟨x0, x1, x2, x3⟩ := x
  simp only [] at hz
  by_cases hk : x0 = 2
  · have hb : (x0 == 2) = true := by rw [hk]; rfl
    have HS := Lib.hid (show Sp.isVar (view ⟨x0, x1, x2, x3⟩) = ((⟨(Sp.low x2.data.toList).toArray⟩ : ByteArray).toList == [118, 97, 114]) by rw [ByteArray.toList_eq]; simp [Sp.isVar, view, hk])
    have CF := Lib.hid (fun w => RefF.lower_any x2 w hz)
    obtain ⟨lo, hlo⟩ : ∃ lo : ByteArray, (⟨(Sp.low x2.data.toList).toArray⟩ : ByteArray) = lo := ⟨_, rfl⟩
    rw [hlo] at HS CF
    clear hk hlo
    go_enter Tryd.func15, Tryd.ntmps15
    go_wp2_with (first
      | (go_at_call 28; refine (CF.out _).mono ?_; rintro e w2 ⟨rfl, hb2⟩; have HB := Lib.hid hb2; clear hb2))
    go_ret
    exact ⟨by rw [HS.out]; rfl, ((Below.refl _ _).alloc (Nat.le_refl _) _).trans (HB.out.mono (by simp))⟩
  · have hb : (x0 == 2) = false := beq_eq_false_iff_ne.2 hk
    have HS := Lib.hid (show Sp.isVar (view ⟨x0, x1, x2, x3⟩) = false by simp [Sp.isVar, view, hk])
    clear hk
    go_enter Tryd.func15, Tryd.ntmps15
    go_wp2
    go_ret
    exact ⟨by rw [HS.out]; rfl, (Below.refl _ _).alloc (Nat.le_refl _) _⟩

end Go.Proofs.YtdjifjnophcnlaaDoor.RefI

namespace Go.Proofs.YtdjifjnophcnlaaDoor.RefK
open Go.RowKit Go.Proofs.YtdjifjnophcnlaaDoorW.PrintWords Go.Proofs.YtdjifjnophcnlaaDoorW.PrintLast Go.Proofs.YtdjifjnophcnlaaDoorW.PrintMore
open PVarFills RefA

theorem asked_loud (zs : List S37) : Sp.asked (views zs) = (match views (Block.loud zs) with | [] => none | t :: r => if t.k == 1 then (match r.dropWhile Sp.silent with | [] => some (t.val, none) | u :: r2 => if u.raw == [44] then some (t.val, some r2) else none) else none) := by
  rw [Block.views_loud]; rfl

/-- The first place. -/
theorem first_place (zs : List S37) (hn : zs.length ≤ 400) : ∃ j : Nat, j ≤ zs.length ∧ clerestoryref2_skip.f 401 zs 0 = some (j : Int) ∧ zs.drop j = Block.loud zs := by
  obtain ⟨j, _, h2, h3, h4⟩ := RefD.skip_eq zs hn 0 (Nat.zero_le _)
  exact ⟨j, h2, h3, h4⟩

theorem asked_end (zs : List S37) (j : Nat) (h : zs.drop j = Block.loud zs) (hj : j = zs.length) : Sp.asked (views zs) = none := by
  rw [asked_loud, ← h, hj, List.drop_length]; rfl

theorem asked_other (zs : List S37) (j : Nat) (h : zs.drop j = Block.loud zs) (hj : j < zs.length) (hk : (rd_T37 zs (j : Int)).f0 ≠ 1) : Sp.asked (views zs) = none := by
  rw [asked_loud, ← h, Block.drop_cons zs j hj]
  show (if ((rd_T37 zs (j : Int)).f0 == 1) = true then _ else none) = none
  rw [if_neg (by simpa using hk)]

theorem asked_name (zs : List S37) (j j2 : Nat) (h : zs.drop j = Block.loud zs) (hj : j < zs.length) (hk : (rd_T37 zs (j : Int)).f0 = 1) (h2 : zs.drop j2 = Block.loud (zs.drop (j + 1))) :
    Sp.asked (views zs) = (match views (zs.drop j2) with | [] => some ((rd_T37 zs (j : Int)).f2.data.toList, none) | u :: r2 => if u.raw == [44] then some ((rd_T37 zs (j : Int)).f2.data.toList, some r2) else none) := by
  rw [asked_loud, ← h, Block.drop_cons zs j hj, h2, Block.views_loud]
  show (if ((rd_T37 zs (j : Int)).f0 == 1) = true then _ else none) = _
  rw [if_pos (by simpa using hk)]; rfl

theorem asked_bare (zs : List S37) (j j2 : Nat) (h : zs.drop j = Block.loud zs) (hj : j < zs.length) (hk : (rd_T37 zs (j : Int)).f0 = 1) (h2 : zs.drop j2 = Block.loud (zs.drop (j + 1))) (hj2 : j2 = zs.length) :
    Sp.asked (views zs) = some ((rd_T37 zs (j : Int)).f2.data.toList, none) := by
  rw [asked_name zs j j2 h hj hk h2, hj2, List.drop_length]; rfl

theorem asked_noise (zs : List S37) (j j2 : Nat) (h : zs.drop j = Block.loud zs) (hj : j < zs.length) (hk : (rd_T37 zs (j : Int)).f0 = 1) (h2 : zs.drop j2 = Block.loud (zs.drop (j + 1))) (hj2 : j2 < zs.length) (hu : (rd_T37 zs (j2 : Int)).f1.data.toList ≠ [44]) :
    Sp.asked (views zs) = none := by
  rw [asked_name zs j j2 h hj hk h2, Block.drop_cons zs j2 hj2]
  show (if ((rd_T37 zs (j2 : Int)).f1.data.toList == [44]) = true then _ else none) = none
  rw [if_neg (by simpa using hu)]

theorem asked_comma (zs : List S37) (j j2 : Nat) (h : zs.drop j = Block.loud zs) (hj : j < zs.length) (hk : (rd_T37 zs (j : Int)).f0 = 1) (h2 : zs.drop j2 = Block.loud (zs.drop (j + 1))) (hj2 : j2 < zs.length) (hu : (rd_T37 zs (j2 : Int)).f1.data.toList = [44]) :
    Sp.asked (views zs) = some ((rd_T37 zs (j : Int)).f2.data.toList, some (views (zs.drop (j2 + 1)))) := by
  rw [asked_name zs j j2 h hj hk h2, Block.drop_cons zs j2 hj2]
  show (if ((rd_T37 zs (j2 : Int)).f1.data.toList == [44]) = true then _ else none) = _
  rw [if_pos (by simpa using hu)]; rfl

end Go.Proofs.YtdjifjnophcnlaaDoor.RefK

namespace Go.Proofs.YtdjifjnophcnlaaDoor
open Go.RowKit Go.Proofs.YtdjifjnophcnlaaDoorW.PrintWords Go.Proofs.YtdjifjnophcnlaaDoorW.PrintLast Go.Proofs.YtdjifjnophcnlaaDoorW.PrintMore
open PVarFills (S37 S28 k37 k28)

namespace RefJ
open Fill RefA

/-- A text and whether there is one come back; the text says nothing where there is none. -/
def Post (o : Option Sp.By) (w : World) (e : Ending) (w' : World) : Prop :=
  ∃ (v : ByteArray) (b : Bool), e = .returned (.tuple #[.string v, .bool b]) ∧ o = (if b then some v.data.toList else none) ∧ Below w.heap.size w w'

set_option maxHeartbeats 8000000 in
set_option maxRecDepth 100000 in
theorem fillOf_any (Av : Option Addr) (cv : Nat) (env : List S28) (hcv : env.length ≤ cv) (hel : env.length ≤ 9223372036854775807) (hbig : ∀ x ∈ env, x.f1.size ≤ 140737488351232) : ∀ (d : Nat) (s : ByteArray) (w : World), s.size < d → Kd.C k28 w Av env.length env →
    Calls Tryd.prog 6 #[.string s, .slice Av env.length cv] w (Post (Sp.fillS (Back.envOf env) d s.data.toList) w) := by
  intro d
  induction d with
  | zero => exact fun s w h _ => absurd h (Nat.not_lt_zero _)
  | succ d ih =>
    intro s w hd hE
    by_cases hsz : 400 < s.size
    · have hfs : Sp.fillS (Back.envOf env) (d + 1) s.data.toList = none := by
        rw [Sp.fillS, if_pos (by rw [← Lib.size_eq]; exact hsz)]
      rw [hfs]
      clear hfs hE ih
      have hgt : decide ((s.size : Int) > 400) = true := by simp; omega
      go_enter Tryd.func6, Tryd.ntmps6
      go_wp2
      go_ret2
      exact ⟨_, false, rfl, rfl, Below.refl _ _⟩
    · have hfs : Sp.fillS (Back.envOf env) (d + 1) s.data.toList = Sp.goS (Sp.fillS (Back.envOf env) d) (Back.envOf env) ((Sp.toks s.data.toList).length + 1) (Sp.toks s.data.toList) [] := by
        rw [Sp.fillS, if_neg (by rw [← Lib.size_eq]; exact hsz)]
      obtain ⟨tgt, htgt⟩ : ∃ tgt, Sp.fillS (Back.envOf env) (d + 1) s.data.toList = tgt := ⟨_, rfl⟩
      rw [htgt] at hfs ⊢
      have HS := Lib.hid hfs.symm
      have HE := Lib.hid hE
      have IH := Lib.hid ih
      have hgt : decide ((s.size : Int) > 400) = false := by simp; omega
      have hsz4 : s.size ≤ 400 := by omega
      clear hfs htgt hE ih
      go_enter Tryd.func6, Tryd.ntmps6
      go_wp2_with (first
        | (go_at_call 14; refine (RefI.tokens_any s w hsz4).mono ?_; rintro e w1 ⟨v, xs, rfl, ht, hv, hb⟩; have HV := Lib.hid (show Kd.V k37 37 w1 w1.heap.size (fun _ => True) v xs from Kd.R_V ht); have HW := Lib.hid hv; have HB1 := Lib.hid hb; clear ht hv hb; obtain ⟨A, c, rfl⟩ := Kd.V_slice HV.out))
      have HF := Lib.hid (fine_of s.data.toList (by rw [← Lib.size_eq]; exact hsz4) xs HW.out)
      have HSum := Lib.hid (show Toks.sum (views xs) ≤ s.size by rw [HW.out, Lib.size_eq]; exact (Toks.toks_good _).2.1)
      have HI := Lib.hid (show Toks.Inv (Sp.fillS (Back.envOf env) d) (Back.envOf env) (views xs) tgt 0 [] from Toks.Inv.start (by rw [HW.out]; exact HS.out))
      have hn := HF.out.1
      have HFE := Lib.hid (RefE.fine_of s.data.toList (by rw [← Lib.size_eq]; exact hsz4) xs HW.out)
      clear HS HW
      go_loopw [7, 8] (fun v7 v8 wr => ∃ (i : Nat) (acc : Sp.By), v7 = .string (mk acc) ∧ v8 = .int .i64 i ∧ i ≤ xs.length ∧ Hid (Toks.Inv (Sp.fillS (Back.envOf env) d) (Back.envOf env) (views xs) tgt i acc ∧ Below w1.heap.size w1 wr)) (fun _ i _ => xs.length - (intOf i).toNat)
      case atStart => exact ⟨0, [], rfl, rfl, Nat.zero_le _, Lib.hid ⟨HI.out, Below.refl _ _⟩⟩
      case round =>
        clear HI
        obtain ⟨i, acc, rfl, rfl, hi, HI⟩ := hrel
        have HBw := Lib.hid HI.out.2
        have HIv := Lib.hid HI.out.1
        have hacc : acc.length ≤ 800 := by
          have h1 := HI.out.1.2
          have h2 := HSum.out
          omega
        have hBs := HI.out.2.size
        clear HI
        by_cases hlt : i < xs.length
        · have HVr := Lib.hid (Kd.V_below HV.out HBw.out)
          have hroom := (Kd.V_reads' HVr.out).2.1
          obtain ⟨ad, rfl, hx0, hx1, hx2, hx3⟩ := PVarFills.at_T37 (Kd.V_reads' HVr.out).2.2 (i : Int) (by omega) (by omega)
          have hdr := Block.drop_cons xs i hlt
          have hfx := HF.out.2 _ (Block.rd_mem xs i hlt)
          have hbe := RefD.blockEnd_eq xs HFE.out i hlt
          obtain ⟨x, hxe⟩ : ∃ x, PVarFills.rd_T37 xs (i : Int) = x := ⟨_, rfl⟩
          rw [hxe] at hx0 hx1 hx2 hx3 hdr hfx hbe
          obtain ⟨r0, hr0⟩ : ∃ r0, xs.drop (i + 1) = r0 := ⟨_, rfl⟩
          rw [hr0] at hdr hbe
          have HD := Lib.hid (show (views xs).drop i = view x :: views r0 by rw [← views_drop, hdr]; rfl)
          have HR := Lib.hid (show (views xs).drop (i + 1) = views r0 by rw [← views_drop, hr0])
          have HX := Lib.hid hfx
          have HY := Lib.hid (And.intro hdr hr0)
          have CV := Lib.hid (RefI.isVar_any x wr hfx.2.1)
          have HBE := Lib.hid hbe
          have hz1 := hfx.1.2
          clear hxe hr0 hdr hfx hbe
          obtain ⟨x0, x1, x2, x3⟩ := x
          dsimp only at hx0 hx1 hx2 hx3 hz1
          simp only [Int.toNat_natCast] at hx0 hx1 hx2 hx3
          obtain ⟨bv, hbv⟩ : ∃ bv, Sp.isVar (view ⟨x0, x1, x2, x3⟩) = bv := ⟨_, rfl⟩
          rw [hbv] at CV
          have HQ := Lib.hid hbv
          clear hbv
          obtain ⟨sa, hsa⟩ : ∃ sa, mk acc = sa := ⟨_, rfl⟩
          have hsl : sa.size = acc.length := by rw [← hsa, mk_size]
          have HSA := Lib.hid hsa
          rw [hsa]
          clear hsa
          cases bv
          · have hcat : sa.size + x1.size ≤ 9223372036854775807 := by omega
            have hcat1 : decide (sa.size + x1.size ≤ 9223372036854775807) = true := decide_eq_true hcat
            have hcat2 : (9223372036854775807 < sa.size + x1.size) = False := eq_false (Nat.not_lt.2 hcat)
            have HLEN := Lib.hid hsl
            clear hsl
            go_wp2_with (first
              | (go_at_call 15; refine CV.out.mono ?_; rintro e w2 ⟨rfl, hb⟩; have HB2 := Lib.hid (HBw.out.trans (hb.mono hBs)); have hx1' := cell_below hx1 hb; clear hb))
            go_roundw
            case rel => exact ⟨i + 1, acc ++ x1.data.toList, by rw [← HSA.out, ← mk_append, mk_of], by first | rfl | go_num, by omega, Lib.hid ⟨HIv.out.plain HD.out HR.out HQ.out (show x1.data.toList.length ≤ 400 by rw [← Lib.size_eq]; exact hz1), HB2.out⟩⟩
            case measure => simp [intOf]; omega
          · obtain ⟨ii, hi0, _, hsz37, _⟩ := info_parts PVarFills.info37
            have hFr : Kd.F k37 wr (fun _ => True) (some ad) xs.length xs := (Kd.V_at (e := 37) (base := 0) HVr.out).2.2
            have hlen0 : r0.length + (i + 1) = xs.length := by rw [← HY.out.2, List.length_drop]; omega
            have HLEN := Lib.hid hsl
            clear hsl
            rcases hbk : Sp.blk [Sp.closer (view ⟨x0, x1, x2, x3⟩)] (views r0) with _ | k
            · have HT := Lib.hid (HIv.out.open_ HD.out HQ.out hbk)
              have HC := Lib.hid (show PVarFills.clerestoryref2_BlockEnd.f 1700 xs (i : Int) = some 0 by rw [HBE.out, hbk]; rfl)
              clear hbk hFr hi0 hsz37 hlen0 
              go_wp2_with (first
                | (go_at_call 15; refine CV.out.mono ?_; rintro e w2 ⟨rfl, hb⟩; have HB2 := Lib.hid (HBw.out.trans (hb.mono hBs)); have HV2 := Lib.hid (Kd.V_below HVr.out hb); clear hb)
                | (go_at_call 16; refine (PVarFills.clerestoryref2_BlockEnd.calls 1700 (some ad) c xs (i : Int) 0 _ (Kd.V_reads' HV2.out).2.2 (Kd.V_reads' HV2.out).2.1 HC.out).mono ?_; rintro e w3 ⟨rfl, hb⟩; have HB3 := Lib.hid (HB2.out.trans (hb.mono HB2.out.size)); clear hb))
              go_ret2
              exact ⟨_, false, rfl, by rw [HT.out]; rfl, HB1.out.trans (HB3.out.mono HB1.out.size)⟩
            · have hkb := Toks.blk_le _ _ _ hbk
              rw [views_length] at hkb
              have hk1 : 1 ≤ k := hkb.2 (by simp)
              have hk2 : k ≤ r0.length := hkb.1
              obtain ⟨R, hR⟩ : ∃ R : Nat, i + 1 + k = R := ⟨_, rfl⟩
              have HC := Lib.hid (show PVarFills.clerestoryref2_BlockEnd.f 1700 xs (i : Int) = some (R : Int) by rw [HBE.out, hbk, ← hR]; rfl)
              have hR0 : ((R : Int) == 0) = false := beq_eq_false_iff_ne.2 (by omega)
              clear hkb
              have HBK := Lib.hid hbk
              clear hbk
              have e1 : ((i : Int) + 1).toNat = i + 1 := by omega
              have e2 : ((R : Int) - 1).toNat = i + k := by omega
              have hcut2 := cut_mid (P := Tryd.prog) 29 37 .i64 .i64 Tryd.underlying29 hi0 4 hsz37 (some ad) xs.length c ((i : Int) + 1) ((R : Int) - 1) (by omega) (by omega) (by omega) hroom
              have hf2 := Kd.F_mid (lo := i + 1) (hi := i + k) (c := c) hFr (by omega) (by omega) hroom
              rw [show k37.sz = 4 from rfl] at hf2
              rw [e1, e2] at hcut2
              obtain ⟨A2, hA2⟩ : ∃ A2, (if c = i + 1 then some ad else (some ad : Option Addr).map (·.add ((i + 1) * 4))) = A2 := ⟨_, rfl⟩
              obtain ⟨c2, hc2⟩ : ∃ c2, c - (i + 1) = c2 := ⟨_, rfl⟩
              obtain ⟨zs, hzs⟩ : ∃ zs, (xs.take (i + k)).drop (i + 1) = zs := ⟨_, rfl⟩
              have hzr : zs = r0.take (k - 1) := by
                rw [← hzs, List.drop_take, HY.out.2, show i + k - (i + 1) = k - 1 by omega]
              have hzl : i + k - (i + 1) = zs.length := by
                rw [hzr, List.length_take]; omega
              rw [hA2, hzs] at hf2
              rw [hA2, hc2, hzl] at hcut2
              have HV2 := Lib.hid (show Kd.V k37 37 wr wr.heap.size (fun _ => True) (.slice A2 zs.length c2) zs from Kd.V_mk (by rw [← hc2, ← hzl]; omega) hf2)
              have HFz := Lib.hid (show Fine zs from HF.out.sub (by rw [hzr, List.length_take]; omega) (fun y hy => by rw [hzr] at hy; have := List.mem_of_mem_take hy; rw [← HY.out.2] at this; exact List.mem_of_mem_drop this))
              have HZ := Lib.hid (show views zs = (views r0).take (k - 1) by rw [hzr, views_take])
              have HSh := Lib.hid (show ∀ us, (us = [] ∨ ∃ m, us = zs.drop (m + 1)) → (Sp.head (views us)).length < s.size from by
                have h0 : 0 < s.size := by
                  have h1 := HSum.out
                  have h2 := Toks.sum_drop (views xs) i
                  rw [HD.out] at h2
                  simp only [Toks.sum] at h2
                  have h3 : x1.size ≠ 0 := (HX.out).1.1
                  have h4 : x1.size = (view ⟨x0, x1, x2, x3⟩).raw.length := Lib.size_eq _
                  omega
                rintro us (rfl | ⟨m, rfl⟩)
                · exact h0
                · have hraw := fine_raw HFz.out
                  rw [views_drop]
                  have h5 := Toks.head_le ((views zs).drop (m + 1)) (fun t ht => hraw t (List.mem_of_mem_drop ht))
                  have h6 := Toks.sum_drop (views zs) (m + 1)
                  have h7 : Toks.sum (views zs) ≤ Toks.sum (views r0) := by rw [HZ.out]; exact Toks.sum_take _ _
                  have h1 := HSum.out
                  have h2 := Toks.sum_drop (views xs) i
                  rw [HD.out] at h2
                  simp only [Toks.sum] at h2
                  have h3 : x1.size ≠ 0 := (HX.out).1.1
                  have h4 : x1.size = (view ⟨x0, x1, x2, x3⟩).raw.length := Lib.size_eq _
                  omega)
              have hRa : 2 ≤ R := by omega
              have hRb : R ≤ 400 := by omega
              have hzn : zs.length ≤ 400 := HFz.out.1
              have HRK := Lib.hid hR
              have HXL := Lib.hid hlen0
              have HK := Lib.hid hk2
              clear hf2 hA2 hc2 hzs hzr hzl e1 e2 hR hFr hi0 hsz37 hlen0 hroom hk1 hk2
              go_upto_region 14 with (first
                | (go_at_call 15; refine CV.out.mono ?_; rintro e w2 ⟨rfl, hb⟩; have HB2 := Lib.hid (HBw.out.trans (hb.mono hBs)); have HD2 := Lib.hid hb; have HVX := Lib.hid (Kd.V_below HVr.out hb); clear hb)
                | (go_at_call 16; refine (PVarFills.clerestoryref2_BlockEnd.calls 1700 (some ad) c xs (i : Int) (R : Int) _ (Kd.V_reads' HVX.out).2.2 (Kd.V_reads' HVX.out).2.1 HC.out).mono ?_; rintro e w3 ⟨rfl, hb⟩; have HB3 := Lib.hid (HB2.out.trans (hb.mono HB2.out.size)); have HD3 := Lib.hid (HD2.out.trans (hb.mono HD2.out.size)); clear hb))
              have HV3 := Lib.hid (Kd.V_below HV2.out HD3.out)
              clear hcut2 HVX HVr
              obtain ⟨j1, hj1, hsk1, hd1⟩ := RefK.first_place zs hzn
              have HD1 := Lib.hid hd1
              have HC1 := Lib.hid hsk1
              clear hsk1 hd1
              go_upto_region 15 with (first
                | (go_at_call 17; refine (PVarFills.clerestoryref2_skip.calls 401 A2 c2 zs 0 (j1 : Int) _ (Kd.V_reads' HV3.out).2.2 (Kd.V_reads' HV3.out).2.1 HC1.out).mono ?_; rintro e w4 ⟨rfl, hb⟩; have HB4 := Lib.hid (HB3.out.trans (hb.mono HB3.out.size)); have HD4 := Lib.hid (HD3.out.trans (hb.mono HD3.out.size)); have HV4 := Lib.hid (Kd.V_below HV3.out hb); clear hb))
              rcases Nat.lt_or_ge j1 zs.length with hlt1 | hge1
              · have hq1 : ((j1 : Int) == (zs.length : Int)) = false := beq_eq_false_iff_ne.2 (by omega)
                obtain ⟨ad2, rfl, hy0, hy1, hy2, hy3⟩ := PVarFills.at_T37 (Kd.V_reads' HV4.out).2.2 (j1 : Int) (by omega) (by omega)
                have HK1 := Lib.hid (RefK.asked_other zs j1 HD1.out hlt1)
                have HK2 := Lib.hid (fun j2 => RefK.asked_bare zs j1 j2 HD1.out hlt1)
                have HK3 := Lib.hid (fun j2 => RefK.asked_noise zs j1 j2 HD1.out hlt1)
                have HK4 := Lib.hid (fun j2 => RefK.asked_comma zs j1 j2 HD1.out hlt1)
                obtain ⟨y, hye⟩ : ∃ y, PVarFills.rd_T37 zs (j1 : Int) = y := ⟨_, rfl⟩
                rw [hye] at hy0 hy1 hy2 hy3 HK1 HK2 HK3 HK4
                clear hye
                obtain ⟨y0, y1, y2, y3⟩ := y
                dsimp only at hy0 hy1 hy2 hy3 HK1 HK2 HK3 HK4
                simp only [Int.toNat_natCast] at hy0 hy1 hy2 hy3
                by_cases hk : y0 = 1
                · have hk1 : (y0 != 1) = false := bne_eq_false_iff_eq.2 hk
                  have HKK := Lib.hid hk
                  clear hk HK1
                  obtain ⟨j2, hj2a, hj2, hsk2, hd2⟩ := RefD.skip_eq zs hzn (j1 + 1) (by omega)
                  rw [show (((j1 + 1 : Nat)) : Int) = (j1 : Int) + 1 by omega] at hsk2
                  have HD2' := Lib.hid hd2
                  have HC2 := Lib.hid hsk2
                  clear hsk2 hd2
                  obtain ⟨v, b, hv1, hv2⟩ := RefE.value_eq env y2 hel
                  have HC3 := Lib.hid hv1
                  have HLK := Lib.hid hv2
                  clear hv1 hv2
                  go_upto_region 19 with (first
                    | (go_at_call 17; refine (PVarFills.clerestoryref2_skip.calls 401 (some ad2) c2 zs ((j1 : Int) + 1) (j2 : Int) _ (Kd.V_reads' HV4.out).2.2 (Kd.V_reads' HV4.out).2.1 HC2.out).mono ?_; rintro e w5 ⟨rfl, hb⟩; have HB5 := Lib.hid (HB4.out.trans (hb.mono HB4.out.size)); have HD5 := Lib.hid (HD4.out.trans (hb.mono HD4.out.size)); have HV5 := Lib.hid (Kd.V_below HV4.out hb); clear hb))
                  clear hy0 hy1 hy2 hy3 HV2 HV3 HV4
                  rcases Nat.lt_or_ge j2 zs.length with hlt2 | hge2
                  · have hq2 : ((j2 : Int) == (zs.length : Int)) = false := beq_eq_false_iff_ne.2 (by omega)
                    have hq3 : decide ((j2 : Int) < (zs.length : Int)) = true := decide_eq_true (by omega)
                    obtain ⟨ad3, had3, hz0, hz1', hz2, hz3⟩ := PVarFills.at_T37 (Kd.V_reads' HV5.out).2.2 (j2 : Int) (by omega) (by omega)
                    obtain rfl : ad2 = ad3 := Option.some.inj had3
                    have HK5 := Lib.hid (HK3.out j2 HKK.out HD2'.out hlt2)
                    have HK6 := Lib.hid (HK4.out j2 HKK.out HD2'.out hlt2)
                    obtain ⟨u, hue⟩ : ∃ u, PVarFills.rd_T37 zs (j2 : Int) = u := ⟨_, rfl⟩
                    rw [hue] at hz0 hz1' hz2 hz3 HK5 HK6
                    clear hue had3
                    obtain ⟨y0', z1, z2, z3⟩ := u
                    dsimp only at hz0 hz1' hz2 hz3 HK5 HK6
                    simp only [Int.toNat_natCast] at hz0 hz1' hz2 hz3
                    by_cases hc44 : z1.data.toList = [44]
                    · have hc1 : (z1.toList != ([44] : List UInt8)) = false := by rw [ByteArray.toList_eq]; exact bne_eq_false_iff_eq.2 hc44
                      have hc0 : (z1.toList == ([44] : List UInt8)) = true := by rw [ByteArray.toList_eq]; exact beq_iff_eq.2 hc44
                      have HAS := Lib.hid (HK6.out hc44)
                      clear hc44 HK2 HK3 HK4 HK5 HK6
                      cases b
                      · have HO := Lib.hid (show Sp.putS (Sp.fillS (Back.envOf env) d) (Back.envOf env) ((views r0).take (k - 1)) = Sp.fillS (Back.envOf env) d (Sp.head (views (zs.drop (j2 + 1)))) by rw [← HZ.out]; simp [Sp.putS, HAS.out, HLK.out])
                        have hshort := HSh.out (zs.drop (j2 + 1)) (.inr ⟨j2, rfl⟩)
                        obtain ⟨ii2, hi0, _, hsz37, _⟩ := info_parts PVarFills.info37
                        have hFr := (Kd.V_at (e := 37) (base := 0) HV5.out).2.2
                        have hroom := (Kd.V_reads' HV5.out).2.1
                        have hcut1 := cut_from (P := Tryd.prog) 29 37 .i64 Tryd.underlying29 hi0 4 hsz37 (some ad2) zs.length c2 ((j2 : Int) + 1) (by omega) (by omega)
                        have hf1 := Kd.F_cut (m := ((j2 : Int) + 1).toNat) (c := c2) hFr (by omega) hroom
                        rw [show k37.sz = 4 from rfl] at hf1
                        have e1 : ((j2 : Int) + 1).toNat = j2 + 1 := by omega
                        rw [e1] at hf1 hcut1
                        obtain ⟨A1, hA1⟩ : ∃ A1, (if c2 = j2 + 1 then some ad2 else (some ad2 : Option Addr).map (·.add ((j2 + 1) * 4))) = A1 := ⟨_, rfl⟩
                        obtain ⟨c1, hc1'⟩ : ∃ c1, c2 - (j2 + 1) = c1 := ⟨_, rfl⟩
                        obtain ⟨ys, hys⟩ : ∃ ys, zs.drop (j2 + 1) = ys := ⟨_, rfl⟩
                        have hyl : zs.length - (j2 + 1) = ys.length := by rw [← hys, List.length_drop]
                        rw [hA1, hys] at hf1
                        rw [hA1, hc1', hyl] at hcut1
                        rw [hys] at HO hshort
                        have HV6 := Lib.hid (show Kd.V k37 37 w5 w5.heap.size (fun _ => True) (.slice A1 ys.length c1) ys from Kd.V_mk (by rw [← hyl, ← hc1']; exact Nat.sub_le_sub_right hroom _) hf1)
                        have HC4 := Lib.hid (RefE.head_eq ys (by omega) (fun x hx => (HFz.out.2 x (by rw [← hys] at hx; exact List.mem_of_mem_drop hx)).1.2))
                        obtain ⟨hd4, hhd⟩ : ∃ h, mk (Sp.head (views ys)) = h := ⟨_, rfl⟩
                        have hhl : Sp.head (views ys) = hd4.data.toList := by rw [← hhd]
                        rw [hhd] at HC4
                        rw [hhl] at HO
                        rw [hhl, ← Lib.size_eq] at hshort
                        have HSS := Lib.hid hshort
                        clear hf1 hyl hA1 hc1' hys e1 hFr hi0 hsz37 hroom hhd hhl hshort
                        go_upto_region 26 with (first
                          | (go_at_call 18; refine (PVarFills.clerestoryref2_VarValue.calls (env.length + 1) Av cv env y2 v false _ (Kd.C_below HE.out (HB1.out.trans (HB5.out.mono HB1.out.size))) hcv HC3.out).mono ?_; rintro e w6 ⟨rfl, hb0⟩; have hb := hb0.below; have HB6 := Lib.hid (HB5.out.trans (hb.mono HB5.out.size)); have HV7 := Lib.hid (Kd.V_below HV6.out hb); clear hb hb0)
                          | (go_at_call 19; refine (PVarFills.clerestoryref2_HeadOf.calls 401 A1 c1 ys hd4 _ (Kd.V_reads' HV7.out).2.2 (Kd.V_reads' HV7.out).2.1 HC4.out).mono ?_; rintro e w7 ⟨rfl, hb⟩; have HB7 := Lib.hid (HB6.out.trans (hb.mono HB6.out.size)); clear hb)
                          | (go_at_call 6; refine (IH.out hd4 _ (by have := HSS.out; omega) (Kd.C_below HE.out (HB1.out.trans (HB7.out.mono HB1.out.size)))).mono ?_; rintro e w8 ⟨v8, b8, rfl, ho, hb⟩; have HO8 := Lib.hid ho; have HBZ := Lib.hid (HB7.out.trans (hb.mono HB7.out.size)); clear hb ho))
                        cases b8
                        · have HP := Lib.hid (show Sp.putS (Sp.fillS (Back.envOf env) d) (Back.envOf env) ((views r0).take (k - 1)) = none by rw [HO.out, HO8.out]; rfl)
                          have HT := Lib.hid (HIv.out.unput HD.out HQ.out HBK.out HP.out)
                          go_wp2
                          go_ret2
                          exact ⟨_, false, rfl, by rw [HT.out]; rfl, HB1.out.trans (HBZ.out.mono HB1.out.size)⟩
                        · obtain ⟨vold, hvold⟩ : ∃ x : ByteArray, v = x := ⟨_, rfl⟩
                          clear hvold HLK HC3
                          have HP := Lib.hid (show Sp.putS (Sp.fillS (Back.envOf env) d) (Back.envOf env) ((views r0).take (k - 1)) = some v8.data.toList by rw [HO.out, HO8.out]; rfl)
                          have hvz : v8.size ≤ 140737488351232 := by
                            rw [Lib.size_eq]
                            exact Toks.putS_le _ _ 140737488351232 (by omega) (fun s' v8' h' => Toks.fillS_le _ _ _ _ h') (fun p hp => by
                              obtain ⟨y, hy, rfl⟩ := List.mem_map.1 hp
                              show y.f1.data.toList.length ≤ _
                              rw [← Lib.size_eq]; exact hbig y hy) _ _ HP.out
                          have hsl : sa.size ≤ 800 := by rw [HLEN.out]; exact hacc
                          have hcat : sa.size + v8.size ≤ 9223372036854775807 := by omega
                          have hcat1 : decide (sa.size + v8.size ≤ 9223372036854775807) = true := decide_eq_true hcat
                          have hcat2 : (9223372036854775807 < sa.size + v8.size) = False := eq_false (Nat.not_lt.2 hcat)
                          go_upto_region 30 with fail
                          obtain ⟨sv, hsv⟩ : ∃ sv, sa ++ v8 = sv := ⟨_, rfl⟩
                          rw [hsv]
                          have hsw : sv = mk (acc ++ v8.data.toList) := by rw [← hsv, ← HSA.out, ← mk_append, mk_of]
                          have hz2 : sv.size = (acc ++ v8.data.toList).length := by rw [hsw, mk_size]
                          clear hsv hcat hcat1 hcat2 hsl
                          by_cases hl : 400 < (acc ++ v8.data.toList).length
                          · have HT := Lib.hid (HIv.out.long HD.out HQ.out HBK.out HP.out hl)
                            have hgt3 : decide ((sv.size : Int) > 400) = true := decide_eq_true (by omega)
                            clear hsw hz2 hl
                            go_wp2
                            go_ret2
                            exact ⟨_, false, rfl, by rw [HT.out]; rfl, HB1.out.trans (HBZ.out.mono HB1.out.size)⟩
                          · have HI2 := Lib.hid (HIv.out.var HD.out HR.out HQ.out HBK.out HP.out hl)
                            have hgt3 : decide ((sv.size : Int) > 400) = false := decide_eq_false (by omega)
                            have HSV := Lib.hid hsw
                            clear hsw hz2 hl
                            go_wp2
                            go_roundw
                            case rel => exact ⟨i + 1 + k, acc ++ v8.data.toList, by rw [HSV.out], by rw [← HRK.out], by have := HRK.out; have := HXL.out; have := HK.out; omega, Lib.hid ⟨HI2.out, HBZ.out⟩⟩
                            case measure => simp [intOf]; have := HRK.out; omega
                      · have HP := Lib.hid (show Sp.putS (Sp.fillS (Back.envOf env) d) (Back.envOf env) ((views r0).take (k - 1)) = some v.data.toList by rw [← HZ.out]; simp [Sp.putS, HAS.out, HLK.out])
                        go_upto_region 24 with (first
                          | (go_at_call 18; refine (PVarFills.clerestoryref2_VarValue.calls (env.length + 1) Av cv env y2 v true _ (Kd.C_below HE.out (HB1.out.trans (HB5.out.mono HB1.out.size))) hcv HC3.out).mono ?_; rintro e w6 ⟨rfl, hb0⟩; have hb := hb0.below; have HBZ := Lib.hid (HB5.out.trans (hb.mono HB5.out.size)); clear hb hb0))
                        have hvz : v.size ≤ 140737488351232 := by
                          rw [Lib.size_eq]
                          exact Toks.putS_le _ _ 140737488351232 (by omega) (fun s' v' h' => Toks.fillS_le _ _ _ _ h') (fun p hp => by
                            obtain ⟨y, hy, rfl⟩ := List.mem_map.1 hp
                            show y.f1.data.toList.length ≤ _
                            rw [← Lib.size_eq]; exact hbig y hy) _ _ HP.out
                        have hsl : sa.size ≤ 800 := by rw [HLEN.out]; exact hacc
                        have hcat : sa.size + v.size ≤ 9223372036854775807 := by omega
                        have hcat1 : decide (sa.size + v.size ≤ 9223372036854775807) = true := decide_eq_true hcat
                        have hcat2 : (9223372036854775807 < sa.size + v.size) = False := eq_false (Nat.not_lt.2 hcat)
                        go_upto_region 30 with fail
                        obtain ⟨sv, hsv⟩ : ∃ sv, sa ++ v = sv := ⟨_, rfl⟩
                        rw [hsv]
                        have hsw : sv = mk (acc ++ v.data.toList) := by rw [← hsv, ← HSA.out, ← mk_append, mk_of]
                        have hz2 : sv.size = (acc ++ v.data.toList).length := by rw [hsw, mk_size]
                        clear hsv hcat hcat1 hcat2 hsl
                        by_cases hl : 400 < (acc ++ v.data.toList).length
                        · have HT := Lib.hid (HIv.out.long HD.out HQ.out HBK.out HP.out hl)
                          have hgt3 : decide ((sv.size : Int) > 400) = true := decide_eq_true (by omega)
                          clear hsw hz2 hl
                          go_wp2
                          go_ret2
                          exact ⟨_, false, rfl, by rw [HT.out]; rfl, HB1.out.trans (HBZ.out.mono HB1.out.size)⟩
                        · have HI2 := Lib.hid (HIv.out.var HD.out HR.out HQ.out HBK.out HP.out hl)
                          have hgt3 : decide ((sv.size : Int) > 400) = false := decide_eq_false (by omega)
                          have HSV := Lib.hid hsw
                          clear hsw hz2 hl
                          go_wp2
                          go_roundw
                          case rel => exact ⟨i + 1 + k, acc ++ v.data.toList, by rw [HSV.out], by rw [← HRK.out], by have := HRK.out; have := HXL.out; have := HK.out; omega, Lib.hid ⟨HI2.out, HBZ.out⟩⟩
                          case measure => simp [intOf]; have := HRK.out; omega
                    · have hc1 : (z1.toList != ([44] : List UInt8)) = true := by rw [ByteArray.toList_eq]; exact bne_iff_ne.2 hc44
                      have hc0 : (z1.toList == ([44] : List UInt8)) = false := by rw [ByteArray.toList_eq]; exact beq_eq_false_iff_ne.2 hc44
                      have HP := Lib.hid (show Sp.putS (Sp.fillS (Back.envOf env) d) (Back.envOf env) ((views r0).take (k - 1)) = none by rw [← HZ.out]; simp [Sp.putS, HK5.out hc44])
                      clear hc44
                      have HT := Lib.hid (HIv.out.unput HD.out HQ.out HBK.out HP.out)
                      go_wp2
                      go_ret2
                      exact ⟨_, false, rfl, by rw [HT.out]; rfl, HB1.out.trans (HB5.out.mono HB1.out.size)⟩
                  · have hq2 : ((j2 : Int) == (zs.length : Int)) = true := beq_iff_eq.2 (by omega)
                    have hq3 : decide ((j2 : Int) < (zs.length : Int)) = false := decide_eq_false (by omega)
                    have HAS := Lib.hid (HK2.out j2 HKK.out HD2'.out (by omega))
                    clear HK2 HK3 HK4
                    cases b
                    · have HP := Lib.hid (show Sp.putS (Sp.fillS (Back.envOf env) d) (Back.envOf env) ((views r0).take (k - 1)) = none by rw [← HZ.out]; simp [Sp.putS, HAS.out, HLK.out])
                      go_upto_region 22 with (first
                        | (go_at_call 18; refine (PVarFills.clerestoryref2_VarValue.calls (env.length + 1) Av cv env y2 v false _ (Kd.C_below HE.out (HB1.out.trans (HB5.out.mono HB1.out.size))) hcv HC3.out).mono ?_; rintro e w6 ⟨rfl, hb0⟩; have hb := hb0.below; have HBZ := Lib.hid (HB5.out.trans (hb.mono HB5.out.size)); clear hb hb0))
                      have HT := Lib.hid (HIv.out.unput HD.out HQ.out HBK.out HP.out)
                      go_wp2
                      go_ret2
                      exact ⟨_, false, rfl, by rw [HT.out]; rfl, HB1.out.trans (HBZ.out.mono HB1.out.size)⟩
                    · have HP := Lib.hid (show Sp.putS (Sp.fillS (Back.envOf env) d) (Back.envOf env) ((views r0).take (k - 1)) = some v.data.toList by rw [← HZ.out]; simp [Sp.putS, HAS.out, HLK.out])
                      go_upto_region 24 with (first
                        | (go_at_call 18; refine (PVarFills.clerestoryref2_VarValue.calls (env.length + 1) Av cv env y2 v true _ (Kd.C_below HE.out (HB1.out.trans (HB5.out.mono HB1.out.size))) hcv HC3.out).mono ?_; rintro e w6 ⟨rfl, hb0⟩; have hb := hb0.below; have HBZ := Lib.hid (HB5.out.trans (hb.mono HB5.out.size)); clear hb hb0))
                      have hvz : v.size ≤ 140737488351232 := by
                        rw [Lib.size_eq]
                        exact Toks.putS_le _ _ 140737488351232 (by omega) (fun s' v' h' => Toks.fillS_le _ _ _ _ h') (fun p hp => by
                          obtain ⟨y, hy, rfl⟩ := List.mem_map.1 hp
                          show y.f1.data.toList.length ≤ _
                          rw [← Lib.size_eq]; exact hbig y hy) _ _ HP.out
                      have hsl : sa.size ≤ 800 := by rw [HLEN.out]; exact hacc
                      have hcat : sa.size + v.size ≤ 9223372036854775807 := by omega
                      have hcat1 : decide (sa.size + v.size ≤ 9223372036854775807) = true := decide_eq_true hcat
                      have hcat2 : (9223372036854775807 < sa.size + v.size) = False := eq_false (Nat.not_lt.2 hcat)
                      go_upto_region 30 with fail
                      obtain ⟨sv, hsv⟩ : ∃ sv, sa ++ v = sv := ⟨_, rfl⟩
                      rw [hsv]
                      have hsw : sv = mk (acc ++ v.data.toList) := by rw [← hsv, ← HSA.out, ← mk_append, mk_of]
                      have hz2 : sv.size = (acc ++ v.data.toList).length := by rw [hsw, mk_size]
                      clear hsv hcat hcat1 hcat2 hsl
                      by_cases hl : 400 < (acc ++ v.data.toList).length
                      · have HT := Lib.hid (HIv.out.long HD.out HQ.out HBK.out HP.out hl)
                        have hgt3 : decide ((sv.size : Int) > 400) = true := decide_eq_true (by omega)
                        clear hsw hz2 hl
                        go_wp2
                        go_ret2
                        exact ⟨_, false, rfl, by rw [HT.out]; rfl, HB1.out.trans (HBZ.out.mono HB1.out.size)⟩
                      · have HI2 := Lib.hid (HIv.out.var HD.out HR.out HQ.out HBK.out HP.out hl)
                        have hgt3 : decide ((sv.size : Int) > 400) = false := decide_eq_false (by omega)
                        have HSV := Lib.hid hsw
                        clear hsw hz2 hl
                        go_wp2
                        go_roundw
                        case rel => exact ⟨i + 1 + k, acc ++ v.data.toList, by rw [HSV.out], by rw [← HRK.out], by have := HRK.out; have := HXL.out; have := HK.out; omega, Lib.hid ⟨HI2.out, HBZ.out⟩⟩
                        case measure => simp [intOf]; have := HRK.out; omega
                · have hk1 : (y0 != 1) = true := bne_iff_ne.2 hk
                  have HP := Lib.hid (show Sp.putS (Sp.fillS (Back.envOf env) d) (Back.envOf env) ((views r0).take (k - 1)) = none by rw [← HZ.out]; simp [Sp.putS, HK1.out hk])
                  clear hk
                  have HT := Lib.hid (HIv.out.unput HD.out HQ.out HBK.out HP.out)
                  go_wp2
                  go_ret2
                  exact ⟨_, false, rfl, by rw [HT.out]; rfl, HB1.out.trans (HB4.out.mono HB1.out.size)⟩
              · have hq1 : ((j1 : Int) == (zs.length : Int)) = true := beq_iff_eq.2 (by omega)
                have HP := Lib.hid (show Sp.putS (Sp.fillS (Back.envOf env) d) (Back.envOf env) ((views r0).take (k - 1)) = none by rw [← HZ.out]; simp [Sp.putS, RefK.asked_end zs j1 HD1.out (by omega)])
                have HT := Lib.hid (HIv.out.unput HD.out HQ.out HBK.out HP.out)
                go_wp2
                go_ret2
                exact ⟨_, false, rfl, by rw [HT.out]; rfl, HB1.out.trans (HB4.out.mono HB1.out.size)⟩
        · obtain rfl : i = xs.length := by omega
          have HT := Lib.hid (show tgt = if 400 < acc.length then none else some acc from Toks.Inv.stop (by rw [views_length]; exact HIv.out))
          obtain ⟨sa, hsa⟩ : ∃ sa, mk acc = sa := ⟨_, rfl⟩
          have hsl : sa.size = acc.length := by rw [← hsa, mk_size]
          have HSA := Lib.hid hsa
          have HSL := Lib.hid hsl
          rw [hsa]
          clear hsa hsl
          obtain ⟨bl, hbl⟩ : ∃ bl, decide ((sa.size : Int) ≤ 400) = bl := ⟨_, rfl⟩
          have HBL := Lib.hid hbl
          go_wp2
          go_ret2
          refine ⟨sa, bl, rfl, ?_, HB1.out.trans (HBw.out.mono HB1.out.size)⟩
          rw [HT.out, ← HBL.out, ← HSL.out]
          by_cases h4 : 400 < sa.size
          · rw [if_pos h4, decide_eq_false (by omega)]; rfl
          · rw [if_neg h4, decide_eq_true (by omega), ← HSA.out]; rfl

end RefJ
end Go.Proofs.YtdjifjnophcnlaaDoor

namespace Go.Proofs.YtdjifjnophcnlaaDoor
open Go.RowKit Go.Proofs.YtdjifjnophcnlaaDoorW.PrintWords Go.Proofs.YtdjifjnophcnlaaDoorW.PrintLast Go.Proofs.YtdjifjnophcnlaaDoorW.PrintMore
open PVarFills (S37 S28 k37 k28)
namespace Law

/-- The example's pair. -/
def exPair : S28 := ⟨⟨#[45, 45, 120]⟩, ⟨#[99]⟩⟩
def exText : ByteArray := ⟨#[97, 32, 118, 97, 114, 40, 45, 45, 120, 44, 32, 98, 41]⟩
theorem ex_fills : Sp.fillS (Back.envOf [exPair]) 14 exText.data.toList = some [97, 32, 99] := by decide +kernel

theorem pair_row (w : World) : Kd.C k28 (w.alloc (.cells #[.string ⟨#[45, 45, 120]⟩, .string ⟨#[99]⟩] 28)) (some ⟨w.heap.size, 0, none⟩) 1 [exPair] := by
  refine ⟨rfl, by omega, fun _ => ⟨_, rfl, fun j p hj => ?_⟩⟩
  rcases j with _ | j
  · obtain rfl : exPair = p := by simpa using hj
    refine ⟨_, rfl, PVarFills.k28_mk _ exPair, fun i u hu => ?_⟩
    rcases i with _ | _ | i
    · obtain rfl : Value.string exPair.f0 = u := by simpa using hu
      unfold World.cell?
      rw [show (Addr.add ⟨w.heap.size, 0, none⟩ _).block = w.heap.size from rfl, heap_alloc_new]; rfl
    · obtain rfl : Value.string exPair.f1 = u := by simpa using hu
      unfold World.cell?
      rw [show (Addr.add ⟨w.heap.size, 0, none⟩ _).block = w.heap.size from rfl, heap_alloc_new]; rfl
    · simp at hu
  · simp at hj

set_option maxHeartbeats 1000000 in
set_option maxRecDepth 100000 in
/-- The set example. -/
theorem put_law (w : World) (hL : Laid w) : Calls Tryd.prog 4 #[] w fun e w' => e = .returned (.bool true) ∧ Below w.heap.size w w' := by
  have HB := Lib.hid ((Below.refl w.heap.size w).alloc (Nat.le_refl _) (.cells #[.string ⟨#[45, 45, 120]⟩, .string ⟨#[99]⟩] 28))
  have HL := Lib.hid (hL.below HB.out)
  have CF := Lib.hid (fun cv => Fill.fill_any (some ⟨w.heap.size, 0, none⟩) cv [exPair] (fun x hx => by obtain rfl := List.mem_singleton.1 hx; decide) 14 exText _ (by decide) HL.out (pair_row w))
  rw [ex_fills] at CF
  clear hL
  go_enter Tryd.func4, Tryd.ntmps4
  go_wp2_with (first
    | (go_at_call 5; refine (CF.out _).mono ?_; rintro e w1 ⟨v, b, rfl, ho, hv, hb⟩; have HO := Lib.hid ho; have HB1 := Lib.hid (HB.out.trans (hb.mono HB.out.size)); clear hb ho hv; cases b))
  · exact absurd HO.out (by simp)
  · obtain rfl : v = ⟨#[97, 32, 99]⟩ := Back.eq_bytes (Option.some.inj HO.out).symm
    go_wp2
    go_ret
    exact ⟨rfl, HB1.out⟩

/-- Both answers are one. -/
theorem joined {o : Option Sp.By} {v v' : ByteArray} {b b' : Bool} (h : o = (if b then some v.data.toList else none)) (hv : b = false → v = ⟨#[]⟩) (h' : o = (if b' then some v'.data.toList else none)) :
    (b = false ∧ b' = false ∧ v = ⟨#[]⟩) ∨ (b = true ∧ b' = true ∧ v = v') := by
  rw [h] at h'
  cases b <;> cases b'
  · exact .inl ⟨rfl, rfl, hv rfl⟩
  · exact absurd h' (by simp)
  · exact absurd h' (by simp)
  · exact .inr ⟨rfl, rfl, Back.eq_bytes (Option.some.inj h')⟩

set_option maxHeartbeats 1000000 in
set_option maxRecDepth 100000 in
/-- VarFills: true. -/
theorem varFills_law (Av : Option Addr) (cv : Nat) (env : List S28) (hcv : env.length ≤ cv) (hel : env.length ≤ 9223372036854775807) (hbig : ∀ x ∈ env, x.f1.size ≤ 140737488351232) (s : ByteArray) (w : World) (hL : Laid w) (hE : Kd.C k28 w Av env.length env) :
    Calls Tryd.prog 3 #[.string s, .slice Av env.length cv] w fun e w' => e = .returned (.bool true) ∧ Below w.heap.size w w' := by
  have HL := Lib.hid hL
  have HE := Lib.hid hE
  have CF := Lib.hid (fun w hL hE => Fill.fill_any Av cv env hbig (s.size + 1) s w (Nat.lt_succ_self _) hL hE)
  have CR := Lib.hid (fun w hE => RefJ.fillOf_any Av cv env hcv hel hbig (s.size + 1) s w (Nat.lt_succ_self _) hE)
  obtain ⟨o, ho⟩ : ∃ o, Sp.fillS (Back.envOf env) (s.size + 1) s.data.toList = o := ⟨_, rfl⟩
  rw [ho] at CF CR
  clear ho hL hE
  go_enter Tryd.func3, Tryd.ntmps3
  go_wp2_with (first
    | (go_at_call 4; refine (put_law _ HL.out).mono ?_; rintro e w1 ⟨rfl, hb⟩; have HB1 := Lib.hid hb; clear hb)
    | (go_at_call 5; refine (CF.out _ (HL.out.below HB1.out) (Kd.C_below HE.out HB1.out)).mono ?_; rintro e w2 ⟨v, b, rfl, ho, hv, hb⟩; have HO := Lib.hid ho; have HV := Lib.hid hv; have HB2 := Lib.hid (HB1.out.trans (hb.mono HB1.out.size)); clear hb ho hv)
    | (go_at_call 6; refine (CR.out _ (Kd.C_below HE.out HB2.out)).mono ?_; rintro e w3 ⟨v', b', rfl, ho, hb⟩; have HJ := Lib.hid (joined HO.out HV.out ho); have HB3 := Lib.hid (HB2.out.trans (hb.mono HB2.out.size)); clear HO HV hb ho; rcases HJ.out with ⟨rfl, rfl, rfl⟩ | ⟨rfl, rfl, rfl⟩))
  all_goals (go_ret; exact ⟨by first | rfl | simp, HB3.out⟩)

end Law
end Go.Proofs.YtdjifjnophcnlaaDoor
