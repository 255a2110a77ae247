/-
  The reference's TokenAt (package 2): the first token of a text that is not empty. Conditions: texts of at most 400 bytes.
-/
import Derived.Test.YtdjifjnophcnlaaDoorRefG
set_option linter.unusedVariables false
set_option linter.unusedSimpArgs false
namespace Go.Proofs.YtdjifjnophcnlaaDoor.RefH
open Go.RowKit Go.Proofs.YtdjifjnophcnlaaDoorW.PrintWords Go.Proofs.YtdjifjnophcnlaaDoorW.PrintLast Go.Proofs.YtdjifjnophcnlaaDoorW.PrintMore
open RefA

/-- The result's cells, all below as it was. -/
def St (w wr : World) : Prop := Tok.At wr w.heap.size (.int .i64 0) (.string ⟨#[]⟩) (.string ⟨#[]⟩) (.int .i64 0) ∧ Below w.heap.size w wr
theorem St.start (w : World) : St w (w.alloc (.cells #[.int .i64 0, .string ⟨#[]⟩, .string ⟨#[]⟩, .int .i64 0] 37)) :=
  ⟨Tok.At.new w _ _ _ _, (Below.refl _ _).alloc (Nat.le_refl _) _⟩
theorem St.step {w wr w2 : World} (h : St w wr) (hb : Below wr.heap.size wr w2) : St w w2 := ⟨h.1.below hb h.1.lt, h.2.trans (hb.mono h.2.size)⟩

/-- The end of every way. -/
theorem done {w wr : World} (h : St w wr) {t : Sp.T} {v0 v1 v2 v3 : Value} {nn : Int} (h0 : v0 = .int .i64 t.k) (h1 : v1 = .string ⟨t.raw.toArray⟩) (h2 : v2 = .string ⟨t.val.toArray⟩) (h3 : v3 = .int .i64 nn) {a : Act} {fn : Func} {p : Tmp} (hf : fn.results = #[.cell p 37])
    (hp : a.tmps.getD p undef = .pointer (some ⟨w.heap.size, 0, none⟩)) (hd : a.defers = []) :
    bodyPost Tryd.prog fn (TokPost t w) .ret a ((((wr.setCell ⟨w.heap.size, 0, none⟩ v0).setCell ⟨w.heap.size, 1, none⟩ v1).setCell ⟨w.heap.size, 2, none⟩ v2).setCell ⟨w.heap.size, 3, none⟩ v3) := by
  subst h0 h1 h2 h3
  exact Tok.ret hf hp ((((h.1.set0 _).set1 _).set2 _).set3 _) hd ⟨nn, rfl, ((((h.2.setCell (Nat.le_refl _) _).setCell (Nat.le_refl _) _).setCell (Nat.le_refl _) _).setCell (Nat.le_refl _) _)⟩

theorem numLen_ne {c : UInt8} {r : Sp.By} (h : 0 < Sp.numLen (c :: r)) : c ≠ 35 ∧ c ≠ 64 := by
  have key : ∀ d : UInt8, Sp.dig d = false → (d == 43 || d == 45) = false → d ≠ 46 → Sp.numLen (d :: r) = 0 := fun d h1 h2 h3 => by
    have hf : Sp.from_ (d :: r) = 0 := by simp only [Sp.from_]; rw [h2]; rfl
    have hw : Sp.whole (d :: r) = 0 := by unfold Sp.whole; rw [hf, List.drop_zero]; exact RefC.digs_no h1
    have hb : Sp.behind (d :: r) = 0 := by
      unfold Sp.behind; rw [hf, hw]; simp only [Nat.add_zero, List.drop_zero, Sp.dots]
      rw [show (d == 46) = false from beq_eq_false_iff_ne.2 h3]; rfl
    unfold Sp.numLen
    rw [hw, hb]; rfl
  refine ⟨fun e => ?_, fun e => ?_⟩
  · rw [e, key 35 (by decide) (by decide) (by decide)] at h; omega
  · rw [e, key 64 (by decide) (by decide) (by decide)] at h; omega

set_option maxHeartbeats 8000000 in
set_option maxRecDepth 100000 in
/-- TokenAt. -/
theorem tokenAt_any (s : ByteArray) (w : World) (h0 : 0 < s.size) (hm : s.size ≤ 400) : Calls Tryd.prog 27 #[.string s] w (TokPost (Sp.tk s.data.toList) w) := by
  obtain ⟨c, r, hc0, hl⟩ := Leaf.first_of s h0
  have HL := Lib.hid hl
  have HS0 := Lib.hid (St.start w)
  have HBK := Lib.hid (blank_eq c)
  rcases hbl : Sp.blank c with _ | _
  · have HBL := Lib.hid hbl
    rw [hbl] at HBK
    clear hbl hl
    go_enter Tryd.func27, Tryd.ntmps27
    go_upto_region 7 with (first
      | (go_at_call 50; refine (PVarFills.clerestoryref2_Blank.calls (c.toNat : Int) false _ HBK.out).mono ?_; rintro e w2 ⟨rfl, hb⟩; have HS2 := Lib.hid (HS0.out.step hb.below); clear hb))
    -- a remark?
    go_cut [40] (fun v40 wc => v40 = .bool (c == 47 && r.head? == some 42) ∧ Hid (St w wc))
    case first =>
      by_cases h47 : c = 47
      · have hb47 : ((c.toNat : Int) == 47) = true := by rw [h47]; rfl
        have hat := at_eq s 1
        rw [HL.out, List.drop_succ_cons, List.drop_zero] at hat
        obtain ⟨b1, hb1⟩ : ∃ b1, byteAt r = b1 := ⟨_, rfl⟩
        rw [hb1] at hat
        have HAT := Lib.hid (show PVarFills.clerestoryref2_at.f s 1 = some b1 from hat)
        have HV := Lib.hid (show (b1 == 42) = (c == 47 && r.head? == some 42) by
          rw [h47, ← hb1]
          cases r with
          | nil => rfl
          | cons a r =>
            show (((a.toNat : Int) == 42) : Bool) = (true && (some a == some 42))
            rw [Bool.true_and]
            by_cases h : a = 42
            · rw [h]; rfl
            · rw [show (((a.toNat : Int) == 42) : Bool) = false from beq_eq_false_iff_ne.2 (fun e => h (u8_eq (d := 42) e))]
              simp [h])
        clear hat hb1 h47
        go_wp2_with (first
          | (go_at_call 51; refine (PVarFills.clerestoryref2_at.calls s 1 b1 _ HAT.out).mono ?_; rintro e w3 ⟨rfl, hb⟩; have HS3 := Lib.hid (HS2.out.step hb.below); clear hb))
        go_meet
        exact ⟨by rw [HV.out], HS3⟩
      · have hb47 : ((c.toNat : Int) == 47) = false := beq_eq_false_iff_ne.2 (fun e => h47 (u8_eq (d := 47) e))
        have HV := Lib.hid (show (c == 47 && r.head? == some 42) = false by rw [show (c == 47) = false from beq_eq_false_iff_ne.2 h47]; rfl)
        clear h47
        go_wp2
        go_meet
        exact ⟨by rw [HV.out], HS2⟩
    case rest =>
      obtain ⟨rfl, HS3⟩ := hcut
      obtain ⟨w3, rfl⟩ : ∃ w3 : World, w3 = wc := ⟨_, rfl⟩
      clear HS2 HS0 HBK
      have hrem := Tk.remark c r
      rcases hnote : (c == 47 && r.head? == some 42) with _ | _
      · rw [hnote] at hrem
        -- a quoted text?
        by_cases h2 : c = 39 ∨ c = 34
        · have HT := Lib.hid (show Sp.tk s.data.toList = Sp.textTok c r by rw [HL.out]; exact Tk.tk_text HBL.out hrem h2)
          have h10 : c ≠ 10 := by rcases h2 with e | e <;> rw [e] <;> decide
          have HX := Lib.hid (RefB.text_eq s hm c r HL.out h10)
          obtain ⟨t, ht⟩ : ∃ t, Sp.textTok c r = t := ⟨_, rfl⟩
          rw [ht] at HT HX
          have hb39 : ∃ a b : Bool, ((c.toNat : Int) == 39) = a ∧ ((c.toNat : Int) == 34) = b ∧ (a = true ∨ (a = false ∧ b = true)) := by
            refine ⟨_, _, rfl, rfl, ?_⟩
            rcases h2 with e | e
            · left; rw [e]; rfl
            · right; rw [e]; exact ⟨rfl, rfl⟩
          obtain ⟨a39, a34, e39, e34, hor⟩ := hb39
          clear hrem hnote h2 h10 ht
          rcases hor with e | ⟨e, e'⟩
          · subst e
            go_wp2_with (first
              | (go_at_call 53; refine (PVarFills.clerestoryref2_textAt.calls 802 s t.k (mk t.raw) (mk t.val) 0 _ HX.out).mono ?_; rintro e w4 ⟨rfl, hb⟩; have HS4 := Lib.hid (HS3.out.step hb); clear hb; obtain ⟨⟨r0, r1, r2, r3⟩, q0, q1, q2, q3⟩ := HS4.out.1.cells))
            refine done (nn := 0) HS4.out ?_ ?_ ?_ rfl rfl rfl rfl <;> rw [HT.out]
          · subst e; subst e'
            go_wp2_with (first
              | (go_at_call 53; refine (PVarFills.clerestoryref2_textAt.calls 802 s t.k (mk t.raw) (mk t.val) 0 _ HX.out).mono ?_; rintro e w4 ⟨rfl, hb⟩; have HS4 := Lib.hid (HS3.out.step hb); clear hb; obtain ⟨⟨r0, r1, r2, r3⟩, q0, q1, q2, q3⟩ := HS4.out.1.cells))
            refine done (nn := 0) HS4.out ?_ ?_ ?_ rfl rfl rfl rfl <;> rw [HT.out]
        · have hb39 : ((c.toNat : Int) == 39) = false := beq_eq_false_iff_ne.2 (fun e => h2 (.inl (u8_eq (d := 39) e)))
          have hb34 : ((c.toNat : Int) == 34) = false := beq_eq_false_iff_ne.2 (fun e => h2 (.inr (u8_eq (d := 34) e)))
          obtain ⟨num, hnum⟩ := RefC.number_eq s hm h0
          have HN := Lib.hid hnum
          have hnle := Tk.numLen_le s.data.toList
          rw [← Lib.size_eq] at hnle
          obtain ⟨nl, hnl⟩ : ∃ nl, Sp.numLen s.data.toList = nl := ⟨_, rfl⟩
          rw [hnl] at HN hnle
          have HNL := Lib.hid hnl
          have HP := Lib.hid (And.intro hrem h2)
          clear hnum hnl hrem h2 hnote
          by_cases h5 : 0 < nl
          · have hgt : decide ((nl : Int) > 0) = true := decide_eq_true (by omega)
            have HT := Lib.hid (show Sp.tk s.data.toList = Num.numTokN s.data.toList nl by
              have h6 : 0 < Sp.numLen (c :: r) := by rw [← HL.out, HNL.out]; exact h5
              rw [← HNL.out, ← Num.numTok_eq, HL.out]
              exact Tk.tk_num HBL.out HP.out.1 HP.out.2 (fun h => (numLen_ne h6).1 h.1) (fun h => (numLen_ne h6).2 h.1) h6)
            go_wp2_with (first
              | (go_at_call 54; refine (PVarFills.clerestoryref2_NumberAt.calls 2000 s num (nl : Int) _ HN.out).mono ?_; rintro e w4 ⟨rfl, hb⟩; have HS4 := Lib.hid (HS3.out.step hb); clear hb)
              | (go_at_call 55; refine (RefF.numAt_any s num nl _ hm hnle).mono ?_; rintro e w5 ⟨nn, rfl, hb⟩; have HS5 := Lib.hid (HS4.out.step hb); clear hb; obtain ⟨⟨r0, r1, r2, r3⟩, q0, q1, q2, q3⟩ := HS5.out.1.cells))
            refine done (nn := nn) HS5.out ?_ ?_ ?_ rfl rfl rfl rfl <;> rw [HT.out]
          · have hgt : decide ((nl : Int) > 0) = false := decide_eq_false (by omega)
            have H5 := Lib.hid (show ¬ 0 < Sp.numLen (c :: r) by rw [← HL.out, HNL.out]; exact h5)
            go_upto_region 14 with (first
              | (go_at_call 54; refine (PVarFills.clerestoryref2_NumberAt.calls 2000 s num (nl : Int) _ HN.out).mono ?_; rintro e w4 ⟨rfl, hb⟩; have HS4 := Lib.hid (HS3.out.step hb); clear hb))
            clear h5 hgt HN hnle HNL HS3
            -- a hash?
            go_cut [77] (fun v77 wc => v77 = .bool (c == 35 && Sp.hashed r) ∧ Hid (St w wc))
            case first =>
              by_cases h35 : c = 35
              · have hb35 : ((c.toNat : Int) == 35) = true := by rw [h35]; rfl
                have hat := at_eq s 1
                rw [HL.out, List.drop_succ_cons, List.drop_zero] at hat
                have hesc := escape_eq s hm 1 (by omega)
                rw [HL.out, List.drop_succ_cons, List.drop_zero] at hesc
                have hsz : s.size = r.length + 1 := by rw [Lib.size_eq, HL.out]; rfl
                obtain ⟨b1, hb1⟩ : ∃ b1, byteAt r = b1 := ⟨_, rfl⟩
                obtain ⟨sg, hsg, hlen, hha⟩ : ∃ sg, PVarFills.clerestoryref2_named.f b1 = some sg ∧ (sg = true → 1 < s.size) ∧ Sp.hashed r = (sg || Sp.esc r) := by
                  rw [← hb1]
                  cases r with
                  | nil => exact ⟨false, named_eq 0, (fun h => nomatch h), rfl⟩
                  | cons d r => exact ⟨Sp.sgn d, named_eq d, fun _ => by rw [hsz]; simp, rfl⟩
                rw [hb1] at hat
                have HAT := Lib.hid (show PVarFills.clerestoryref2_at.f s 1 = some b1 from hat)
                obtain ⟨es, hes⟩ : ∃ es, Sp.esc r = es := ⟨_, rfl⟩
                rw [hes] at hesc hha
                have HES := Lib.hid (show PVarFills.clerestoryref2_escape.f s 1 = some es from hesc)
                have HV := Lib.hid (show (c == 35 && Sp.hashed r) = (sg || es) by rw [h35, hha]; rfl)
                have HSG := Lib.hid hsg
                clear hat hesc hsz hb1 hsg hha hes h35
                cases sg
                · clear hlen
                  go_wp2_with (first
                    | (go_at_call 51; refine (PVarFills.clerestoryref2_at.calls s 1 b1 _ HAT.out).mono ?_; rintro e w5 ⟨rfl, hb⟩; have HS5 := Lib.hid (HS4.out.step hb.below); clear hb)
                    | (go_at_call 56; refine (PVarFills.clerestoryref2_named.calls b1 false _ HSG.out).mono ?_; rintro e w6 ⟨rfl, hb⟩; have HS6 := Lib.hid (HS5.out.step hb.below); clear hb)
                    | (go_at_call 57; refine (PVarFills.clerestoryref2_escape.calls s 1 es _ HES.out).mono ?_; rintro e w7 ⟨rfl, hb⟩; have HS7 := Lib.hid (HS6.out.step hb.below); clear hb))
                  go_meet
                  exact ⟨by rw [HV.out]; rfl, HS7⟩
                · have hlen1 : 1 < s.size := hlen rfl
                  have hgt1 : decide ((s.size : Int) > 1) = true := decide_eq_true (by omega)
                  clear hlen
                  go_wp2_with (first
                    | (go_at_call 51; refine (PVarFills.clerestoryref2_at.calls s 1 b1 _ HAT.out).mono ?_; rintro e w5 ⟨rfl, hb⟩; have HS5 := Lib.hid (HS4.out.step hb.below); clear hb)
                    | (go_at_call 56; refine (PVarFills.clerestoryref2_named.calls b1 true _ HSG.out).mono ?_; rintro e w6 ⟨rfl, hb⟩; have HS6 := Lib.hid (HS5.out.step hb.below); clear hb))
                  go_meet
                  exact ⟨by rw [HV.out]; rfl, HS6⟩
              · have hb35 : ((c.toNat : Int) == 35) = false := beq_eq_false_iff_ne.2 (fun e => h35 (u8_eq (d := 35) e))
                have HV := Lib.hid (show (c == 35 && Sp.hashed r) = false by rw [show (c == 35) = false from beq_eq_false_iff_ne.2 h35]; rfl)
                clear h35
                go_wp2
                go_meet
                exact ⟨by rw [HV.out], HS4⟩
            case rest =>
              obtain ⟨rfl, HS5⟩ := hcut
              obtain ⟨w5, rfl⟩ : ∃ w5 : World, w5 = wc := ⟨_, rfl⟩
              clear HS4
              have hsz : s.size = r.length + 1 := by rw [Lib.size_eq, HL.out]; rfl
              have hsd := said_eq s hm 1 (by omega)
              have hbg := begins_eq s hm 1 (by omega)
              rw [HL.out, List.drop_succ_cons, List.drop_zero] at hsd hbg
              have HSD := Lib.hid (show PVarFills.clerestoryref2_said.f 802 s 1 = _ from hsd)
              have HBG := Lib.hid (show PVarFills.clerestoryref2_begins.f s 1 = _ from hbg)
              have hnr := (Named.nam_le r).1
              obtain ⟨k, hk⟩ : ∃ k, 1 + (Sp.nam r).2 = k := ⟨_, rfl⟩
              rw [hk] at HSD
              have hks : k ≤ s.size := by omega
              have HK := Lib.hid hk
              clear hsz hsd hbg hnr hk
              rcases hhash : (c == 35 && Sp.hashed r) with _ | _
              · have H3 := Lib.hid (show ¬ (c = 35 ∧ Sp.hashed r = true) from fun h => by rw [h.1, h.2] at hhash; cases hhash)
                clear hhash
                go_upto_region 17 with (fail)
                -- an at-word?
                go_cut [93] (fun v93 wc => v93 = .bool (c == 64 && Sp.beg r) ∧ Hid (St w wc))
                case first =>
                  by_cases h64 : c = 64
                  · have hb64 : ((c.toNat : Int) == 64) = true := by rw [h64]; rfl
                    obtain ⟨bg, hbg⟩ : ∃ bg, Sp.beg r = bg := ⟨_, rfl⟩
                    rw [hbg] at HBG
                    have HV := Lib.hid (show (c == 64 && Sp.beg r) = bg by rw [h64, hbg]; rfl)
                    clear hbg h64
                    go_wp2_with (first
                      | (go_at_call 59; refine (PVarFills.clerestoryref2_begins.calls s 1 bg _ HBG.out).mono ?_; rintro e w6 ⟨rfl, hb⟩; have HS6 := Lib.hid (HS5.out.step hb.below); clear hb))
                    go_meet
                    exact ⟨by rw [HV.out], HS6⟩
                  · have hb64 : ((c.toNat : Int) == 64) = false := beq_eq_false_iff_ne.2 (fun e => h64 (u8_eq (d := 64) e))
                    have HV := Lib.hid (show (c == 64 && Sp.beg r) = false by rw [show (c == 64) = false from beq_eq_false_iff_ne.2 h64]; rfl)
                    clear h64
                    go_wp2
                    go_meet
                    exact ⟨by rw [HV.out], HS5⟩
                case rest =>
                  obtain ⟨rfl, HS6⟩ := hcut
                  obtain ⟨w6, rfl⟩ : ∃ w6 : World, w6 = wc := ⟨_, rfl⟩
                  clear HS5 HBG
                  rcases hatw : (c == 64 && Sp.beg r) with _ | _
                  · have H4 := Lib.hid (show ¬ (c = 64 ∧ Sp.beg r = true) from fun h => by rw [h.1, h.2] at hatw; cases hatw)
                    clear hatw
                    have hb0 := begins_eq s hm 0 (by omega)
                    rw [List.drop_zero, HL.out] at hb0
                    rcases hbeg : Sp.beg (c :: r) with _ | _
                    · rw [hbeg] at hb0
                      have HB0 := Lib.hid (show PVarFills.clerestoryref2_begins.f s 0 = some false from hb0)
                      have HONE := Lib.hid (show Sp.tk s.data.toList = ⟨Sp.one c, s.data.toList.take 1, []⟩ by
                        rw [HL.out, Tk.tk_one HBL.out HP.out.1 HP.out.2 H3.out H4.out H5.out hbeg])
                      clear hb0 hbeg
                      by_cases h40 : c = 40
                      · have HT := Lib.hid (show Sp.tk s.data.toList = ⟨10, s.data.toList.take 1, []⟩ by rw [HONE.out, h40]; rfl)
                        have e40 : ((c.toNat : Int) == 40) = true := by rw [h40]; rfl
                        have e91 : ((c.toNat : Int) == 91) = false := by rw [h40]; rfl
                        have e123 : ((c.toNat : Int) == 123) = false := by rw [h40]; rfl
                        have e41 : ((c.toNat : Int) == 41) = false := by rw [h40]; rfl
                        have e93 : ((c.toNat : Int) == 93) = false := by rw [h40]; rfl
                        have e125 : ((c.toNat : Int) == 125) = false := by rw [h40]; rfl
                        have e92 : ((c.toNat : Int) == 92) = false := by rw [h40]; rfl
                        clear h40
                        go_wp2_with (first
                          | (go_at_call 59; refine (PVarFills.clerestoryref2_begins.calls s 0 false _ HB0.out).mono ?_; rintro e w7 ⟨rfl, hb⟩; have HS7 := Lib.hid (HS6.out.step hb.below); clear hb; obtain ⟨⟨r0, r1, r2, r3⟩, q0, q1, q2, q3⟩ := HS7.out.1.cells))
                        refine done (nn := 0) HS7.out ?_ ?_ ?_ rfl rfl rfl rfl <;> rw [HT.out]
                        all_goals (try rw [Lib.extract_upto])
                      by_cases h91 : c = 91
                      · have HT := Lib.hid (show Sp.tk s.data.toList = ⟨10, s.data.toList.take 1, []⟩ by rw [HONE.out, h91]; rfl)
                        have e40 : ((c.toNat : Int) == 40) = false := by rw [h91]; rfl
                        have e91 : ((c.toNat : Int) == 91) = true := by rw [h91]; rfl
                        have e123 : ((c.toNat : Int) == 123) = false := by rw [h91]; rfl
                        have e41 : ((c.toNat : Int) == 41) = false := by rw [h91]; rfl
                        have e93 : ((c.toNat : Int) == 93) = false := by rw [h91]; rfl
                        have e125 : ((c.toNat : Int) == 125) = false := by rw [h91]; rfl
                        have e92 : ((c.toNat : Int) == 92) = false := by rw [h91]; rfl
                        clear h40 h91
                        go_wp2_with (first
                          | (go_at_call 59; refine (PVarFills.clerestoryref2_begins.calls s 0 false _ HB0.out).mono ?_; rintro e w7 ⟨rfl, hb⟩; have HS7 := Lib.hid (HS6.out.step hb.below); clear hb; obtain ⟨⟨r0, r1, r2, r3⟩, q0, q1, q2, q3⟩ := HS7.out.1.cells))
                        refine done (nn := 0) HS7.out ?_ ?_ ?_ rfl rfl rfl rfl <;> rw [HT.out]
                        all_goals (try rw [Lib.extract_upto])
                      by_cases h123 : c = 123
                      · have HT := Lib.hid (show Sp.tk s.data.toList = ⟨10, s.data.toList.take 1, []⟩ by rw [HONE.out, h123]; rfl)
                        have e40 : ((c.toNat : Int) == 40) = false := by rw [h123]; rfl
                        have e91 : ((c.toNat : Int) == 91) = false := by rw [h123]; rfl
                        have e123 : ((c.toNat : Int) == 123) = true := by rw [h123]; rfl
                        have e41 : ((c.toNat : Int) == 41) = false := by rw [h123]; rfl
                        have e93 : ((c.toNat : Int) == 93) = false := by rw [h123]; rfl
                        have e125 : ((c.toNat : Int) == 125) = false := by rw [h123]; rfl
                        have e92 : ((c.toNat : Int) == 92) = false := by rw [h123]; rfl
                        clear h40 h91 h123
                        go_wp2_with (first
                          | (go_at_call 59; refine (PVarFills.clerestoryref2_begins.calls s 0 false _ HB0.out).mono ?_; rintro e w7 ⟨rfl, hb⟩; have HS7 := Lib.hid (HS6.out.step hb.below); clear hb; obtain ⟨⟨r0, r1, r2, r3⟩, q0, q1, q2, q3⟩ := HS7.out.1.cells))
                        refine done (nn := 0) HS7.out ?_ ?_ ?_ rfl rfl rfl rfl <;> rw [HT.out]
                        all_goals (try rw [Lib.extract_upto])
                      by_cases h41 : c = 41
                      · have HT := Lib.hid (show Sp.tk s.data.toList = ⟨11, s.data.toList.take 1, []⟩ by rw [HONE.out, h41]; rfl)
                        have e40 : ((c.toNat : Int) == 40) = false := by rw [h41]; rfl
                        have e91 : ((c.toNat : Int) == 91) = false := by rw [h41]; rfl
                        have e123 : ((c.toNat : Int) == 123) = false := by rw [h41]; rfl
                        have e41 : ((c.toNat : Int) == 41) = true := by rw [h41]; rfl
                        have e93 : ((c.toNat : Int) == 93) = false := by rw [h41]; rfl
                        have e125 : ((c.toNat : Int) == 125) = false := by rw [h41]; rfl
                        have e92 : ((c.toNat : Int) == 92) = false := by rw [h41]; rfl
                        clear h40 h91 h123 h41
                        go_wp2_with (first
                          | (go_at_call 59; refine (PVarFills.clerestoryref2_begins.calls s 0 false _ HB0.out).mono ?_; rintro e w7 ⟨rfl, hb⟩; have HS7 := Lib.hid (HS6.out.step hb.below); clear hb; obtain ⟨⟨r0, r1, r2, r3⟩, q0, q1, q2, q3⟩ := HS7.out.1.cells))
                        refine done (nn := 0) HS7.out ?_ ?_ ?_ rfl rfl rfl rfl <;> rw [HT.out]
                        all_goals (try rw [Lib.extract_upto])
                      by_cases h93 : c = 93
                      · have HT := Lib.hid (show Sp.tk s.data.toList = ⟨11, s.data.toList.take 1, []⟩ by rw [HONE.out, h93]; rfl)
                        have e40 : ((c.toNat : Int) == 40) = false := by rw [h93]; rfl
                        have e91 : ((c.toNat : Int) == 91) = false := by rw [h93]; rfl
                        have e123 : ((c.toNat : Int) == 123) = false := by rw [h93]; rfl
                        have e41 : ((c.toNat : Int) == 41) = false := by rw [h93]; rfl
                        have e93 : ((c.toNat : Int) == 93) = true := by rw [h93]; rfl
                        have e125 : ((c.toNat : Int) == 125) = false := by rw [h93]; rfl
                        have e92 : ((c.toNat : Int) == 92) = false := by rw [h93]; rfl
                        clear h40 h91 h123 h41 h93
                        go_wp2_with (first
                          | (go_at_call 59; refine (PVarFills.clerestoryref2_begins.calls s 0 false _ HB0.out).mono ?_; rintro e w7 ⟨rfl, hb⟩; have HS7 := Lib.hid (HS6.out.step hb.below); clear hb; obtain ⟨⟨r0, r1, r2, r3⟩, q0, q1, q2, q3⟩ := HS7.out.1.cells))
                        refine done (nn := 0) HS7.out ?_ ?_ ?_ rfl rfl rfl rfl <;> rw [HT.out]
                        all_goals (try rw [Lib.extract_upto])
                      by_cases h125 : c = 125
                      · have HT := Lib.hid (show Sp.tk s.data.toList = ⟨11, s.data.toList.take 1, []⟩ by rw [HONE.out, h125]; rfl)
                        have e40 : ((c.toNat : Int) == 40) = false := by rw [h125]; rfl
                        have e91 : ((c.toNat : Int) == 91) = false := by rw [h125]; rfl
                        have e123 : ((c.toNat : Int) == 123) = false := by rw [h125]; rfl
                        have e41 : ((c.toNat : Int) == 41) = false := by rw [h125]; rfl
                        have e93 : ((c.toNat : Int) == 93) = false := by rw [h125]; rfl
                        have e125 : ((c.toNat : Int) == 125) = true := by rw [h125]; rfl
                        have e92 : ((c.toNat : Int) == 92) = false := by rw [h125]; rfl
                        clear h40 h91 h123 h41 h93 h125
                        go_wp2_with (first
                          | (go_at_call 59; refine (PVarFills.clerestoryref2_begins.calls s 0 false _ HB0.out).mono ?_; rintro e w7 ⟨rfl, hb⟩; have HS7 := Lib.hid (HS6.out.step hb.below); clear hb; obtain ⟨⟨r0, r1, r2, r3⟩, q0, q1, q2, q3⟩ := HS7.out.1.cells))
                        refine done (nn := 0) HS7.out ?_ ?_ ?_ rfl rfl rfl rfl <;> rw [HT.out]
                        all_goals (try rw [Lib.extract_upto])
                      by_cases h92 : c = 92
                      · have HT := Lib.hid (show Sp.tk s.data.toList = ⟨6, s.data.toList.take 1, []⟩ by rw [HONE.out, h92]; rfl)
                        have e40 : ((c.toNat : Int) == 40) = false := by rw [h92]; rfl
                        have e91 : ((c.toNat : Int) == 91) = false := by rw [h92]; rfl
                        have e123 : ((c.toNat : Int) == 123) = false := by rw [h92]; rfl
                        have e41 : ((c.toNat : Int) == 41) = false := by rw [h92]; rfl
                        have e93 : ((c.toNat : Int) == 93) = false := by rw [h92]; rfl
                        have e125 : ((c.toNat : Int) == 125) = false := by rw [h92]; rfl
                        have e92 : ((c.toNat : Int) == 92) = true := by rw [h92]; rfl
                        clear h40 h91 h123 h41 h93 h125 h92
                        go_wp2_with (first
                          | (go_at_call 59; refine (PVarFills.clerestoryref2_begins.calls s 0 false _ HB0.out).mono ?_; rintro e w7 ⟨rfl, hb⟩; have HS7 := Lib.hid (HS6.out.step hb.below); clear hb; obtain ⟨⟨r0, r1, r2, r3⟩, q0, q1, q2, q3⟩ := HS7.out.1.cells))
                        refine done (nn := 0) HS7.out ?_ ?_ ?_ rfl rfl rfl rfl <;> rw [HT.out]
                        all_goals (try rw [Lib.extract_upto])
                      have HT := Lib.hid (show Sp.tk s.data.toList = ⟨12, s.data.toList.take 1, []⟩ by rw [HONE.out]; simp [Sp.one, h40, h91, h123, h41, h93, h125, h92])
                      have e40 : ((c.toNat : Int) == 40) = false := beq_eq_false_iff_ne.2 (fun e => h40 (u8_eq (d := 40) e))
                      have e91 : ((c.toNat : Int) == 91) = false := beq_eq_false_iff_ne.2 (fun e => h91 (u8_eq (d := 91) e))
                      have e123 : ((c.toNat : Int) == 123) = false := beq_eq_false_iff_ne.2 (fun e => h123 (u8_eq (d := 123) e))
                      have e41 : ((c.toNat : Int) == 41) = false := beq_eq_false_iff_ne.2 (fun e => h41 (u8_eq (d := 41) e))
                      have e93 : ((c.toNat : Int) == 93) = false := beq_eq_false_iff_ne.2 (fun e => h93 (u8_eq (d := 93) e))
                      have e125 : ((c.toNat : Int) == 125) = false := beq_eq_false_iff_ne.2 (fun e => h125 (u8_eq (d := 125) e))
                      have e92 : ((c.toNat : Int) == 92) = false := beq_eq_false_iff_ne.2 (fun e => h92 (u8_eq (d := 92) e))
                      clear h40 h91 h123 h41 h93 h125 h92
                      go_wp2_with (first
                        | (go_at_call 59; refine (PVarFills.clerestoryref2_begins.calls s 0 false _ HB0.out).mono ?_; rintro e w7 ⟨rfl, hb⟩; have HS7 := Lib.hid (HS6.out.step hb.below); clear hb; obtain ⟨⟨r0, r1, r2, r3⟩, q0, q1, q2, q3⟩ := HS7.out.1.cells))
                      refine done (nn := 0) HS7.out ?_ ?_ ?_ rfl rfl rfl rfl <;> rw [HT.out]
                      all_goals (try rw [Lib.extract_upto])
                    · rw [hbeg] at hb0
                      have HB0 := Lib.hid (show PVarFills.clerestoryref2_begins.f s 0 = some true from hb0)
                      have hsd0 := said_eq s hm 0 (by omega)
                      rw [List.drop_zero, Nat.zero_add, HL.out] at hsd0
                      have hnm := (Named.nam_le (c :: r)).1
                      rw [← HL.out, ← Lib.size_eq] at hnm
                      have HTN := Lib.hid (show Sp.tk s.data.toList = Sp.nameTok s.data.toList by rw [HL.out]; exact Tk.tk_name HBL.out HP.out.1 HP.out.2 H3.out H4.out H5.out hbeg)
                      obtain ⟨p, hpp⟩ : ∃ p, Sp.nam (c :: r) = p := ⟨_, rfl⟩
                      have hpp2 : Sp.nam s.data.toList = p := by rw [HL.out]; exact hpp
                      rw [hpp] at hsd0
                      rw [hpp2] at hnm
                      obtain ⟨m, n⟩ := p
                      simp only at hsd0 hnm
                      have HSD0 := Lib.hid (show PVarFills.clerestoryref2_said.f 802 s 0 = some (mk m, (n : Int)) from hsd0)
                      have hat2 := at_eq s n
                      have HPP := Lib.hid hpp2
                      clear hb0 hbeg hsd0 hpp hpp2
                      obtain ⟨b2, hb2⟩ : ∃ b2, byteAt (s.data.toList.drop n) = b2 := ⟨_, rfl⟩
                      rw [hb2] at hat2
                      have HAT2 := Lib.hid hat2
                      have hh : (s.data.toList.drop n).head? = some 40 ↔ b2 = 40 := by
                        rw [← hb2]
                        cases s.data.toList.drop n with
                        | nil => simp [byteAt]
                        | cons a l => exact ⟨fun e => by rw [List.head?_cons] at e; rw [Option.some.inj e]; rfl, fun e => by rw [List.head?_cons, u8_eq (d := 40) e]⟩
                      clear hat2
                      by_cases h40 : b2 = 40
                      · have hb40 : (b2 == 40) = true := beq_iff_eq.2 h40
                        have HT := Lib.hid (show Sp.tk s.data.toList = ⟨2, s.data.toList.take (n + 1), m⟩ by rw [HTN.out]; unfold Sp.nameTok; rw [HPP.out]; rw [if_pos (hh.2 h40)])
                        have hlt : n < s.size := by
                          rcases Nat.lt_or_ge n s.size with h | h
                          · exact h
                          · have := hh.2 h40; rw [List.drop_eq_nil_of_le (by rw [← Lib.size_eq]; exact h)] at this; simp at this
                        clear hh h40 hb2
                        go_wp2_with (first
                          | (go_at_call 59; refine (PVarFills.clerestoryref2_begins.calls s 0 true _ HB0.out).mono ?_; rintro e w7 ⟨rfl, hb⟩; have HS7 := Lib.hid (HS6.out.step hb.below); clear hb)
                          | (go_at_call 58; refine (PVarFills.clerestoryref2_said.calls 802 s 0 (mk m) (n : Int) _ HSD0.out).mono ?_; rintro e w8 ⟨rfl, hb⟩; have HS8 := Lib.hid (HS7.out.step hb.below); clear hb)
                          | (go_at_call 51; refine (PVarFills.clerestoryref2_at.calls s (n : Int) b2 _ HAT2.out).mono ?_; rintro e w9 ⟨rfl, hb⟩; have HS9 := Lib.hid (HS8.out.step hb.below); clear hb; obtain ⟨⟨r0, r1, r2, r3⟩, q0, q1, q2, q3⟩ := HS9.out.1.cells))
                        refine done (nn := 0) HS9.out ?_ ?_ ?_ rfl rfl rfl rfl <;> rw [HT.out]
                        all_goals (try rw [Lib.extract_upto])
                      · have hb40 : (b2 == 40) = false := beq_eq_false_iff_ne.2 h40
                        have HT := Lib.hid (show Sp.tk s.data.toList = ⟨1, s.data.toList.take n, m⟩ by rw [HTN.out]; unfold Sp.nameTok; rw [HPP.out]; rw [if_neg (fun e => h40 (hh.1 e))])
                        clear hh h40 hb2
                        go_wp2_with (first
                          | (go_at_call 59; refine (PVarFills.clerestoryref2_begins.calls s 0 true _ HB0.out).mono ?_; rintro e w7 ⟨rfl, hb⟩; have HS7 := Lib.hid (HS6.out.step hb.below); clear hb)
                          | (go_at_call 58; refine (PVarFills.clerestoryref2_said.calls 802 s 0 (mk m) (n : Int) _ HSD0.out).mono ?_; rintro e w8 ⟨rfl, hb⟩; have HS8 := Lib.hid (HS7.out.step hb.below); clear hb)
                          | (go_at_call 51; refine (PVarFills.clerestoryref2_at.calls s (n : Int) b2 _ HAT2.out).mono ?_; rintro e w9 ⟨rfl, hb⟩; have HS9 := Lib.hid (HS8.out.step hb.below); clear hb; obtain ⟨⟨r0, r1, r2, r3⟩, q0, q1, q2, q3⟩ := HS9.out.1.cells))
                        refine done (nn := 0) HS9.out ?_ ?_ ?_ rfl rfl rfl rfl <;> rw [HT.out]
                        all_goals (try rw [Lib.extract_upto])
                  · have HT := Lib.hid (show Sp.tk s.data.toList = ⟨3, s.data.toList.take k, (Sp.nam r).1⟩ by
                      have h := hatw
                      simp only [Bool.and_eq_true, beq_iff_eq] at h
                      rw [HL.out, Tk.tk_at HBL.out HP.out.1 HP.out.2 h.1 h.2, HK.out])
                    clear hatw
                    go_wp2_with (first
                      | (go_at_call 58; refine (PVarFills.clerestoryref2_said.calls 802 s 1 (mk (Sp.nam r).1) (k : Int) _ HSD.out).mono ?_; rintro e w7 ⟨rfl, hb⟩; have HS7 := Lib.hid (HS6.out.step hb.below); clear hb; obtain ⟨⟨r0, r1, r2, r3⟩, q0, q1, q2, q3⟩ := HS7.out.1.cells))
                    refine done (nn := 0) HS7.out ?_ ?_ ?_ rfl rfl rfl rfl <;> rw [HT.out]
                    all_goals (try rw [Lib.extract_upto])
              · have HT := Lib.hid (show Sp.tk s.data.toList = ⟨4, s.data.toList.take k, (Sp.nam r).1⟩ by
                  have h := hhash
                  simp only [Bool.and_eq_true, beq_iff_eq] at h
                  rw [HL.out, Tk.tk_hash HBL.out HP.out.1 HP.out.2 h.1 h.2, HK.out])
                clear hhash
                go_wp2_with (first
                  | (go_at_call 58; refine (PVarFills.clerestoryref2_said.calls 802 s 1 (mk (Sp.nam r).1) (k : Int) _ HSD.out).mono ?_; rintro e w6 ⟨rfl, hb⟩; have HS6 := Lib.hid (HS5.out.step hb.below); clear hb; obtain ⟨⟨r0, r1, r2, r3⟩, q0, q1, q2, q3⟩ := HS6.out.1.cells))
                refine done (nn := 0) HS6.out ?_ ?_ ?_ rfl rfl rfl rfl <;> rw [HT.out]
                all_goals (try rw [Lib.extract_upto])
      · rw [hnote] at hrem
        have HT := Lib.hid (show Sp.tk s.data.toList = ⟨9, s.data.toList.take (2 + Sp.note (s.data.toList.drop 2)), []⟩ by rw [HL.out]; exact Tk.tk_note HBL.out hrem)
        have HX := Lib.hid (RefB.note_eq s hm)
        obtain ⟨raw, hraw⟩ : ∃ raw, s.data.toList.take (2 + Sp.note (s.data.toList.drop 2)) = raw := ⟨_, rfl⟩
        rw [hraw] at HT HX
        clear hrem hraw hnote
        go_wp2_with (first
          | (go_at_call 52; refine (PVarFills.clerestoryref2_noteAt.calls 402 s 9 (mk raw) ⟨#[]⟩ 0 _ HX.out).mono ?_; rintro e w4 ⟨rfl, hb⟩; have HS4 := Lib.hid (HS3.out.step hb); clear hb; obtain ⟨⟨r0, r1, r2, r3⟩, q0, q1, q2, q3⟩ := HS4.out.1.cells))
        refine done (nn := 0) HS4.out ?_ ?_ ?_ rfl rfl rfl rfl <;> rw [HT.out]
  · rw [hbl] at HBK
    have HT := Lib.hid (show Sp.tk s.data.toList = ⟨8, s.data.toList.take (Tk.blanks s.data.toList), []⟩ by rw [HL.out]; exact Tk.tk_blank hbl)
    clear hbl hl
    go_enter Tryd.func27, Tryd.ntmps27
    go_upto_region 3 with (first
      | (go_at_call 50; refine (PVarFills.clerestoryref2_Blank.calls (c.toNat : Int) true _ HBK.out).mono ?_; rintro e w2 ⟨rfl, hb⟩; have HS2 := Lib.hid (HS0.out.step hb.below); clear hb))
    clear HBK HS0
    go_wp2
    go_loopw [4] (fun i wr => ∃ (k : Nat), i = .int .i64 k ∧ k ≤ s.size ∧ Hid (k + Tk.blanks (s.data.toList.drop k) = Tk.blanks s.data.toList ∧ St w wr)) (fun i _ => s.size - (intOf i).toNat)
    case atStart => exact ⟨0, rfl, Nat.zero_le _, Lib.hid ⟨by simp, HS2.out⟩⟩
    case round =>
      clear HS2
      obtain ⟨k, rfl, hk, HI⟩ := hrel
      have HSr := Lib.hid HI.out.2
      have HQ := Lib.hid HI.out.1
      clear HI
      by_cases hlt : k < s.size
      · obtain ⟨a, ha⟩ : ∃ a : UInt8, s[k]'hlt = a := ⟨_, rfl⟩
        have hd := Name.drop_get s k hlt
        rw [ha] at hd
        have HD := Lib.hid hd
        have hbk := blank_eq a
        clear hd
        rcases hba : Sp.blank a with _ | _
        · rw [hba] at hbk
          have HBA := Lib.hid hbk
          have HK := Lib.hid (show Tk.blanks s.data.toList = k by
            rw [← HQ.out, HD.out, show Tk.blanks (a :: s.data.toList.drop (k + 1)) = 0 by simp [Tk.blanks, hba]]; rfl)
          clear hbk hba
          go_wp2_with (first
            | (go_at_call 50; refine (PVarFills.clerestoryref2_Blank.calls (a.toNat : Int) false _ HBA.out).mono ?_; rintro e w3 ⟨rfl, hb⟩; have HS3 := Lib.hid (HSr.out.step hb.below); clear hb; obtain ⟨⟨r0, r1, r2, r3⟩, q0, q1, q2, q3⟩ := HS3.out.1.cells))
          refine done (nn := 0) HS3.out ?_ ?_ ?_ rfl rfl rfl rfl <;> rw [HT.out]
          all_goals (try rw [Lib.extract_upto, HK.out])
        · rw [hba] at hbk
          have HBA := Lib.hid hbk
          have HK := Lib.hid (show (k + 1) + Tk.blanks (s.data.toList.drop (k + 1)) = Tk.blanks s.data.toList by
            rw [← HQ.out, HD.out, show Tk.blanks (a :: s.data.toList.drop (k + 1)) = Tk.blanks (s.data.toList.drop (k + 1)) + 1 by simp [Tk.blanks, hba]]; omega)
          clear hbk hba
          go_wp2_with (first
            | (go_at_call 50; refine (PVarFills.clerestoryref2_Blank.calls (a.toNat : Int) true _ HBA.out).mono ?_; rintro e w3 ⟨rfl, hb⟩; have HS3 := Lib.hid (HSr.out.step hb.below); clear hb))
          go_roundw
          case rel => exact ⟨k + 1, by first | rfl | go_num, by omega, Lib.hid ⟨HK.out, HS3.out⟩⟩
          case measure => simp [intOf]; omega
      · obtain rfl : k = s.size := by omega
        have HK := Lib.hid (show Tk.blanks s.data.toList = s.size by
          rw [← HQ.out, List.drop_eq_nil_of_le (by rw [← Lib.size_eq]; exact Nat.le_refl _)]; rfl)
        obtain ⟨⟨r0, r1, r2, r3⟩, q0, q1, q2, q3⟩ := HSr.out.1.cells
        go_wp2
        refine done (nn := 0) HSr.out ?_ ?_ ?_ rfl rfl rfl rfl <;> rw [HT.out]
        all_goals (try rw [HK.out])
        all_goals (try (show Value.string s = Value.string (mk (s.data.toList.take s.size)); rw [List.take_of_length_le (by rw [← Lib.size_eq]; exact Nat.le_refl _), mk_of]))

end Go.Proofs.YtdjifjnophcnlaaDoor.RefH
