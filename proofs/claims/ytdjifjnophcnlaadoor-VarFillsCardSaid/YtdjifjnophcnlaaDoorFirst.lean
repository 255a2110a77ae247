/-
  csstok.first hands back the first token of a text that is not empty (Sp.tk), for strings of at most 400 bytes, where the library's MaxLen holds some int; what was there in memory stays.
-/
import Derived.Test.YtdjifjnophcnlaaDoorNum
import Derived.Test.YtdjifjnophcnlaaDoorTk
set_option linter.unusedVariables false
set_option linter.unusedSimpArgs false
namespace Go.Proofs.YtdjifjnophcnlaaDoor
open Go.RowKit

/-- What the library's variables that are read hold. -/
def Glob (w : World) : Prop := (∃ m : Int, w.cell? ⟨3, 0, none⟩ = some (.int .i64 m))

theorem Glob.below {w w' : World} (h : Glob w) (hb : Below w.heap.size w w') : Glob w' := by
  obtain ⟨m, hm⟩ := h
  exact ⟨m, (hb.cell (World.block_lt_of_cell? w _ hm)).trans hm⟩

namespace First

/-- The captured text at B, the result's cells at B + 1, all below as it was. -/
def St (s : ByteArray) (w wr : World) : Prop :=
  wr.heap[w.heap.size]? = some (.cells #[.string s] 9 (0, 0)) ∧ Tok.At wr (w.heap.size + 1) (.int .i64 0) (.string ⟨#[]⟩) (.string ⟨#[]⟩) (.int .i64 0) ∧ Below w.heap.size w wr

theorem St.start (s : ByteArray) (w : World) : St s w ((w.alloc (.cells #[.string s] 9)).alloc (.cells #[.int .i64 0, .string ⟨#[]⟩, .string ⟨#[]⟩, .int .i64 0] 37)) := by
  have hs : (w.alloc (.cells #[.string s] 9)).heap.size = w.heap.size + 1 := by simp
  refine ⟨(heap_alloc_old _ _ (by rw [hs]; omega)).trans (heap_alloc_new w _), ?_, ((Below.refl _ _).alloc (Nat.le_refl _) _).alloc (by rw [hs]; omega) _⟩
  have := Tok.At.new (w.alloc (.cells #[.string s] 9)) (.int .i64 0) (.string ⟨#[]⟩) (.string ⟨#[]⟩) (.int .i64 0)
  rw [hs] at this; exact this

theorem St.step {s : ByteArray} {w wr w2 : World} (h : St s w wr) (hb : Below wr.heap.size wr w2) : St s w w2 := by
  obtain ⟨h1, h2, h3⟩ := h
  exact ⟨(hb.block _ (Array.getElem?_eq_some_iff.1 h1).1).trans h1, h2.below hb h2.lt, h3.trans (hb.mono h3.size)⟩

theorem St.drew {s : ByteArray} {w wr : World} (h : St s w wr) : St s w wr.drew := ⟨h.1, h.2.1, h.2.2.drew⟩

theorem St.text {s : ByteArray} {w wr : World} (h : St s w wr) : wr.cell? ⟨w.heap.size, 0, none⟩ = some (.string s) ∧ wr.frozen? ⟨w.heap.size, 0, none⟩ = false := ⟨cell_of_one h.1, free_of_one h.1⟩

/-- The end of every way that stores a token into the result's cells. -/
theorem done {s : ByteArray} {w wr : World} (h : St s w wr) {t : Sp.T} {v0 v1 v2 v3 : Value} {nn : Int} (h0 : v0 = .int .i64 t.k) (h1 : v1 = .string ⟨t.raw.toArray⟩) (h2 : v2 = .string ⟨t.val.toArray⟩) (h3 : v3 = .int .i64 nn) {fn : Func} {p : Tmp} (hf : fn.results = #[.cell p 37]) {a : Act}
    (hp : a.tmps.getD p undef = .pointer (some ⟨w.heap.size + 1, 0, none⟩)) (hd : a.defers = []) :
    bodyPost Tryd.prog fn (TokPost t w) .ret a ((((wr.setCell ⟨w.heap.size + 1, 0, none⟩ v0).setCell ⟨w.heap.size + 1, 1, none⟩ v1).setCell ⟨w.heap.size + 1, 2, none⟩ v2).setCell ⟨w.heap.size + 1, 3, none⟩ v3) := by
  subst h0 h1 h2 h3
  exact Tok.ret hf hp ((((h.2.1.set0 _).set1 _).set2 _).set3 _) hd ⟨nn, rfl, ((((h.2.2.setCell (by simp) _).setCell (by simp) _).setCell (by simp) _).setCell (by simp) _)⟩

theorem done2 {s : ByteArray} {w wr : World} (h : St s w wr) {t : Sp.T} {v0 v1 v2 v3 : Value} {nn : Int} (h0 : v0 = .int .i64 t.k) (h1 : v1 = .string ⟨t.raw.toArray⟩) (h2 : v2 = .string ⟨t.val.toArray⟩) (h3 : v3 = .int .i64 nn) {fn : Func} {p : Tmp} (hf : fn.results = #[.cell p 37]) {a : Act}
    (hp : a.tmps.getD p undef = .pointer (some ⟨w.heap.size + 1, 0, none⟩)) (hd : a.defers = []) (o : Obj) :
    bodyPost Tryd.prog fn (TokPost t w) .ret a (((((wr.setCell ⟨w.heap.size + 1, 0, none⟩ v0).setCell ⟨w.heap.size + 1, 1, none⟩ v1).setCell ⟨w.heap.size + 1, 2, none⟩ v2).setCell ⟨w.heap.size + 1, 3, none⟩ v3).alloc o) := by
  subst h0 h1 h2 h3
  exact Tok.ret hf hp (((((h.2.1.set0 _).set1 _).set2 _).set3 _).alloc o) hd ⟨nn, rfl, ((((h.2.2.setCell (by simp) _).setCell (by simp) _).setCell (by simp) _).setCell (by simp) _).alloc (by have := h.2.2.size; simp; omega) o⟩

theorem done3 {s : ByteArray} {w wr : World} (h : St s w wr) {t : Sp.T} {v0 v1 v2 v3 : Value} {nn : Int} (h0 : v0 = .int .i64 t.k) (h1 : v1 = .string ⟨t.raw.toArray⟩) (h2 : v2 = .string ⟨t.val.toArray⟩) (h3 : v3 = .int .i64 nn) {fn : Func} {p : Tmp} (hf : fn.results = #[.cell p 37]) {a : Act}
    (hp : a.tmps.getD p undef = .pointer (some ⟨w.heap.size + 1, 0, none⟩)) (hd : a.defers = []) (o : Obj) :
    bodyPost Tryd.prog fn (TokPost t w) .ret a (((((wr.setCell ⟨w.heap.size + 1, 0, none⟩ v0).setCell ⟨w.heap.size + 1, 1, none⟩ v1).setCell ⟨w.heap.size + 1, 2, none⟩ v2).setCell ⟨w.heap.size + 1, 3, none⟩ v3).alloc o).drew := by
  subst h0 h1 h2 h3
  exact Tok.ret hf hp (((((h.2.1.set0 _).set1 _).set2 _).set3 _).alloc o).drew hd ⟨nn, rfl, (((((h.2.2.setCell (by simp) _).setCell (by simp) _).setCell (by simp) _).setCell (by simp) _).alloc (by have := h.2.2.size; simp; omega) o).drew⟩

/-- The same where the captured text has been written. -/
theorem done4 {s : ByteArray} {w wr : World} (h : St s w wr) (u : Value) {t : Sp.T} {v0 v1 v2 v3 : Value} {nn : Int} (h0 : v0 = .int .i64 t.k) (h1 : v1 = .string ⟨t.raw.toArray⟩) (h2 : v2 = .string ⟨t.val.toArray⟩) (h3 : v3 = .int .i64 nn) {fn : Func} {p : Tmp} (hf : fn.results = #[.cell p 37]) {a : Act}
    (hp : a.tmps.getD p undef = .pointer (some ⟨w.heap.size + 1, 0, none⟩)) (hd : a.defers = []) :
    bodyPost Tryd.prog fn (TokPost t w) .ret a (((((wr.setCell ⟨w.heap.size, 0, none⟩ u).setCell ⟨w.heap.size + 1, 0, none⟩ v0).setCell ⟨w.heap.size + 1, 1, none⟩ v1).setCell ⟨w.heap.size + 1, 2, none⟩ v2).setCell ⟨w.heap.size + 1, 3, none⟩ v3) := by
  subst h0 h1 h2 h3
  exact Tok.ret hf hp (((((h.2.1.far (by simp) _).set0 _).set1 _).set2 _).set3 _) hd ⟨nn, rfl, (((((h.2.2.setCell (Nat.le_refl _) _).setCell (by simp) _).setCell (by simp) _).setCell (by simp) _).setCell (by simp) _)⟩

def oneT (kd : Int) (l : Sp.By) : Sp.T := ⟨kd, l.take 1, []⟩
theorem one_T (kd : Int) (b : Nat) (s : ByteArray) (w : World) (h0 : 0 < s.size) (hm : s.size ≤ 400) (hb : w.cell? ⟨b, 0, none⟩ = some (.string s)) :
    Calls Tryd.prog 31 #[.int .i64 kd, .pointer (some ⟨b, 0, none⟩)] w (TokPost (oneT kd s.data.toList) w) := Named.one_any kd b s w h0 hm hb

theorem pre1 (c : UInt8) (l : Sp.By) : Lib.hasPrefix l [c] = decide (l.head? = some c) := by
  cases l with
  | nil => simp [Lib.hasPrefix]
  | cons a r =>
    simp only [Lib.hasPrefix, List.isPrefixOf, Bool.and_true, List.head?_cons, Option.some.injEq]
    rw [Bool.eq_iff_iff]; simp; exact eq_comm

theorem size_blanks (s : ByteArray) : (Lib.trimLeftS s.data.toList [32, 9, 10, 12, 13]).length + Tk.blanks s.data.toList = s.size := by
  unfold Lib.trimLeftS Tk.blanks
  have e : (fun x => ([32, 9, 10, 12, 13] : List UInt8).contains x) = Sp.blank := funext Tk.set_blank
  rw [e, Lib.size_eq]
  have := congrArg List.length (List.takeWhile_append_dropWhile (p := Sp.blank) (l := s.data.toList))
  rw [List.length_append] at this
  omega

set_option maxHeartbeats 2000000 in
set_option maxRecDepth 100000 in
theorem first_any (s : ByteArray) (w : World) (h0 : 0 < s.size) (hm : s.size ≤ 400) (hg : Glob w) : Calls Tryd.prog 20 #[.string s] w (TokPost (Sp.tk s.data.toList) w) := by
  have HG := Lib.hid hg
  clear hg
  have hd := size_blanks s
  obtain ⟨m, hmm⟩ : ∃ m, Lib.trimLeftS s.data.toList [32, 9, 10, 12, 13] = m := ⟨_, rfl⟩
  have hc := fun w => Tryd.strings_TrimLeft_laid s ⟨#[32, 9, 10, 12, 13]⟩ w (by decide) (ascii_of_all (by decide))
  simp only [] at hc
  rw [hmm] at hc hd
  have hsz : (⟨m.toArray⟩ : ByteArray).size = m.length := by rw [Lib.size_eq]
  obtain ⟨u, hu⟩ : ∃ u : ByteArray, (⟨m.toArray⟩ : ByteArray) = u := ⟨_, rfl⟩
  rw [hu] at hc hsz
  have hle : u.size ≤ s.size := by omega
  obtain ⟨n, hn⟩ : ∃ n, Tk.blanks s.data.toList = n := ⟨_, rfl⟩
  have hnu : n + u.size = s.size := by omega
  have HN := Lib.hid hn
  have HC := Lib.hid hc
  have HNU := Lib.hid hnu
  have hnle : n ≤ s.size := by omega
  have HS0 := Lib.hid (St.start s w)
  clear hc hd hsz hu hmm hn hnu
  go_enter Tryd.func20, Tryd.ntmps20
  go_upto_region 2 with (fail)
  go_cut [4] (fun v4 wc => v4 = .int .i64 (n : Int) ∧ Hid (St s w wc))
  case first =>
    go_region_with (first
      | (go_at_call 32; refine (HC.out _).mono ?_; rintro e w2 ⟨rfl, hb⟩; have HS2 := Lib.hid (HS0.out.drew.step hb); clear hb; obtain ⟨g0, f0⟩ := HS2.out.text))
    all_goals
      have e : ((s.size : Int) - (u.size : Int)) = (n : Int) := by have := HNU.out; omega
      have HE := Lib.hid e
      clear e
      go_wp2
      go_meet
      exact ⟨by simp [HE.out, show IntKind.i64.wrap (n : Int) = (n : Int) from IntWalk.i64_in _ (by omega)], HS2⟩
  case rest =>
    obtain ⟨rfl, HS⟩ := hcut
    obtain ⟨w2, rfl⟩ : ∃ w2 : World, w2 = wc := ⟨_, rfl⟩
    clear HC HNU HS0
    obtain ⟨g0, f0⟩ := HS.out.text
    obtain ⟨⟨r0, r1, r2, r3⟩, q0, q1, q2, q3⟩ := HS.out.2.1.cells
    obtain ⟨c, r, hc0, hl⟩ := Leaf.first_of s h0
    have HL := Lib.hid hl
    have hB := HS.out.2.2
    have HB := Lib.hid hB
    clear hB
    rcases hbl : Sp.blank c with _ | _
    · have hn0 : n = 0 := by
        have h1 := Tk.blanks_pos c r
        rw [← hl, HN.out, hbl] at h1
        have : ¬ 0 < n := fun h => by simpa using h1.1 h
        omega
      have HBL := Lib.hid hbl
      subst hn0
      rcases hrm : Lib.hasPrefix s.data.toList [47, 42] with _ | _
      · have C1 := Lib.hid (fun w => Tryd.strings_CutPrefix s ⟨#[47, 42]⟩ w)
        simp only [] at C1
        rw [show Lib.trimPrefix s.data.toList [47, 42] = s.data.toList by unfold Lib.trimPrefix; rw [hrm]; rfl, hrm, Lib.mk_data] at C1
        have HRM := Lib.hid (show Lib.hasPrefix (c :: r) [47, 42] = false by rw [← hl]; exact hrm)
        clear hrm hl hbl
        by_cases hq : c = 39 ∨ c = 34
        · have HT := Lib.hid (show Sp.tk s.data.toList = Sp.textTok c r by rw [HL.out]; exact Tk.tk_text HBL.out HRM.out hq)
          have CT := Lib.hid (fun w => Text.text_any s w hm c r HL.out)
          obtain ⟨t, ht⟩ : ∃ t, Sp.textTok c r = t := ⟨_, rfl⟩
          rw [ht] at CT HT
          clear ht
          obtain ⟨b39, hb39⟩ : ∃ b, ((c.toNat : Int) == 39) = b := ⟨_, rfl⟩
          by_cases h39 : c = 39
          · have hb1 : ((c.toNat : Int) == 39) = true := by rw [h39]; rfl
            clear hq h39 hb39
            go_wp2_with (first
              | (go_at_call 33; refine (C1.out _).mono ?_; rintro e w' ⟨rfl, rfl⟩)
              | (go_at_call 35; refine (CT.out _).mono ?_; rintro e w3 ⟨nn, rfl, hb⟩; have HS3 := Lib.hid (HS.out.step hb); clear hb; clear g0 f0 r0 r1 r2 r3 q0 q1 q2 q3; obtain ⟨⟨r0, r1, r2, r3⟩, q0, q1, q2, q3⟩ := HS3.out.2.1.cells))
            rw [HT.out]
            exact done HS3.out rfl rfl rfl rfl rfl rfl rfl
          · have h34 : c = 34 := hq.resolve_left h39
            have hb1 : ((c.toNat : Int) == 39) = false := by rw [h34]; rfl
            have hb2 : ((c.toNat : Int) == 34) = true := by rw [h34]; rfl
            clear hq h39 hb39 h34
            go_wp2_with (first
              | (go_at_call 33; refine (C1.out _).mono ?_; rintro e w' ⟨rfl, rfl⟩)
              | (go_at_call 35; refine (CT.out _).mono ?_; rintro e w3 ⟨nn, rfl, hb⟩; have HS3 := Lib.hid (HS.out.step hb); clear hb; clear g0 f0 r0 r1 r2 r3 q0 q1 q2 q3; obtain ⟨⟨r0, r1, r2, r3⟩, q0, q1, q2, q3⟩ := HS3.out.2.1.cells))
            rw [HT.out]
            exact done HS3.out rfl rfl rfl rfl rfl rfl rfl
        · have hb1 : ((c.toNat : Int) == 39) = false := beq_eq_false_iff_ne.2 (fun h => hq (.inl (UInt8.toNat_inj.1 (by simp; omega))))
          have hb2 : ((c.toNat : Int) == 34) = false := beq_eq_false_iff_ne.2 (fun h => hq (.inr (UInt8.toNat_inj.1 (by simp; omega))))
          have HQ := Lib.hid hq
          clear hq
          go_upto_region 14 with (first
            | (go_at_call 33; refine (C1.out _).mono ?_; rintro e w' ⟨rfl, rfl⟩))
          obtain ⟨wa, hwa⟩ : ∃ wa : World, wa = w' := ⟨_, rfl⟩
          subst hwa
          obtain ⟨hs, hhs⟩ : ∃ hs : Bool, (decide (c = 35) && Sp.hashed r) = hs := ⟨_, rfl⟩
          have HH := Lib.hid hhs
          clear hhs
          go_cut [53] (fun v53 wc => v53 = .bool hs ∧ wc = wa)
          case first =>
            by_cases h35 : c = 35
            · have hb3 : ((c.toNat : Int) == 35) = true := by rw [h35]; rfl
              by_cases hz : 1 < s.size
              · obtain ⟨c', d, r', hc', hd', hl'⟩ := Leaf.two s hz
                have hr : r = d :: r' := by have := HL.out; rw [hl'] at this; simpa using (List.cons.inj this).2.symm
                have hx : (s.extract 1 s.size).data.toList = d :: r' := by rw [Lib.extract_to_end, hl']; rfl
                have hxs : (s.extract 1 s.size).size ≤ 9223372036854775807 := by rw [Lib.size_eq, Lib.extract_to_end, List.length_drop, ← Lib.size_eq]; omega
                have hdz : decide (1 < s.size) = true := decide_eq_true hz
                have e := HH.out
                rw [h35, hr] at e
                simp only [decide_true, Bool.true_and, Sp.hashed] at e
                rcases hsg : Sp.sgn d with _ | _
                · rcases hes : Sp.esc (d :: r') with _ | _
                  all_goals
                    rw [hsg, hes] at e
                    have HE := Lib.hid e
                    have CS := Lib.hid (fun w => Leaf.sign_of d w hsg)
                    have CE := Lib.hid (fun w => Leaf.escape_of (s.extract 1 s.size) w hxs ((congrArg Sp.esc hx).trans hes))
                    clear e hsg hes hx hxs hr hl' hc' h35
                    go_wp2_with (first
                      | (go_at_call 36; refine (CS.out _).mono ?_; rintro e w' ⟨rfl, rfl⟩)
                      | (go_at_call 37; refine (CE.out _).mono ?_; rintro e w' ⟨rfl, rfl⟩))
                    go_meet
                    exact ⟨by rw [← HE.out]; rfl, rfl⟩
                · rw [hsg] at e
                  have HE := Lib.hid e
                  have CS := Lib.hid (fun w => Leaf.sign_of d w hsg)
                  clear e hsg hx hxs hr hl' hc' h35
                  go_wp2_with (first
                    | (go_at_call 36; refine (CS.out _).mono ?_; rintro e w' ⟨rfl, rfl⟩))
                  go_meet
                  exact ⟨by rw [← HE.out]; rfl, rfl⟩
              · have hr : r = [] := by
                  have := Lib.size_eq s; rw [HL.out] at this; simp only [List.length_cons] at this
                  exact List.eq_nil_of_length_eq_zero (by omega)
                have hdz : decide (1 < s.size) = false := decide_eq_false hz
                have e := HH.out
                rw [h35, hr] at e
                have HE := Lib.hid e
                clear e hr h35
                go_wp2
                go_meet
                exact ⟨by rw [← HE.out]; rfl, rfl⟩
            · have hb3 : ((c.toNat : Int) == 35) = false := beq_eq_false_iff_ne.2 (fun h => h35 (UInt8.toNat_inj.1 (by simp; omega)))
              have HE := Lib.hid (show hs = false by rw [← HH.out, decide_eq_false h35]; rfl)
              go_wp2
              go_meet
              exact ⟨by rw [HE.out], rfl⟩
          case rest =>
            obtain ⟨rfl, rfl⟩ := hcut
            obtain ⟨wb, hwb⟩ : ∃ wb : World, wb = wc := ⟨_, rfl⟩
            subst hwb
            cases hs with
            | true =>
              have e := HH.out
              simp only [Bool.and_eq_true, decide_eq_true_eq] at e
              have HT := Lib.hid (show Sp.tk s.data.toList = ⟨4, s.data.toList.take (1 + (Sp.nam (s.data.toList.drop 1)).2), (Sp.nam (s.data.toList.drop 1)).1⟩ by
                rw [HL.out]; exact Tk.tk_hash HBL.out HRM.out HQ.out e.1 e.2)
              have CN := Lib.hid (fun w => Named.named_any 4 s 1 w hm (by omega))
              obtain ⟨t, ht⟩ : ∃ t : Sp.T, (⟨4, s.data.toList.take (1 + (Sp.nam (s.data.toList.drop 1)).2), (Sp.nam (s.data.toList.drop 1)).1⟩ : Sp.T) = t := ⟨_, rfl⟩
              rw [ht] at CN HT
              clear ht e
              go_wp2_with (first
                | (go_at_call 38; refine (CN.out _).mono ?_; rintro e w3 ⟨nn, rfl, hb⟩; have HS3 := Lib.hid (HS.out.step hb); clear hb; clear g0 f0 r0 r1 r2 r3 q0 q1 q2 q3; obtain ⟨⟨r0, r1, r2, r3⟩, q0, q1, q2, q3⟩ := HS3.out.2.1.cells))
              rw [HT.out]
              exact done HS3.out rfl rfl rfl rfl rfl rfl rfl
            | false =>
              have e := HH.out
              have HNH := Lib.hid (show ¬ (c = 35 ∧ Sp.hashed r = true) by intro h; simp [h.1, h.2] at e)
              clear e HH
              go_upto_region 16 with (fail)
              obtain ⟨ha, hha⟩ : ∃ ha : Bool, (decide (c = 64) && Sp.beg r) = ha := ⟨_, rfl⟩
              have HH := Lib.hid hha
              clear hha
              go_cut [73] (fun v73 wc => v73 = .bool ha ∧ wc = wb)
              case first =>
                by_cases h64 : c = 64
                · have hb3 : ((c.toNat : Int) == 64) = true := by rw [h64]; rfl
                  have hx : (s.extract 1 s.size).data.toList = r := by rw [Lib.extract_to_end, HL.out]; rfl
                  have hxs : (s.extract 1 s.size).size ≤ 9223372036854775807 := by rw [Lib.size_eq, Lib.extract_to_end, List.length_drop, ← Lib.size_eq]; omega
                  have hz1 : 1 ≤ s.size := by omega
                  have e := HH.out
                  rw [h64] at e
                  simp only [decide_true, Bool.true_and] at e
                  have CB := Lib.hid (fun w => Leaf.begins_of (s.extract 1 s.size) w hxs ((congrArg Sp.beg hx).trans e))
                  clear hx hxs e h64
                  go_wp2_with (first
                    | (go_at_call 39; refine (CB.out _).mono ?_; rintro e w' ⟨rfl, rfl⟩))
                  go_meet
                  exact ⟨rfl, rfl⟩
                · have hb3 : ((c.toNat : Int) == 64) = false := beq_eq_false_iff_ne.2 (fun h => h64 (UInt8.toNat_inj.1 (by simp; omega)))
                  have HE := Lib.hid (show ha = false by rw [← HH.out, decide_eq_false h64]; rfl)
                  go_wp2
                  go_meet
                  exact ⟨by rw [HE.out], rfl⟩
              case rest =>
                obtain ⟨rfl, rfl⟩ := hcut
                obtain ⟨wd, hwd⟩ : ∃ wd : World, wd = wc := ⟨_, rfl⟩
                subst hwd
                cases ha with
                | true =>
                  have e := HH.out
                  simp only [Bool.and_eq_true, decide_eq_true_eq] at e
                  have HT := Lib.hid (show Sp.tk s.data.toList = ⟨3, s.data.toList.take (1 + (Sp.nam (s.data.toList.drop 1)).2), (Sp.nam (s.data.toList.drop 1)).1⟩ by
                    rw [HL.out]; exact Tk.tk_at HBL.out HRM.out HQ.out e.1 e.2)
                  have CN := Lib.hid (fun w => Named.named_any 3 s 1 w hm (by omega))
                  obtain ⟨t, ht⟩ : ∃ t : Sp.T, (⟨3, s.data.toList.take (1 + (Sp.nam (s.data.toList.drop 1)).2), (Sp.nam (s.data.toList.drop 1)).1⟩ : Sp.T) = t := ⟨_, rfl⟩
                  rw [ht] at CN HT
                  clear ht e
                  go_wp2_with (first
                    | (go_at_call 38; refine (CN.out _).mono ?_; rintro e w3 ⟨nn, rfl, hb⟩; have HS3 := Lib.hid (HS.out.step hb); clear hb; clear g0 f0 r0 r1 r2 r3 q0 q1 q2 q3; obtain ⟨⟨r0, r1, r2, r3⟩, q0, q1, q2, q3⟩ := HS3.out.2.1.cells))
                  rw [HT.out]
                  exact done HS3.out rfl rfl rfl rfl rfl rfl rfl
                | false =>
                  have e := HH.out
                  have HNA := Lib.hid (show ¬ (c = 64 ∧ Sp.beg r = true) by intro h; simp [h.1, h.2] at e)
                  clear e HH
                  have CM := Lib.hid (fun w => Number.number_any s w hm)
                  have hNle := Tk.numLen_le s.data.toList
                  rw [← Lib.size_eq] at hNle
                  obtain ⟨N, hN⟩ : ∃ N, Sp.numLen s.data.toList = N := ⟨_, rfl⟩
                  unfold Number.Post at CM
                  rw [hN] at CM hNle
                  have HNN := Lib.hid hN
                  clear hN
                  by_cases hN0 : 0 < N
                  · have hdN : decide (0 < N) = true := decide_eq_true hN0
                    have CU := Lib.hid (fun num w => Num.number_any s num N w hm hNle)
                    have HT := Lib.hid (show Sp.tk s.data.toList = Num.numTokN s.data.toList N by
                      rw [HL.out, Tk.tk_num HBL.out HRM.out HQ.out HNH.out HNA.out (by rw [← HL.out, HNN.out]; exact hN0), Num.numTok_eq, ← HL.out, HNN.out])
                    obtain ⟨t, ht⟩ : ∃ t : Sp.T, Num.numTokN s.data.toList N = t := ⟨_, rfl⟩
                    rw [ht] at CU HT
                    clear ht
                    go_wp2_with (first
                      | (go_at_call 40; refine (CM.out _).mono ?_; rintro e w3 ⟨num, rfl, hb⟩; have HS3 := Lib.hid (HS.out.step hb); clear hb; clear g0 f0 r0 r1 r2 r3 q0 q1 q2 q3; obtain ⟨g0, f0⟩ := HS3.out.text)
                      | (go_at_call 41; refine (CU.out _ _).mono ?_; rintro e w4 ⟨nn, rfl, hb⟩; have HS4 := Lib.hid (HS3.out.step hb); clear hb; clear g0 f0; obtain ⟨⟨r0, r1, r2, r3⟩, q0, q1, q2, q3⟩ := HS4.out.2.1.cells))
                    rw [HT.out]
                    exact done HS4.out rfl rfl rfl rfl rfl rfl rfl
                  · have hdN : decide (0 < N) = false := decide_eq_false hN0
                    have HN0 := Lib.hid (show ¬ 0 < Sp.numLen (c :: r) by rw [← HL.out, HNN.out]; exact hN0)
                    rcases hbg : Sp.beg s.data.toList with _ | _
                    · have CB := Lib.hid (fun w => Leaf.begins_of s w (by omega) hbg)
                      have HT := Lib.hid (show Sp.tk s.data.toList = oneT (Sp.one c) s.data.toList by
                        rw [HL.out]; exact Tk.tk_one HBL.out HRM.out HQ.out HNH.out HNA.out HN0.out (by rw [← HL.out]; exact hbg))
                      have CO := Lib.hid (fun kd W => one_T kd w.heap.size s W h0 hm)
                      clear hbg
                      go_upto_region 27 with (first
                        | (go_at_call 40; refine (CM.out _).mono ?_; rintro e w3 ⟨num, rfl, hb⟩; have HS3 := Lib.hid (HS.out.step hb); clear hb; clear g0 f0 r0 r1 r2 r3 q0 q1 q2 q3; obtain ⟨g0, f0⟩ := HS3.out.text)
                        | (go_at_call 39; refine (CB.out _).mono ?_; rintro e w' ⟨rfl, rfl⟩))
                      by_cases d40 : c = 40
                      · have e40 : ((c.toNat : Int) == 40) = true := by rw [d40]; rfl
                        have HK := Lib.hid (show Sp.one c = 10 by rw [d40]; rfl)
                        clear d40
                        go_wp2_with (first
                          | (go_at_call 31; refine (CO.out _ _ HS3.out.text.1).mono ?_; rintro e w4 ⟨nn, rfl, hb⟩; have HS4 := Lib.hid (HS3.out.step hb); clear hb; clear g0 f0; obtain ⟨⟨r0, r1, r2, r3⟩, q0, q1, q2, q3⟩ := HS4.out.2.1.cells))
                        rw [HT.out, HK.out]
                        exact done HS4.out rfl rfl rfl rfl rfl rfl rfl
                      have e40 : ((c.toNat : Int) == 40) = false := beq_eq_false_iff_ne.2 (fun h => d40 (UInt8.toNat_inj.1 (by simp; omega)))
                      by_cases d91 : c = 91
                      · have e91 : ((c.toNat : Int) == 91) = true := by rw [d91]; rfl
                        have HK := Lib.hid (show Sp.one c = 10 by rw [d91]; rfl)
                        clear d91
                        go_wp2_with (first
                          | (go_at_call 31; refine (CO.out _ _ HS3.out.text.1).mono ?_; rintro e w4 ⟨nn, rfl, hb⟩; have HS4 := Lib.hid (HS3.out.step hb); clear hb; clear g0 f0; obtain ⟨⟨r0, r1, r2, r3⟩, q0, q1, q2, q3⟩ := HS4.out.2.1.cells))
                        rw [HT.out, HK.out]
                        exact done HS4.out rfl rfl rfl rfl rfl rfl rfl
                      have e91 : ((c.toNat : Int) == 91) = false := beq_eq_false_iff_ne.2 (fun h => d91 (UInt8.toNat_inj.1 (by simp; omega)))
                      by_cases d123 : c = 123
                      · have e123 : ((c.toNat : Int) == 123) = true := by rw [d123]; rfl
                        have HK := Lib.hid (show Sp.one c = 10 by rw [d123]; rfl)
                        clear d123
                        go_wp2_with (first
                          | (go_at_call 31; refine (CO.out _ _ HS3.out.text.1).mono ?_; rintro e w4 ⟨nn, rfl, hb⟩; have HS4 := Lib.hid (HS3.out.step hb); clear hb; clear g0 f0; obtain ⟨⟨r0, r1, r2, r3⟩, q0, q1, q2, q3⟩ := HS4.out.2.1.cells))
                        rw [HT.out, HK.out]
                        exact done HS4.out rfl rfl rfl rfl rfl rfl rfl
                      have e123 : ((c.toNat : Int) == 123) = false := beq_eq_false_iff_ne.2 (fun h => d123 (UInt8.toNat_inj.1 (by simp; omega)))
                      by_cases d41 : c = 41
                      · have e41 : ((c.toNat : Int) == 41) = true := by rw [d41]; rfl
                        have HK := Lib.hid (show Sp.one c = 11 by rw [d41]; rfl)
                        clear d41
                        go_wp2_with (first
                          | (go_at_call 31; refine (CO.out _ _ HS3.out.text.1).mono ?_; rintro e w4 ⟨nn, rfl, hb⟩; have HS4 := Lib.hid (HS3.out.step hb); clear hb; clear g0 f0; obtain ⟨⟨r0, r1, r2, r3⟩, q0, q1, q2, q3⟩ := HS4.out.2.1.cells))
                        rw [HT.out, HK.out]
                        exact done HS4.out rfl rfl rfl rfl rfl rfl rfl
                      have e41 : ((c.toNat : Int) == 41) = false := beq_eq_false_iff_ne.2 (fun h => d41 (UInt8.toNat_inj.1 (by simp; omega)))
                      by_cases d93 : c = 93
                      · have e93 : ((c.toNat : Int) == 93) = true := by rw [d93]; rfl
                        have HK := Lib.hid (show Sp.one c = 11 by rw [d93]; rfl)
                        clear d93
                        go_wp2_with (first
                          | (go_at_call 31; refine (CO.out _ _ HS3.out.text.1).mono ?_; rintro e w4 ⟨nn, rfl, hb⟩; have HS4 := Lib.hid (HS3.out.step hb); clear hb; clear g0 f0; obtain ⟨⟨r0, r1, r2, r3⟩, q0, q1, q2, q3⟩ := HS4.out.2.1.cells))
                        rw [HT.out, HK.out]
                        exact done HS4.out rfl rfl rfl rfl rfl rfl rfl
                      have e93 : ((c.toNat : Int) == 93) = false := beq_eq_false_iff_ne.2 (fun h => d93 (UInt8.toNat_inj.1 (by simp; omega)))
                      by_cases d125 : c = 125
                      · have e125 : ((c.toNat : Int) == 125) = true := by rw [d125]; rfl
                        have HK := Lib.hid (show Sp.one c = 11 by rw [d125]; rfl)
                        clear d125
                        go_wp2_with (first
                          | (go_at_call 31; refine (CO.out _ _ HS3.out.text.1).mono ?_; rintro e w4 ⟨nn, rfl, hb⟩; have HS4 := Lib.hid (HS3.out.step hb); clear hb; clear g0 f0; obtain ⟨⟨r0, r1, r2, r3⟩, q0, q1, q2, q3⟩ := HS4.out.2.1.cells))
                        rw [HT.out, HK.out]
                        exact done HS4.out rfl rfl rfl rfl rfl rfl rfl
                      have e125 : ((c.toNat : Int) == 125) = false := beq_eq_false_iff_ne.2 (fun h => d125 (UInt8.toNat_inj.1 (by simp; omega)))
                      by_cases d92 : c = 92
                      · have e92 : ((c.toNat : Int) == 92) = true := by rw [d92]; rfl
                        have HK := Lib.hid (show Sp.one c = 6 by rw [d92]; rfl)
                        clear d92
                        go_wp2_with (first
                          | (go_at_call 31; refine (CO.out _ _ HS3.out.text.1).mono ?_; rintro e w4 ⟨nn, rfl, hb⟩; have HS4 := Lib.hid (HS3.out.step hb); clear hb; clear g0 f0; obtain ⟨⟨r0, r1, r2, r3⟩, q0, q1, q2, q3⟩ := HS4.out.2.1.cells))
                        rw [HT.out, HK.out]
                        exact done HS4.out rfl rfl rfl rfl rfl rfl rfl
                      have e92 : ((c.toNat : Int) == 92) = false := beq_eq_false_iff_ne.2 (fun h => d92 (UInt8.toNat_inj.1 (by simp; omega)))
                      have HK := Lib.hid (show Sp.one c = 12 by simp [Sp.one, d40, d91, d123, d41, d93, d125, d92])
                      clear d40 d91 d123 d41 d93 d125 d92
                      go_wp2_with (first
                          | (go_at_call 31; refine (CO.out _ _ HS3.out.text.1).mono ?_; rintro e w4 ⟨nn, rfl, hb⟩; have HS4 := Lib.hid (HS3.out.step hb); clear hb; clear g0 f0; obtain ⟨⟨r0, r1, r2, r3⟩, q0, q1, q2, q3⟩ := HS4.out.2.1.cells))
                      rw [HT.out, HK.out]
                      exact done HS4.out rfl rfl rfl rfl rfl rfl rfl
                    · have hle : (Sp.nam s.data.toList).2 ≤ s.size := by
                        have := (Named.nam_le s.data.toList).1; rw [← Lib.size_eq] at this; exact this
                      have CB := Lib.hid (fun w => Leaf.begins_of s w (by omega) hbg)
                      have hcn := fun w => Named.named_any 1 s 0 w hm (by omega)
                      simp only [List.drop_zero, Nat.zero_add] at hcn
                      have HT := Lib.hid (show Sp.tk s.data.toList = Sp.nameTok s.data.toList by
                        rw [HL.out]; exact Tk.tk_name HBL.out HRM.out HQ.out HNH.out HNA.out HN0.out (by rw [← HL.out]; exact hbg))
                      obtain ⟨p, hp⟩ : ∃ p, Sp.nam s.data.toList = p := ⟨_, rfl⟩
                      unfold Sp.nameTok at HT
                      rw [hp] at hcn HT hle
                      obtain ⟨v, k⟩ := p
                      simp only [] at hcn HT hle
                      have hz : (⟨(s.data.toList.take k).toArray⟩ : ByteArray).size = k := by rw [Lib.size_eq]; show (s.data.toList.take k).length = k; rw [List.length_take, ← Lib.size_eq]; omega
                      obtain ⟨raw, hraw⟩ : ∃ raw : ByteArray, (⟨(s.data.toList.take k).toArray⟩ : ByteArray) = raw := ⟨_, rfl⟩
                      have HRW := Lib.hid hraw
                      unfold TokPost at hcn
                      simp only [] at hcn
                      rw [hraw] at hcn hz
                      have CN := Lib.hid hcn
                      have hx : (s.extract k s.size).data.toList = s.data.toList.drop k := Lib.extract_to_end s k
                      have CP := Lib.hid (fun w => Tryd.strings_HasPrefix (s.extract k s.size) ⟨#[40]⟩ w)
                      simp only [] at CP
                      rw [hx, pre1] at CP
                      clear hp hraw hbg hcn hx
                      by_cases hpar : (s.data.toList.drop k).head? = some 40
                      · rw [if_pos hpar] at HT
                        rw [decide_eq_true hpar] at CP
                        have hk1 : k + 1 ≤ s.size := by
                          rcases Nat.lt_or_ge k s.size with h | h
                          · exact h
                          · rw [List.drop_eq_nil_of_le (by rw [← Lib.size_eq]; exact h)] at hpar; simp at hpar
                        have hx1 : (k : Int) + 1 ≤ (s.size : Int) := by omega
                        have hw1 : IntKind.i64.wrap ((k : Int) + 1) = (k : Int) + 1 := IntWalk.i64_in _ (by omega)
                        have hw2 : (0 : Int) ≤ (k : Int) + 1 := by omega
                        have hw3 : ((k : Int) + 1).toNat = k + 1 := by omega
                        clear hpar
                        go_upto_region 25 with (first
                          | (go_at_call 40; refine (CM.out _).mono ?_; rintro e w3 ⟨num, rfl, hb⟩; have HS3 := Lib.hid (HS.out.step hb); clear hb; clear g0 f0 r0 r1 r2 r3 q0 q1 q2 q3; obtain ⟨g0, f0⟩ := HS3.out.text)
                          | (go_at_call 39; refine (CB.out _).mono ?_; rintro e w' ⟨rfl, rfl⟩)
                          | (go_at_call 38; refine (CN.out _).mono ?_; rintro e w4 ⟨nn, rfl, hb⟩; have HS4 := Lib.hid (HS3.out.step hb); clear hb; clear g0 f0; obtain ⟨g0, f0⟩ := HS4.out.text; obtain ⟨⟨r0, r1, r2, r3⟩, q0, q1, q2, q3⟩ := HS4.out.2.1.cells; have hlt4 := HS4.out.2.1.lt; have ga := fun o => (World.cell?_alloc_old w4 o ⟨w.heap.size, 0, none⟩ (by simp; omega)).trans g0; have ra0 := fun o => (World.cell?_alloc_old w4 o ⟨w.heap.size + 1, 0, none⟩ (by simp; omega)).trans r0; have ra1 := fun o => (World.cell?_alloc_old w4 o ⟨w.heap.size + 1, 1, none⟩ (by simp; omega)).trans r1; have ra2 := fun o => (World.cell?_alloc_old w4 o ⟨w.heap.size + 1, 2, none⟩ (by simp; omega)).trans r2; have ra3 := fun o => (World.cell?_alloc_old w4 o ⟨w.heap.size + 1, 3, none⟩ (by simp; omega)).trans r3; have qa0 := fun o => (World.frozen?_alloc_old w4 o ⟨w.heap.size + 1, 0, none⟩ (by simp; omega)).trans q0; have qa1 := fun o => (World.frozen?_alloc_old w4 o ⟨w.heap.size + 1, 1, none⟩ (by simp; omega)).trans q1; have qa2 := fun o => (World.frozen?_alloc_old w4 o ⟨w.heap.size + 1, 2, none⟩ (by simp; omega)).trans q2; have qa3 := fun o => (World.frozen?_alloc_old w4 o ⟨w.heap.size + 1, 3, none⟩ (by simp; omega)).trans q3)
                          | (go_at_call 42; refine (CP.out _).mono ?_; rintro e w' ⟨rfl, rfl⟩))
                        go_region
                        all_goals
                          go_wp2
                          rw [HT.out]
                          exact done3 HS4.out rfl (by rw [Lib.extract_upto]) rfl rfl rfl rfl rfl _
                      · rw [if_neg hpar] at HT
                        rw [decide_eq_false hpar] at CP
                        clear hpar
                        go_wp2_with (first
                          | (go_at_call 40; refine (CM.out _).mono ?_; rintro e w3 ⟨num, rfl, hb⟩; have HS3 := Lib.hid (HS.out.step hb); clear hb; clear g0 f0 r0 r1 r2 r3 q0 q1 q2 q3; obtain ⟨g0, f0⟩ := HS3.out.text)
                          | (go_at_call 39; refine (CB.out _).mono ?_; rintro e w' ⟨rfl, rfl⟩)
                          | (go_at_call 38; refine (CN.out _).mono ?_; rintro e w4 ⟨nn, rfl, hb⟩; have HS4 := Lib.hid (HS3.out.step hb); clear hb; clear g0 f0; obtain ⟨g0, f0⟩ := HS4.out.text; obtain ⟨⟨r0, r1, r2, r3⟩, q0, q1, q2, q3⟩ := HS4.out.2.1.cells; have hlt4 := HS4.out.2.1.lt; have ga := fun o => (World.cell?_alloc_old w4 o ⟨w.heap.size, 0, none⟩ (by simp; omega)).trans g0; have ra0 := fun o => (World.cell?_alloc_old w4 o ⟨w.heap.size + 1, 0, none⟩ (by simp; omega)).trans r0; have ra1 := fun o => (World.cell?_alloc_old w4 o ⟨w.heap.size + 1, 1, none⟩ (by simp; omega)).trans r1; have ra2 := fun o => (World.cell?_alloc_old w4 o ⟨w.heap.size + 1, 2, none⟩ (by simp; omega)).trans r2; have ra3 := fun o => (World.cell?_alloc_old w4 o ⟨w.heap.size + 1, 3, none⟩ (by simp; omega)).trans r3; have qa0 := fun o => (World.frozen?_alloc_old w4 o ⟨w.heap.size + 1, 0, none⟩ (by simp; omega)).trans q0; have qa1 := fun o => (World.frozen?_alloc_old w4 o ⟨w.heap.size + 1, 1, none⟩ (by simp; omega)).trans q1; have qa2 := fun o => (World.frozen?_alloc_old w4 o ⟨w.heap.size + 1, 2, none⟩ (by simp; omega)).trans q2; have qa3 := fun o => (World.frozen?_alloc_old w4 o ⟨w.heap.size + 1, 3, none⟩ (by simp; omega)).trans q3)
                          | (go_at_call 42; refine (CP.out _).mono ?_; rintro e w' ⟨rfl, rfl⟩))
                        rw [HT.out]
                        exact done2 HS4.out rfl (by rw [← HRW.out]) rfl rfl rfl rfl rfl _
      · have hl2 : 2 ≤ s.size := by
          rw [Lib.size_eq]
          rcases hll : s.data.toList with _ | ⟨a, _ | ⟨b, r'⟩⟩
          · rw [hll] at hrm; simp [Lib.hasPrefix] at hrm
          · rw [hll] at hrm; simp [Lib.hasPrefix] at hrm
          · simp
        have hC := fun w => Tryd.strings_CutPrefix s ⟨#[47, 42]⟩ w
        simp only [] at hC
        rw [show Lib.trimPrefix s.data.toList [47, 42] = s.data.toList.drop 2 by unfold Lib.trimPrefix; rw [hrm]; rfl, hrm] at hC
        have hT : Sp.tk s.data.toList = ⟨9, s.data.toList.take (2 + Sp.note (s.data.toList.drop 2)), []⟩ := by
          have := Tk.tk_note (c := c) (r := r) HBL.out (by rw [← hl]; exact hrm)
          rw [← hl] at this; exact this
        rw [Tk.note_index] at hT
        obtain ⟨m3, hm3⟩ := HG.out.below HB.out
        have hI := fun w (h : w.cell? ⟨3, 0, none⟩ = some (.int .i64 m3)) => Tryd.strings_Index (⟨(s.data.toList.drop 2).toArray⟩ : ByteArray) ⟨#[42, 47]⟩ m3 w (by rw [Lib.size_eq]; show (s.data.toList.drop 2).length < _; rw [List.length_drop, ← Lib.size_eq]; omega) h
        simp only [] at hI
        have hroom := Lib.index_room (s.data.toList.drop 2) [42, 47]
        rw [List.length_drop, ← Lib.size_eq] at hroom
        rw [List.length_drop, ← Lib.size_eq] at hT
        have hge := Lib.index_ge (s.data.toList.drop 2) [42, 47]
        obtain ⟨ix, hix⟩ : ∃ ix, Lib.index (s.data.toList.drop 2) [42, 47] = ix := ⟨_, rfl⟩
        rw [hix] at hI hroom hT hge
        obtain ⟨u2, hu2⟩ : ∃ u2 : ByteArray, (⟨(s.data.toList.drop 2).toArray⟩ : ByteArray) = u2 := ⟨_, rfl⟩
        rw [hu2] at hC hI
        have HCC := Lib.hid hC
        have HII := Lib.hid hI
        clear hC hI hix hu2 hrm hl hbl
        by_cases hi : 0 ≤ ix
        · rw [if_pos hi] at hT
          obtain ⟨i, rfl⟩ := Int.eq_ofNat_of_zero_le hi
          have hr4 : i + 4 ≤ s.size := by have := hroom hi; simp at this; omega
          rw [show 2 + ((i : Int).toNat + 2) = i + 4 by omega] at hT
          have HT := Lib.hid hT
          have hdi : decide ((0 : Int) ≤ (i : Int)) = true := decide_eq_true (by omega)
          clear hT hroom hge hi
          go_wp2_with (first
            | (go_at_call 33; refine (HCC.out _).mono ?_; rintro e w' ⟨rfl, rfl⟩)
            | (go_at_call 34; refine (HII.out _ hm3).mono ?_; rintro e w' ⟨rfl, rfl⟩))
          rw [HT.out]
          exact done4 HS.out _ rfl (by rw [Lib.extract_upto]) rfl rfl rfl rfl rfl
        · rw [if_neg hi] at hT
          obtain rfl : ix = -1 := by omega
          rw [show 2 + (s.size - 2) = s.size by omega] at hT
          have HT := Lib.hid hT
          clear hT hroom hge hi
          go_wp2_with (first
            | (go_at_call 33; refine (HCC.out _).mono ?_; rintro e w' ⟨rfl, rfl⟩)
            | (go_at_call 34; refine (HII.out _ hm3).mono ?_; rintro e w' ⟨rfl, rfl⟩))
          rw [HT.out]
          exact done HS.out rfl (by rw [List.take_of_length_le (by rw [← Lib.size_eq]; exact Nat.le_refl _), Lib.mk_data]) rfl rfl rfl rfl rfl
    · have hn0 : 0 < n := by
        have h1 := Tk.blanks_pos c r
        rw [← hl, HN.out, hbl] at h1
        exact h1.2 rfl
      have hd : decide (0 < n) = true := decide_eq_true hn0
      have HT := Lib.hid (show Sp.tk s.data.toList = ⟨8, s.data.toList.take n, []⟩ by rw [hl, Tk.tk_blank hbl, ← hl, HN.out])
      clear hl hbl
      go_wp2
      refine Tok.ret rfl rfl ((((HS.out.2.1.set0 _).set1 _).set2 _).set3 _) rfl ⟨0, ?_, ?_⟩
      · rw [HT.out, Lib.extract_upto]
      · exact ((((HB.out.setCell (by simp) _).setCell (by simp) _).setCell (by simp) _).setCell (by simp) _)

end First
end Go.Proofs.YtdjifjnophcnlaaDoor
