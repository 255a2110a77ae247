/-
  strings.EqualFold of any text of at most 400 bytes against "var": true just where the text, its letters lowered, is "var". It reads unicode.asciiFold at three letters and their capitals. The world is as it was, but for an iterator's block and draws.
  The small functions of package vars and cssrule.Head: isVar, last, asked, Head answer what the plain functions of ..Sp say, for tokens of at most 400 bytes; what was there in memory stays.
-/
import Derived.Test.YtdjifjnophcnlaaDoorCut
import Derived.ScopeJumps
import Derived.WalkMore
import Derived.LoopN
import Derived.Laws.RangeAny
import Derived.Laws.Strings3
import Derived.Deep.LoopGhost
import Derived.Test.YtdjifjnophcnlaaDoorPVarFillsx3
import Derived.Test.YtdjifjnophcnlaaDoorPVarFillsx5
set_option linter.unusedVariables false
set_option linter.unusedSimpArgs false

namespace Go.Proofs.YtdjifjnophcnlaaDoor

/-- unicode.asciiFold at the three letters of "var" and at their capitals. -/
def FoldTab (w : World) : Prop :=
  (w.cell? ⟨0, 118, none⟩ = some (.int .u16 86) ∧ w.cell? ⟨0, 86, none⟩ = some (.int .u16 118)) ∧
  (w.cell? ⟨0, 97, none⟩ = some (.int .u16 65) ∧ w.cell? ⟨0, 65, none⟩ = some (.int .u16 97)) ∧
  (w.cell? ⟨0, 114, none⟩ = some (.int .u16 82) ∧ w.cell? ⟨0, 82, none⟩ = some (.int .u16 114))

namespace Fold
open Go.RowKit

set_option maxHeartbeats 1000000 in
set_option maxRecDepth 100000 in
theorem simple_any (r v : Nat) (w : World) (hr : r < 128) (hc : w.cell? ⟨0, r, none⟩ = some (.int .u16 v)) (hv : v < 128) :
    Calls Tryd.prog 44 #[.int .i32 r] w fun e w' => e = .returned (.int .i32 v) ∧ w = w' := by
  have h1 : decide ((r : Int) < 0) = false := decide_eq_false (by omega)
  have h2 : decide ((1114111 : Int) < (r : Int)) = false := decide_eq_false (by omega)
  go_enter Tryd.func44, Tryd.ntmps44
  go_wp2
  go_ret
  exact ⟨rfl, rfl⟩

/-- A scope out of which the run may jump once, forward, to label l. -/
theorem wp_scope_forward {P : Program} {a : Act} {w : World} {Q : Exit → Act → World → Prop} {c rest : Code} (l : Nat) (hf : findLabel c l = some rest)
    (first : c.wp P (Exit.jump l (fun a w => rest.wp P (Exit.jump l (fun _ _ => False) Q) a w) Q) a w) : (Code.scope c).wp P Q a w :=
  wp_scope_jumps l (fun a w => rest.wp P (Exit.jump l (fun _ _ => False) Q) a w) (fun _ _ => 0) hf first
    (fun a w h => Code.wp_mono (fun e a' w' he => by
      cases e <;> simp only [Exit.jump] at he ⊢
      all_goals first | exact he | exact absurd he.2 (by simp)) h)

def lowb (c : UInt8) : UInt8 := if 65 ≤ c && c ≤ 90 then c + 32 else c
theorem low_cons (c : UInt8) (r : Sp.By) : Sp.low (c :: r) = lowb c :: Sp.low r := rfl

theorem lowb_nat (c : UInt8) : (lowb c).toNat = if 65 ≤ c.toNat ∧ c.toNat ≤ 90 then c.toNat + 32 else c.toNat := by
  exact Leaf.all_bytes (p := fun c => (lowb c).toNat = if 65 ≤ c.toNat ∧ c.toNat ≤ 90 then c.toNat + 32 else c.toNat) (by decide +kernel) c
theorem yes {x y : UInt8} {lx ly : Sp.By} (h : (lowb x).toNat = y.toNat) : (Sp.low (x :: lx) == y :: ly) = (Sp.low lx == ly) := by
  have : lowb x = y := UInt8.toNat_inj.1 h
  rw [low_cons, List.cons_beq_cons, this]; simp
theorem no {x y : UInt8} {lx ly : Sp.By} (h : (lowb x).toNat ≠ y.toNat) : (Sp.low (x :: lx) == y :: ly) = false := by
  have : (lowb x == y) = false := by
    rw [beq_eq_false_iff_ne]; intro e; exact h (by rw [e])
  rw [low_cons, List.cons_beq_cons, this]; rfl
theorem low_length (l : Sp.By) : (Sp.low l).length = l.length := by simp [Sp.low]
theorem at_end {l t : Sp.By} (h : l = [] ∨ t = []) : (Sp.low l == t) = decide (l.length = t.length) := by
  rcases h with rfl | rfl
  · cases t <;> simp [Sp.low]
  · cases l with
    | nil => simp [Sp.low]
    | cons a r => rw [low_cons]; simp

set_option maxHeartbeats 4000000 in
set_option maxRecDepth 1000000 in
theorem fold_any (s : ByteArray) (w : World) (hm : s.size ≤ 400) (hF : FoldTab w) :
    Calls Tryd.prog 21 #[.string s, .string ⟨#[118, 97, 114]⟩] w fun e w' => e = .returned (.bool (Sp.low s.data.toList == [118, 97, 114])) ∧ Below w.heap.size w w' := by
  obtain ⟨t, ht⟩ : ∃ t : ByteArray, (⟨#[118, 97, 114]⟩ : ByteArray) = t := ⟨_, rfl⟩
  have htl : t.data.toList = [118, 97, 114] := by rw [← ht]
  have htz : t.size = 3 := by rw [← ht]; rfl
  rw [ht]
  obtain ⟨M, hM⟩ : ∃ M : Nat, min (s.size : Int) (t.size : Int) = (M : Int) := ⟨min s.size t.size, by omega⟩
  have hMs : M ≤ s.size := by omega
  have hMt : M ≤ t.size := by omega
  have hMe : M = s.size ∨ M = t.size := by omega
  have HTL := Lib.hid htl
  have HTZ := Lib.hid htz
  have HF := Lib.hid hF
  clear htl htz ht hF
  go_enter Tryd.func21, Tryd.ntmps21
  go_wp2
  refine wp_scope_forward 0 rfl ?_
  go_wp2
  go_loopg [5] M (fun g s5 wx => w = wx ∧ ∃ i : Nat, i + g = M ∧ s5 = .int .i64 i ∧ Hid ((Sp.low (s.data.toList.drop i) == t.data.toList.drop i) = (Sp.low s.data.toList == [118, 97, 114])))
  case atStart => exact ⟨rfl, 0, by omega, rfl, Lib.hid (by rw [HTL.out]; rfl)⟩
  case round =>
    obtain ⟨rfl, i, hig, rfl, HI⟩ := hrel
    clear hM
    cases gk with
    | zero =>
      have hiM : ¬ ((i : Int) < (M : Int)) := by omega
      obtain rfl : i = M := by omega
      have hE : (Sp.low s.data.toList == [118, 97, 114]) = decide (s.size = t.size) := by
        rw [← HI.out, at_end (by
          rcases hMe with h | h
          · exact Or.inl (List.drop_eq_nil_of_le (by rw [← Lib.size_eq]; omega))
          · exact Or.inr (List.drop_eq_nil_of_le (by rw [← Lib.size_eq]; omega))), List.length_drop, List.length_drop, ← Lib.size_eq, ← Lib.size_eq]
        exact decide_eq_decide.2 (by omega)
      have HE := Lib.hid hE
      clear hE
      by_cases hst : s.size = t.size
      · have hb : ((s.size : Int) == (t.size : Int)) = true := beq_iff_eq.2 (by omega)
        have HST := Lib.hid hst
        clear hst
        go_wp2
        simp only [Exit.jump]
        go_ret
        exact ⟨by rw [HE.out, decide_eq_true HST.out]; rfl, Below.refl _ _⟩
      · have hb : ((s.size : Int) == (t.size : Int)) = false := beq_eq_false_iff_ne.2 (by omega)
        go_wp2
        simp only [Exit.jump]
        go_ret
        exact ⟨by rw [HE.out, decide_eq_false hst]; rfl, Below.refl _ _⟩
    | succ g =>
      have hiM : (i : Int) < (M : Int) := by omega
      have hisz : (i : Int) < (s.size : Int) := by omega
      have hitz : (i : Int) < (t.size : Int) := by omega
      obtain ⟨x, hx⟩ : ∃ x : UInt8, s[i]'(by omega) = x := ⟨_, rfl⟩
      obtain ⟨y, hy⟩ : ∃ y : UInt8, t[i]'(by omega) = y := ⟨_, rfl⟩
      have hxl : s.data.toList.drop i = x :: s.data.toList.drop (i + 1) := by rw [Name.drop_get s i (by omega), hx]
      have hyl : t.data.toList.drop i = y :: t.data.toList.drop (i + 1) := by rw [Name.drop_get t i (by omega), hy]
      have hy3 : y.toNat = 118 ∨ y.toNat = 97 ∨ y.toNat = 114 := by
        have h3 : i < 3 := by have := HTZ.out; omega
        rw [HTL.out] at hyl
        rcases i with _ | _ | _ | i
        · left; have := (List.cons.inj hyl).1; rw [← this]; rfl
        · right; left; have := (List.cons.inj hyl).1; rw [← this]; rfl
        · right; right; have := (List.cons.inj hyl).1; rw [← this]; rfl
        · omega
      have hlw := lowb_nat x
      have HX := Lib.hid hxl
      have HY := Lib.hid hyl
      have HLW := Lib.hid hlw
      have hy128 : y.toNat < 128 := by omega
      clear hxl hyl hlw
      by_cases hx128 : x.toNat < 128
      · have hor : bits .or .u8 (x.toNat : Int) (y.toNat : Int) = ((x.toNat ||| y.toNat : Nat) : Int) := u8_or_nat _ _ (by omega) (by omega)
        have hor128 : ¬ ((128 : Int) ≤ ((x.toNat ||| y.toNat : Nat) : Int)) := by have := Nat.or_lt_two_pow (n := 7) hx128 hy128; omega
        have hylo : 97 ≤ y.toNat := by omega
        have hyhi : y.toNat ≤ 122 := by omega
        clear hy3
        go_wp2
        all_goals (try simp only [beq_iff_eq, beq_eq_false_iff_ne, ne_eq] at *)
        all_goals first
          | (go_roundg g
             case measure => omega
             case rel => exact ⟨rfl, i + 1, by omega, by first | rfl | simp, Lib.hid (by rw [← HI.out, HX.out, HY.out, yes (by rw [HLW.out]; split <;> omega)])⟩)
          | (simp only [Exit.jump]
             go_ret
             refine ⟨?_, Below.refl _ _⟩
             rw [← HI.out, HX.out, HY.out, no (by rw [HLW.out]; split <;> omega)]
             rfl)
      · have hor : bits .or .u8 (x.toNat : Int) (y.toNat : Int) = ((x.toNat ||| y.toNat : Nat) : Int) := u8_or_nat _ _ (UInt8.toNat_lt x) (by omega)
        have hor128 : (128 : Int) ≤ ((x.toNat ||| y.toNat : Nat) : Int) := by have := Nat.left_le_or (n := x.toNat) (m := y.toNat); omega
        have HR := Lib.hid (show (Sp.low s.data.toList == [118, 97, 114]) = false by
          rw [← HI.out, HX.out, HY.out, no (by rw [HLW.out, if_neg (by omega)]; omega)])
        go_wp2_with fail
        go_step3
        refine ⟨rfl, ?_⟩
        have hsi : (s.extract i s.size).size = s.size - i := by rw [Lib.size_eq, Lib.extract_to_end, List.length_drop, ← Lib.size_eq]
        have hti : (t.extract i t.size).size = t.size - i := by rw [Lib.size_eq, Lib.extract_to_end, List.length_drop, ← Lib.size_eq]
        have hsx : 0 < (s.extract i s.size).size := by omega
        have hd := decode_high (s.extract i s.size) 0 hsx (by
          have h1 := Lib.data_getElem? (s.extract i s.size) 0 hsx
          rw [Lib.extract_to_end, HX.out] at h1
          have h2 : x = (s.extract i s.size)[0] := by simpa using h1
          rw [← h2]; omega)
        have hdl := decode_le (s.extract i s.size) 0
        have hnext := fun ty => run_next_any (P := Tryd.prog) w (s.extract i s.size) 0 ty hsx
        obtain ⟨d, hdd⟩ : ∃ d, Utf8.decode (s.extract i s.size) 0 = d := ⟨_, rfl⟩
        rw [hdd] at hd hdl hnext
        obtain ⟨dr, dw⟩ := d
        simp only [] at hd hdl hnext
        have hd1 := hd.1
        obtain ⟨ss, hss⟩ : ∃ ss, s.extract i s.size = ss := ⟨_, rfl⟩
        obtain ⟨tt, htt⟩ : ∃ tt, t.extract i t.size = tt := ⟨_, rfl⟩
        have hty : tt.data.toList[0]? = some y := by rw [← htt, Lib.extract_to_end, HY.out]; rfl
        have CD := Lib.hid (fun w => Tryd.utf8_DecodeRuneInString_ascii tt y w hty hy128)
        rw [htt] at hti
        rw [hss] at hnext hsi
        have htt1 : 1 ≤ tt.size := by omega
        have htt0 : ((tt.size : Int) == 0) = false := beq_eq_false_iff_ne.2 (by omega)
        have b1 : (((y.toNat : Nat) : Int) == ((dr : Nat) : Int)) = false := beq_eq_false_iff_ne.2 (by omega)
        have b2 : decide (((y.toNat : Nat) : Int) < ((dr : Nat) : Int)) = true := decide_eq_true (by omega)
        have b3 : decide (((dr : Nat) : Int) < 128) = false := decide_eq_false (by omega)
        obtain ⟨z, hz, hcy, hcz⟩ : ∃ z : Nat, z + 32 = y.toNat ∧ w.cell? ⟨0, y.toNat, none⟩ = some (.int .u16 (z : Nat)) ∧ w.cell? ⟨0, z, none⟩ = some (.int .u16 (y.toNat : Nat)) := by
          rcases hy3 with h | h | h
          · exact ⟨86, by omega, by rw [h]; exact HF.out.1.1, by rw [h]; exact HF.out.1.2⟩
          · exact ⟨65, by omega, by rw [h]; exact HF.out.2.1.1, by rw [h]; exact HF.out.2.1.2⟩
          · exact ⟨82, by omega, by rw [h]; exact HF.out.2.2.1, by rw [h]; exact HF.out.2.2.2⟩
        have hcy' := fun o => (World.cell?_alloc_lt w o ⟨0, y.toNat, none⟩ (World.block_lt_of_cell? w _ hcy)).trans hcy
        have hcz' := fun o => (World.cell?_alloc_lt w o ⟨0, z, none⟩ (World.block_lt_of_cell? w _ hcz)).trans hcz
        have C1 := Lib.hid (fun p => simple_any y.toNat z (w.iter ss p) hy128 (hcy' _) (by omega))
        have C2 := Lib.hid (fun p => simple_any z y.toNat (w.iter ss p) (by omega) (hcz' _) hy128)
        have b4 : (((z : Nat) : Int) != ((y.toNat : Nat) : Int)) = true := bne_iff_ne.2 (by omega)
        have b5 : decide (((z : Nat) : Int) < ((dr : Nat) : Int)) = true := decide_eq_true (by omega)
        have b7 : (z != y.toNat) = true := bne_iff_ne.2 (by omega)
        have b8 : (z == y.toNat) = false := beq_eq_false_iff_ne.2 (by omega)
        have b9 : decide (z < dr) = true := decide_eq_true (by omega)
        have b10 : (y.toNat == dr) = false := beq_eq_false_iff_ne.2 (by omega)
        clear hdd hty hcy hcz hcy' hcz' hd hz hy3 hor hor128
        go_wp2_with fail
        refine wp_loop_rounds 1 ?_
        rw [rounds_succ]
        go_wp2_with (first
          | (go_at_call 43; refine (CD.out _).mono ?_; rintro e w' ⟨rfl, rfl⟩)
          | (go_at_call 44; refine (C1.out _).mono ?_; rintro e w' ⟨rfl, rfl⟩))
        refine wp_loop_rounds 2 ?_
        rw [rounds_succ]
        go_wp2_with (first
          | (go_at_call 44; refine (C2.out _).mono ?_; rintro e w' ⟨rfl, rfl⟩))
        rw [rounds_succ]
        go_wp2_with (fail)
        simp only [Exit.jump]
        go_ret
        exact ⟨by rw [HR.out]; rfl, (Below.refl _ _).alloc (Nat.le_refl _) _⟩

end Fold
end Go.Proofs.YtdjifjnophcnlaaDoor

namespace Go.Proofs.YtdjifjnophcnlaaDoor
open Go.RowKit Go.Proofs.YtdjifjnophcnlaaDoorW.PrintWords Go.Proofs.YtdjifjnophcnlaaDoorW.PrintLast Go.Proofs.YtdjifjnophcnlaaDoorW.PrintMore
open PVarFills (S37 S28 k37 k28)

theorem cell_below {w w' : World} {a : Addr} {v : Value} (h : w.cell? a = some v) (hb : Below w.heap.size w w') : w'.cell? a = some v := (hb.cell (World.block_lt_of_cell? w _ h)).trans h
theorem FoldTab.below {w w' : World} (h : FoldTab w) (hb : Below w.heap.size w w') : FoldTab w' :=
  ⟨⟨cell_below h.1.1 hb, cell_below h.1.2 hb⟩, ⟨cell_below h.2.1.1 hb, cell_below h.2.1.2 hb⟩, ⟨cell_below h.2.2.1 hb, cell_below h.2.2.2 hb⟩⟩

namespace Vars

/-- A token's struct as it is handed over. -/
abbrev tv (x : S37) : Value := .agg #[.int .i64 x.f0, .string x.f1, .string x.f2, .int .i64 x.f3]

set_option maxHeartbeats 1000000 in
set_option maxRecDepth 100000 in
theorem isVar_any (x : S37) (w : World) (hz : x.f2.size ≤ 400) (hF : FoldTab w) :
    Calls Tryd.prog 8 #[tv x] w fun e w' => e = .returned (.bool (Sp.isVar (view x))) ∧ Below w.heap.size w w' := by
  obtain ⟨x0, x1, x2, x3⟩ := x
  simp only [] at hz
  have HF := Lib.hid hF
  clear hF
  by_cases hk : x0 = 2
  · have hb : (x0 == 2) = true := by rw [hk]; rfl
    have HS := Lib.hid (show Sp.isVar (view ⟨x0, x1, x2, x3⟩) = (Sp.low x2.data.toList == [118, 97, 114]) by simp [Sp.isVar, view, hk])
    have CF := Lib.hid (fun w h => Fold.fold_any x2 w hz h)
    obtain ⟨b, hbb⟩ : ∃ b, (Sp.low x2.data.toList == [118, 97, 114]) = b := ⟨_, rfl⟩
    rw [hbb] at HS CF
    clear hk hbb
    go_enter Tryd.func8, Tryd.ntmps8
    go_wp2_with (first
      | (go_at_call 21; refine (CF.out _ (HF.out.below ((Below.refl _ _).alloc (Nat.le_refl _) _))).mono ?_; rintro e w2 ⟨rfl, hb2⟩; have HB := Lib.hid hb2; clear hb2))
    go_ret
    exact ⟨by rw [HS.out]; simp, ((Below.refl _ _).alloc (Nat.le_refl _) _).trans (HB.out.mono (by simp))⟩
  · have hb : (x0 == 2) = false := beq_eq_false_iff_ne.2 hk
    have HS := Lib.hid (show Sp.isVar (view ⟨x0, x1, x2, x3⟩) = false by simp [Sp.isVar, view, hk])
    clear hk
    go_enter Tryd.func8, Tryd.ntmps8
    go_wp2
    go_ret
    exact ⟨by rw [HS.out]; rfl, (Below.refl _ _).alloc (Nat.le_refl _) _⟩

end Vars
end Go.Proofs.YtdjifjnophcnlaaDoor
