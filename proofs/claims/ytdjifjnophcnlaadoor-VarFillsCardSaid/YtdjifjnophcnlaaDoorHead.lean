/-
  cssrule.Head: the text of tokens, one blank for what is silent, is Sp.head. Conditions: each token's text has at most 400 bytes, at most 400 tokens.
-/
import Derived.Test.YtdjifjnophcnlaaDoorBld
import Derived.Test.YtdjifjnophcnlaaDoorTok
import Derived.Test.YtdjifjnophcnlaaDoorView
import Derived.Test.YtdjifjnophcnlaaDoorPVarFillsx3
import Derived.Test.YtdjifjnophcnlaaDoorPVarFillsx5
set_option linter.unusedVariables false
set_option linter.unusedSimpArgs false
namespace Go.Proofs.YtdjifjnophcnlaaDoor
open Go.RowKit Go.Proofs.YtdjifjnophcnlaaDoorW.PrintWords Go.Proofs.YtdjifjnophcnlaaDoorW.PrintLast Go.Proofs.YtdjifjnophcnlaaDoorW.PrintMore
open PVarFills (S37 S28 k37 k28)

theorem Bld.Bd.below {B b : Nat} {bs : List UInt8} {W W' : World} (h : Bld.Bd B b bs W) (hb : Below W.heap.size W W') : Bld.Bd B b bs W' := by
  have key : ∀ {p : Value} {bs : List Value}, Lib.BuilderAtF 34 5 B b p bs W → Lib.BuilderAtF 34 5 B b p bs W' := fun h => by
    have hlt := h.lt
    obtain ⟨hB, v, hv, hown, hne⟩ := h
    exact ⟨hB, v, (hb.block b hlt).trans hv, hown.kept (row := none) ⟨hb.os, hb.tape, hb.output, hb.size, fun k hk _ => hb.block k hk⟩ (Classical.em _), hne⟩
  exact ⟨h.1.elim (fun x => .inl (key x)) (fun x => .inr (key x)), Nat.le_trans h.2 hb.size⟩

theorem Bld.Bd.lt {B b : Nat} {bs : List UInt8} {W : World} (h : Bld.Bd B b bs W) : b < W.heap.size := h.1.elim (fun x => x.lt) (fun x => x.lt)

namespace Head

theorem drop_cons (xs : List S37) (k : Nat) (hk : k < xs.length) : xs.drop k = PVarFills.rd_T37 xs k :: xs.drop (k + 1) := by
  rw [List.drop_eq_getElem_cons hk, PVarFills.rd_T37, Int.toNat_natCast, List.getD_eq_getElem?_getD, List.getElem?_eq_getElem hk]; rfl
theorem rd_mem (xs : List S37) (k : Nat) (hk : k < xs.length) : PVarFills.rd_T37 xs k ∈ xs := by
  rw [PVarFills.rd_T37, Int.toNat_natCast, List.getD_eq_getElem?_getD, List.getElem?_eq_getElem hk]; exact List.getElem_mem hk

/-- What is left to say at round k. -/
def Inv (xs : List S37) (k : Nat) (acc : Sp.By) (gap : Bool) : Prop := Sp.headG (views (xs.drop k)) acc gap = Sp.head (views xs) ∧ acc.length ≤ 402 * k

theorem Inv.start (xs : List S37) : Inv xs 0 [] false := ⟨rfl, by simp⟩
theorem Inv.quiet {xs : List S37} {k : Nat} {acc : Sp.By} {gap : Bool} (h : Inv xs k acc gap) (hk : k < xs.length) (hs : Sp.silent (view (PVarFills.rd_T37 xs k)) = true) : Inv xs (k + 1) acc (!acc.isEmpty) := by
  obtain ⟨h1, h2⟩ := h
  rw [drop_cons xs k hk] at h1
  simp only [views, List.map_cons, Sp.headG, hs, if_true] at h1
  exact ⟨h1, by omega⟩
theorem Inv.loud {xs : List S37} {k : Nat} {acc : Sp.By} {gap : Bool} (h : Inv xs k acc gap) (hk : k < xs.length) (hs : Sp.silent (view (PVarFills.rd_T37 xs k)) = false) (hz : (PVarFills.rd_T37 xs k).f1.size ≤ 400) :
    Inv xs (k + 1) ((if gap then acc ++ [32] else acc) ++ (PVarFills.rd_T37 xs k).f1.data.toList) false := by
  obtain ⟨h1, h2⟩ := h
  rw [drop_cons xs k hk] at h1
  simp only [views, List.map_cons, Sp.headG, hs] at h1
  refine ⟨h1, ?_⟩
  rw [List.length_append, ← Lib.size_eq]
  cases gap <;> simp <;> omega
theorem Inv.stop {xs : List S37} {acc : Sp.By} {gap : Bool} (h : Inv xs xs.length acc gap) : acc = Sp.head (views xs) := by
  have h1 := h.1
  rw [List.drop_length] at h1
  exact h1

theorem wblank (B b : Nat) (bs : List UInt8) (w : World) (h : Bld.Bd B b bs w) (hl : bs.length + 1 ≤ 140737488355328) :
    Calls Tryd.prog 49 #[.pointer (some ⟨b, 0, none⟩), .int .u8 32] w fun e w' => e = .returned .nilIface ∧ Bld.Bd B b (bs ++ [32]) w' ∧ Below B w w' ∧ Lib.OthersKept 5 (some b) w w' := Bld.wbyte B b bs 32 w h hl

set_option maxHeartbeats 4000000 in
set_option maxRecDepth 100000 in
theorem head_any (A : Option Addr) (c : Nat) (xs : List S37) (w : World) (hC : Kd.C k37 w A xs.length xs) (hn : xs.length ≤ 400) (hz : ∀ x ∈ xs, x.f1.size ≤ 400) :
    Calls Tryd.prog 26 #[.slice A xs.length c] w fun e w' => e = .returned (.string ⟨(Sp.head (views xs)).toArray⟩) ∧ Below w.heap.size w w' := by
  have HC := Lib.hid hC
  have HZ := Lib.hid hz
  have HS := Lib.hid (Inv.start xs)
  clear hC hz
  go_enter Tryd.func26, Tryd.ntmps26
  go_wp2
  have HB0 := Lib.hid (Bld.Bd.fresh w)
  have HW0 := Lib.hid ((Below.refl w.heap.size w).alloc (Nat.le_refl _) (.cells #[.pointer none, .slice none 0 0] 34))
  obtain ⟨w1, hw1⟩ : ∃ w1, w.alloc (.cells #[.pointer none, .slice none 0 0] 34) = w1 := ⟨_, rfl⟩
  go_loopw [4, 9] (fun g i wr => ∃ (gap : Bool) (k : Nat) (acc : Sp.By), g = .bool gap ∧ i = .int .i64 k ∧ k ≤ xs.length ∧ Hid (Inv xs k acc gap ∧ Bld.Bd w.heap.size w.heap.size acc wr ∧ Below w.heap.size w wr)) (fun _ i _ => xs.length - (intOf i).toNat)
  case atStart => exact ⟨false, 0, [], rfl, rfl, Nat.zero_le _, Lib.hid ⟨HS.out, HB0.out, HW0.out⟩⟩
  case round =>
    clear HS HB0 HW0
    obtain ⟨gap, k, acc, rfl, rfl, hk, HI⟩ := hrel
    by_cases hlt : k < xs.length
    · have hB := HI.out.2.2
      have hCr := Kd.C_below HC.out hB
      obtain ⟨ad, rfl, hx0, hx1, hx2, hx3⟩ := PVarFills.at_T37 hCr (k : Int) (by omega) (by omega)
      have HX := Lib.hid (rd_mem xs k hlt)
      have hsz := HZ.out _ HX.out
      have HQ := Lib.hid (fun h => Inv.quiet HI.out.1 hlt h)
      have HL := Lib.hid (fun h => Inv.loud HI.out.1 hlt h hsz)
      obtain ⟨x, hx⟩ : ∃ x, PVarFills.rd_T37 xs (k : Int) = x := ⟨_, rfl⟩
      rw [hx] at hx0 hx1 hx2 hx3 HX HQ HL hsz
      have hacc := HI.out.1.2
      have HBd := Lib.hid HI.out.2.1
      have HBw := Lib.hid hB
      have hBs := hB.size
      have hlt0 := HBd.out.lt
      clear hB hCr hx HI
      obtain ⟨x0, x1, x2, x3⟩ := x
      dsimp only at hx0 hx1 hx2 hx3 hsz
      simp only [Int.toNat_natCast] at hx0 hx1 hx2 hx3
      by_cases hs : Sp.silent (view ⟨x0, x1, x2, x3⟩) = true
      · have HF := Lib.hid (show PVarFills.cssrule_silent.f x0 x1 x2 x3 = some true by
          simp only [Sp.silent, view, Bool.or_eq_true, beq_iff_eq] at hs
          unfold PVarFills.cssrule_silent.f
          by_cases h8 : x0 = 8
          · simp [h8]
          · rcases hs with h | h
            · exact absurd h h8
            · simp [h])
        have HI2 := Lib.hid (HQ.out hs)
        have hpos : ∃ b, decide ((acc.length : Int) > 0) = b ∧ b = !acc.isEmpty := ⟨_, rfl, by cases acc <;> simp⟩
        obtain ⟨b, hb0, hbE⟩ := hpos
        have hb1 : decide (0 < (acc.length : Int)) = b := hb0
        have hb2 : decide (0 < acc.length) = b := by rw [← hb0]; simp
        have HBE := Lib.hid hbE
        clear hs hbE HQ HL
        go_wp2_with (first
          | (go_at_call 48; refine (PVarFills.cssrule_silent.calls x0 x1 x2 x3 true _ HF.out).mono ?_; rintro e w3 ⟨rfl, hb⟩; have HBd3 := Lib.hid ((HBd.out.alloc _).below hb); have HB3 := Lib.hid ((HBw.out.alloc hBs _).trans (hb.mono (by simp; omega))); clear hb)
          | (go_at_call 12; refine (Bld.blen _ _ _ _ HBd3.out).mono ?_; rintro e w4 ⟨rfl, rfl⟩))
        go_roundw
        case rel => exact ⟨!acc.isEmpty, k + 1, acc, by rw [← HBE.out, ← hb0], rfl, by omega, Lib.hid ⟨HI2.out, HBd3.out, HB3.out⟩⟩
        case measure => simp [intOf]; omega
      · replace hs : Sp.silent (view ⟨x0, x1, x2, x3⟩) = false := by simpa using hs
        have HF := Lib.hid (show PVarFills.cssrule_silent.f x0 x1 x2 x3 = some false by
          simp only [Sp.silent, view, Bool.or_eq_false_iff, beq_eq_false_iff_ne] at hs
          unfold PVarFills.cssrule_silent.f
          rw [if_neg hs.1]
          simp [hs.2])
        have HI2 := Lib.hid (HL.out hs)
        clear hs HQ HL
        cases gap
        · go_wp2_with (first
            | (go_at_call 48; refine (PVarFills.cssrule_silent.calls x0 x1 x2 x3 false _ HF.out).mono ?_; rintro e w3 ⟨rfl, hb⟩; have HBd3 := Lib.hid ((HBd.out.alloc _).below hb); have HB3 := Lib.hid ((HBw.out.alloc hBs _).trans (hb.mono (by simp; omega))); have HA3 := Lib.hid ((Tok.At.new wr (.int .i64 x0) (.string x1) (.string x2) (.int .i64 x3)).below hb (by simp)); clear hb; obtain ⟨⟨g0, g1, g2, g3⟩, _⟩ := HA3.out.cells)
            | (go_at_call 9; refine (Bld.wstr _ _ _ _ _ HBd3.out (by omega)).mono ?_; rintro e w4 ⟨rfl, hbd, hb, _⟩; have HBd4 := Lib.hid hbd; have HB4 := Lib.hid (HB3.out.trans hb); clear hbd hb))
          go_roundw
          case rel => exact ⟨false, k + 1, acc ++ x1.data.toList, rfl, rfl, by omega, Lib.hid ⟨HI2.out, HBd4.out, HB4.out⟩⟩
          case measure => simp [intOf]; omega
        · go_wp2_with (first
            | (go_at_call 48; refine (PVarFills.cssrule_silent.calls x0 x1 x2 x3 false _ HF.out).mono ?_; rintro e w3 ⟨rfl, hb⟩; have HBd3 := Lib.hid ((HBd.out.alloc _).below hb); have HB3 := Lib.hid ((HBw.out.alloc hBs _).trans (hb.mono (by simp; omega))); have HA3 := Lib.hid ((Tok.At.new wr (.int .i64 x0) (.string x1) (.string x2) (.int .i64 x3)).below hb (by simp)); clear hb)
            | (go_at_call 49; refine (wblank _ _ _ _ HBd3.out (by omega)).mono ?_; rintro e w4 ⟨rfl, hbd, hb, hk⟩; have HBd4 := Lib.hid hbd; have HB4 := Lib.hid (HB3.out.trans hb); have HA4 := Lib.hid (show Tok.At w4 wr.heap.size (.int .i64 x0) (.string x1) (.string x2) (.int .i64 x3) from hk _ _ HA3.out (by simp; omega) (fun c fz e => by cases e)); clear hbd hb hk; obtain ⟨⟨g0, g1, g2, g3⟩, _⟩ := HA4.out.cells)
            | (go_at_call 9; refine (Bld.wstr _ _ _ _ _ HBd4.out (by simp; omega)).mono ?_; rintro e w5 ⟨rfl, hbd, hb, _⟩; have HBd5 := Lib.hid hbd; have HB5 := Lib.hid (HB4.out.trans hb); clear hbd hb))
          go_roundw
          case rel => exact ⟨false, k + 1, acc ++ [32] ++ x1.data.toList, rfl, rfl, by omega, Lib.hid ⟨HI2.out, HBd5.out, HB5.out⟩⟩
          case measure => simp [intOf]; omega
    · obtain rfl : k = xs.length := by omega
      have hst := Inv.stop HI.out.1
      have HBd := Lib.hid HI.out.2.1
      have HBw := Lib.hid HI.out.2.2
      clear HI
      have HST := Lib.hid hst
      clear hst
      go_wp2_with (first
        | (go_at_call 13; refine (Bld.bstr _ _ _ _ HBd.out).mono ?_; rintro e w3 ⟨rfl, hb⟩; have HB3 := Lib.hid hb; clear hb))
      go_ret
      exact ⟨by rw [HST.out]; rfl, HBw.out.trans (HB3.out)⟩

end Head
end Go.Proofs.YtdjifjnophcnlaaDoor
