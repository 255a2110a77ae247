/-
  csstok.name answers what the plain function Sp.nam says, for strings of at most 400 bytes; what was there in memory stays.
  csstok.text answers what the plain function Sp.textTok says, for strings of at most 400 bytes; what was there in memory stays.
  csstok.named, digits, lower and the inner function of first answer what the plain functions of ..Sp say, for strings of at most 400 bytes; what was there in memory stays.
-/
import Derived.Test.YtdjifjnophcnlaaDoorLeaf
import Derived.Test.YtdjifjnophcnlaaDoorBld
import Derived.LoopTactic
import Derived.Outline
import Derived.Test.YtdjifjnophcnlaaDoorTok
import Derived.Deep.RegionWith
import Derived.Deep.RegionHeld3
import Derived.StillTailTactics
import Derived.BigQuiet
import Derived.Deep.QuietTactic
import Derived.WalkLawsBesides
import Derived.Lib.TrimByte
import Derived.Laws.IdiomStrings
import Derived.Lib.ConvBytes
set_option linter.unusedVariables false
set_option linter.unusedSimpArgs false

namespace Go.Proofs.YtdjifjnophcnlaaDoor.Name
open Go.RowKit

theorem nam_esc {a b : UInt8} {r : Sp.By} (h : Sp.esc (a :: b :: r) = true) : Sp.nam (a :: b :: r) = (b :: (Sp.nam r).1, (Sp.nam r).2 + 2) := by
  rw [Sp.nam, if_pos (by simpa [Sp.esc] using h)]
theorem nam_sgn {a : UInt8} {r : Sp.By} (h : Sp.esc (a :: r) = false) (hs : Sp.sgn a = true) : Sp.nam (a :: r) = (a :: (Sp.nam r).1, (Sp.nam r).2 + 1) := by
  cases r with
  | nil => simp [Sp.nam, hs]
  | cons b r => rw [Sp.nam, if_neg (by simpa [Sp.esc] using h), if_pos hs]
theorem nam_stop {a : UInt8} {r : Sp.By} (h : Sp.esc (a :: r) = false) (hs : Sp.sgn a = false) : Sp.nam (a :: r) = ([], 0) := by
  cases r with
  | nil => simp [Sp.nam, hs]
  | cons b r => rw [Sp.nam, if_neg (by simpa [Sp.esc] using h), if_neg (by simp [hs])]

/-- What holds at each round's head. -/
def Inv (l : Sp.By) (B : Nat) (w : World) (k : Nat) (out : Sp.By) (wr : World) : Prop :=
  Sp.nam l = (out ++ (Sp.nam (l.drop k)).1, k + (Sp.nam (l.drop k)).2) ∧ out.length ≤ k ∧ Bld.Bd B B out wr ∧ Below w.heap.size w wr

def Post (l : Sp.By) (w : World) (e : Ending) (w' : World) : Prop :=
  e = .returned (.tuple #[.string ⟨(Sp.nam l).1.toArray⟩, .int .i64 (Sp.nam l).2]) ∧ Below w.heap.size w w'

theorem drop_get (s : ByteArray) (k : Nat) (h : k < s.size) : s.data.toList.drop k = (s[k]'h) :: s.data.toList.drop (k + 1) := by
  rw [List.drop_eq_getElem_cons (by rw [← Lib.size_eq]; exact h)]
  congr 1

theorem inv_start (l : Sp.By) (w : World) : Inv l w.heap.size w 0 [] (w.alloc (.cells #[.pointer none, .slice none 0 0] 34)) :=
  ⟨by simp, by simp, Bld.Bd.fresh w, (Below.refl _ _).alloc (Nat.le_refl _) _⟩

theorem inv_end {l : Sp.By} {B : Nat} {w wr w1 : World} {k : Nat} {out : Sp.By} (h : Inv l B w k out wr) (hB : w.heap.size = B) (hs : Sp.nam (l.drop k) = ([], 0)) {e : Ending}
    (he : e = .returned (.tuple #[.string ⟨out.toArray⟩, .int .i64 k])) (hb : Below B wr w1) : Post l w e w1 := by
  subst hB
  refine ⟨?_, h.2.2.2.trans hb⟩
  rw [he, h.1, hs]; simp

theorem inv_sgn {l : Sp.By} {B : Nat} {w wr w1 : World} {k : Nat} {out : Sp.By} {a : UInt8} {r : Sp.By} (h : Inv l B w k out wr) (hB : w.heap.size = B) (hl : l.drop k = a :: r) (hr : l.drop (k + 1) = r) (he : Sp.esc (a :: r) = false) (hs : Sp.sgn a = true)
    (hb : Below B wr w1) (hd : Bld.Bd B B (out ++ [a]) w1) : Inv l B w (k + 1) (out ++ [a]) w1 := by
  subst hB
  refine ⟨?_, by have := h.2.1; simp; omega, hd, h.2.2.2.trans hb⟩
  rw [h.1, hl, hr, nam_sgn he hs]; simp; omega

theorem inv_esc {l : Sp.By} {B : Nat} {w wr w1 : World} {k : Nat} {out : Sp.By} {a b : UInt8} {r : Sp.By} (h : Inv l B w k out wr) (hB : w.heap.size = B) (hl : l.drop k = a :: b :: r) (hr : l.drop (k + 2) = r) (he : Sp.esc (a :: b :: r) = true)
    (hb : Below B wr w1) (hd : Bld.Bd B B (out ++ [b]) w1) : Inv l B w (k + 2) (out ++ [b]) w1 := by
  subst hB
  refine ⟨?_, by have := h.2.1; simp; omega, hd, h.2.2.2.trans hb⟩
  rw [h.1, hl, hr, nam_esc he]; simp; omega

set_option maxHeartbeats 1000000 in
theorem name_any (s : ByteArray) (w : World) (hm : s.size ≤ 400) : Calls Tryd.prog 68 #[.string s] w (Post s.data.toList w) := by
  have hS := Lib.hid (inv_start s.data.toList w)
  obtain ⟨B, hB⟩ : ∃ B, w.heap.size = B := ⟨_, rfl⟩
  have HB := Lib.hid hB
  go_enter Tryd.func68, Tryd.ntmps68
  go_wp2
  go_loopw [5] (fun i wr => ∃ (k : Nat) (out : Sp.By), k ≤ s.size ∧ i = .int .i64 k ∧ Hid (Inv s.data.toList B w k out wr)) (fun i _ => s.size - (intOf i).toNat)
  case atStart => exact ⟨0, [], by omega, rfl, by rw [← hB]; exact hS⟩
  case round =>
    clear hS hB
    obtain ⟨k, out, hk, rfl, HI⟩ := hrel
    by_cases hlt : k < s.size
    · obtain ⟨a, ha⟩ : ∃ a : UInt8, s[k]'hlt = a := ⟨_, rfl⟩
      have hl := drop_get s k hlt
      rw [ha] at hl
      have hx : (s.extract k s.size).data.toList = s.data.toList.drop k := Lib.extract_to_end s k
      have hxs : (s.extract k s.size).size ≤ 9223372036854775807 := by rw [Lib.size_eq, hx, List.length_drop, ← Lib.size_eq]; omega
      rcases he : Sp.esc (s.data.toList.drop k) with _ | _
      · have CE := Lib.hid (fun w => Leaf.escape_of (s.extract k s.size) w hxs ((congrArg Sp.esc hx).trans he))
        rw [hl] at he
        rcases hs : Sp.sgn a with _ | _
        · have HN := Lib.hid (nam_stop he hs)
          have CS := Lib.hid (fun w => Leaf.sign_of a w hs)
          have HL := Lib.hid hl
          clear hl hx hxs he hs
          go_wp2_with (first
            | (go_at_call 37; refine (CE.out _).mono ?_; rintro e w' ⟨rfl, rfl⟩)
            | (go_at_call 36; refine (CS.out _).mono ?_; rintro e w' ⟨rfl, rfl⟩)
            | (go_at_call 13; refine (Bld.bstr B B out _ HI.out.2.2.1).mono ?_; rintro e w1 ⟨rfl, hb⟩; have HBB := Lib.hid hb; clear hb))
          go_ret2
          exact inv_end HI.out HB.out (by rw [HL.out]; exact HN.out) rfl HBB.out
        · have HN := Lib.hid he
          have HG := Lib.hid hs
          have CS := Lib.hid (fun w => Leaf.sign_of a w hs)
          have HL := Lib.hid hl
          have hbl : out.length + 1 ≤ 140737488355328 := by have := HI.out.2.1; omega
          clear hl hx hxs he hs
          go_wp2_with (first
            | (go_at_call 37; refine (CE.out _).mono ?_; rintro e w' ⟨rfl, rfl⟩)
            | (go_at_call 36; refine (CS.out _).mono ?_; rintro e w' ⟨rfl, rfl⟩)
            | (go_at_call 49; refine (Bld.wbyte B B out a _ HI.out.2.2.1 hbl).mono ?_; rintro e w1 ⟨rfl, hd, hb, hk2⟩; have HBB := Lib.hid hb; have HD := Lib.hid hd; clear hb hd hk2))
          go_roundw
          case rel => exact ⟨k + 1, out ++ [a], by omega, by go_num, Lib.hid (inv_sgn HI.out HB.out HL.out rfl HN.out HG.out HBB.out HD.out)⟩
          case measure => simp [intOf]; omega
      · have CE := Lib.hid (fun w => Leaf.escape_of (s.extract k s.size) w hxs ((congrArg Sp.esc hx).trans he))
        have hlt2 : k + 1 < s.size := by
          rcases Nat.lt_or_ge (k + 1) s.size with h | h
          · exact h
          · have : s.data.toList.drop (k + 1) = [] := List.drop_eq_nil_of_le (by rw [← Lib.size_eq]; exact h)
            rw [hl, this] at he; simp [Sp.esc] at he
        obtain ⟨b, hb⟩ : ∃ b : UInt8, s[k + 1]'hlt2 = b := ⟨_, rfl⟩
        have hl2 := drop_get s (k + 1) hlt2
        rw [hb] at hl2
        rw [hl2] at hl
        rw [hl] at he
        have HE := Lib.hid he
        have HL := Lib.hid hl
        have hbl : out.length + 1 ≤ 140737488355328 := by have := HI.out.2.1; omega
        clear hl hl2 hx hxs he
        go_wp2_with (first
          | (go_at_call 37; refine (CE.out _).mono ?_; rintro e w' ⟨rfl, rfl⟩)
          | (go_at_call 49; refine (Bld.wbyte B B out b _ HI.out.2.2.1 hbl).mono ?_; rintro e w1 ⟨rfl, hd, hb, hk2⟩; have HBB := Lib.hid hb; have HD := Lib.hid hd; clear hb hd hk2))
        go_roundw
        case rel => exact ⟨k + 2, out ++ [b], by omega, by go_num, Lib.hid (inv_esc HI.out HB.out HL.out rfl HE.out HBB.out HD.out)⟩
        case measure => simp [intOf]; omega
    · obtain rfl : k = s.size := by omega
      have HN := Lib.hid (show Sp.nam (s.data.toList.drop s.size) = ([], 0) by rw [List.drop_eq_nil_of_le (by rw [← Lib.size_eq]; omega)]; rfl)
      go_wp2_with (first
        | (go_at_call 13; refine (Bld.bstr B B out _ HI.out.2.2.1).mono ?_; rintro e w1 ⟨rfl, hb⟩; have HBB := Lib.hid hb; clear hb))
      go_ret2
      exact inv_end HI.out HB.out HN.out rfl HBB.out

end Go.Proofs.YtdjifjnophcnlaaDoor.Name

namespace Go.Proofs.YtdjifjnophcnlaaDoor
open Go.RowKit

namespace Text

theorem txt_close (q : UInt8) (r : Sp.By) : Sp.txt q (q :: r) = (true, [], 1) := by cases r <;> simp [Sp.txt]
theorem txt_nl {q a : UInt8} (h : a ≠ q) (h2 : a = 10) (r : Sp.By) : Sp.txt q (a :: r) = (false, [], 0) := by subst h2; cases r <;> simp [Sp.txt, h]
theorem txt_esc {q a : UInt8} (h : a ≠ q) (h1 : a ≠ 10) (h2 : a = 92) (b : UInt8) (r : Sp.By) : Sp.txt q (a :: b :: r) = ((Sp.txt q r).1, b :: (Sp.txt q r).2.1, (Sp.txt q r).2.2 + 2) := by
  subst h2; simp [Sp.txt, h]
theorem txt_oth {q a : UInt8} (h : a ≠ q) (h1 : a ≠ 10) (h2 : a ≠ 92) (r : Sp.By) : Sp.txt q (a :: r) = ((Sp.txt q r).1, a :: (Sp.txt q r).2.1, (Sp.txt q r).2.2 + 1) := by
  cases r <;> simp [Sp.txt, h, h1, h2]
theorem txt_last {q a : UInt8} (h : a ≠ q) (h1 : a ≠ 10) : Sp.txt q [a] = (false, [a], 1) := by simp [Sp.txt, h, h1]

/-- The world when the loop begins. -/
def W0 (w : World) : World := w.alloc (.cells #[.int .i64 0, .string ⟨#[]⟩, .string ⟨#[]⟩, .int .i64 0] 37)

def Inv (q : UInt8) (l : Sp.By) (w : World) (k : Nat) (out : Sp.By) (wr : World) : Prop :=
  Sp.txt q (l.drop 1) = ((Sp.txt q (l.drop k)).1, out ++ (Sp.txt q (l.drop k)).2.1, (k - 1) + (Sp.txt q (l.drop k)).2.2) ∧ out.length ≤ k ∧ Bld.Bd (w.heap.size + 1) (w.heap.size + 1) out wr ∧ Below (w.heap.size + 1) (W0 w) wr

theorem inv_start (q : UInt8) (l : Sp.By) (w : World) : Inv q l w 1 [] ((W0 w).alloc (.cells #[.pointer none, .slice none 0 0] 34)) := by
  have h : (W0 w).heap.size = w.heap.size + 1 := by simp [W0]
  refine ⟨by simp, by simp, ?_, (Below.refl _ _).alloc (by rw [h]; omega) _⟩
  have := Bld.Bd.fresh (W0 w)
  rw [h] at this; exact this

/-- The result's block, in a world that keeps what lay below the builder. -/
theorem res_block {w wr : World} (h : Below (w.heap.size + 1) (W0 w) wr) : Tok.At wr w.heap.size (.int .i64 0) (.string ⟨#[]⟩) (.string ⟨#[]⟩) (.int .i64 0) :=
  (Tok.At.new w _ _ _ _).below h (by omega)

theorem extract_all (s : ByteArray) : s.extract 0 s.size = s := by
  rw [Lib.extract_eq]
  simp only [List.drop_zero, Nat.sub_zero]
  rw [List.take_of_length_le (by rw [← Lib.size_eq]; exact Nat.le_refl _)]

theorem tok_closed {q : UInt8} {r : Sp.By} {s : ByteArray} {w wr : World} {k : Nat} {out : Sp.By} (hq : s.data.toList = q :: r) (h : Inv q s.data.toList w k out wr) (hk : 1 ≤ k) (ht : Sp.txt q (s.data.toList.drop k) = (true, [], 1)) :
    Sp.textTok q r = ⟨5, (s.extract 0 (k + 1)).data.toList, out⟩ := by
  have e := h.1
  rw [ht, hq] at e
  have e' : Sp.txt q r = (true, out, k) := by
    have : (k - 1) + 1 = k := by omega
    simpa [this] using e
  unfold Sp.textTok
  rw [e', Lib.extract_data, hq]
  simp [Nat.add_comm]
theorem tok_open {q : UInt8} {r : Sp.By} {s : ByteArray} {w wr : World} {k : Nat} {out : Sp.By} (hq : s.data.toList = q :: r) (h : Inv q s.data.toList w k out wr) (hk : 1 ≤ k) (ht : Sp.txt q (s.data.toList.drop k) = (false, [], 0)) :
    Sp.textTok q r = ⟨6, (s.extract 0 k).data.toList, []⟩ := by
  have e := h.1
  rw [ht, hq] at e
  have e' : Sp.txt q r = (false, out, k - 1) := by simpa using e
  unfold Sp.textTok
  rw [e', Lib.extract_data, hq]
  have : 1 + (k - 1) = k := by omega
  simp [this]

theorem inv_oth {q : UInt8} {l : Sp.By} {w wr w1 : World} {k : Nat} {out : Sp.By} {a : UInt8} {r : Sp.By} (h : Inv q l w k out wr) (hk : 1 ≤ k) (hl : l.drop k = a :: r) (hr : l.drop (k + 1) = r) (h1 : a ≠ q) (h2 : a ≠ 10) (h3 : a = 92 → r = [])
    (hb : Below (w.heap.size + 1) wr w1) (hd : Bld.Bd (w.heap.size + 1) (w.heap.size + 1) (out ++ [a]) w1) : Inv q l w (k + 1) (out ++ [a]) w1 := by
  refine ⟨?_, by have := h.2.1; simp; omega, hd, h.2.2.2.trans hb⟩
  have e : Sp.txt q (a :: r) = ((Sp.txt q r).1, a :: (Sp.txt q r).2.1, (Sp.txt q r).2.2 + 1) := by
    by_cases h4 : a = 92
    · rw [h3 h4, txt_last h1 h2]; rfl
    · exact txt_oth h1 h2 h4 r
  rw [h.1, hl, hr, e]; simp; omega
theorem inv_esc {q : UInt8} {l : Sp.By} {w wr w1 : World} {k : Nat} {out : Sp.By} {a b : UInt8} {r : Sp.By} (h : Inv q l w k out wr) (hk : 1 ≤ k) (hl : l.drop k = a :: b :: r) (hr : l.drop (k + 2) = r) (h1 : a ≠ q) (h2 : a ≠ 10) (h3 : a = 92)
    (hb : Below (w.heap.size + 1) wr w1) (hd : Bld.Bd (w.heap.size + 1) (w.heap.size + 1) (out ++ [b]) w1) : Inv q l w (k + 2) (out ++ [b]) w1 := by
  refine ⟨?_, by have := h.2.1; simp; omega, hd, h.2.2.2.trans hb⟩
  rw [h.1, hl, hr, txt_esc h1 h2 h3]; simp; omega

theorem below_w {w wr : World} (h : Below (w.heap.size + 1) (W0 w) wr) : Below w.heap.size w wr :=
  ((Below.refl _ _).alloc (Nat.le_refl _) _).trans (h.mono (by omega))

set_option maxHeartbeats 1000000 in
theorem text_any (s : ByteArray) (w : World) (hm : s.size ≤ 400) (q : UInt8) (r : Sp.By) (hq : s.data.toList = q :: r) : Calls Tryd.prog 35 #[.string s] w (TokPost (Sp.textTok q r) w) := by
  have h0 : 0 < s.size := by rw [Lib.size_eq, hq]; simp
  have hq0 : s[0]'h0 = q := by have := Lib.data_getElem? s 0 h0; rw [hq] at this; simpa using this.symm
  have HQ := Lib.hid hq
  clear hq
  have hS := Lib.hid (inv_start q s.data.toList w)
  go_enter Tryd.func35, Tryd.ntmps35
  go_wp2
  go_loopw [4] (fun i wr => ∃ (k : Nat) (out : Sp.By), 1 ≤ k ∧ k ≤ s.size ∧ i = .int .i64 k ∧ Hid (Inv q s.data.toList w k out wr)) (fun i _ => s.size - (intOf i).toNat)
  case atStart => exact ⟨1, [], by omega, by omega, rfl, hS⟩
  case round =>
    clear hS
    obtain ⟨k, out, hk1, hk, rfl, HI⟩ := hrel
    by_cases hlt : k < s.size
    · obtain ⟨a, ha⟩ : ∃ a : UInt8, s[k]'hlt = a := ⟨_, rfl⟩
      have hl := Name.drop_get s k hlt
      rw [ha] at hl
      by_cases haq : a = q
      · have hb : ((a.toNat : Int) == (q.toNat : Int)) = true := by rw [haq]; exact beq_self_eq_true _
        have HT := Lib.hid (show Sp.txt q (s.data.toList.drop k) = (true, [], 1) by rw [hl, haq]; exact txt_close q _)
        clear hl haq
        have hx1 : (k : Int) + 1 ≤ (s.size : Int) := by omega
        have hw1 : IntKind.i64.wrap ((k : Int) + 1) = (k : Int) + 1 := IntWalk.i64_in _ (by omega)
        have hw2 : (0 : Int) ≤ (k : Int) + 1 := by omega
        have hw3 : ((k : Int) + 1).toNat = k + 1 := by omega
        go_wp2
        go_region_with (first
            | (go_at_call 13; refine (Bld.bstr _ _ out _ HI.out.2.2.1.drew).mono ?_; rintro e w1 ⟨rfl, hb⟩; have HBB := Lib.hid (HI.out.2.2.2.drew.trans hb); clear hb; obtain ⟨⟨g0, g1, g2, g3⟩, f0, f1, f2, f3⟩ := (res_block HBB.out).cells))
        all_goals
          go_wp2
          refine Tok.ret rfl rfl (((((res_block HBB.out).set0 _).set1 _).set2 _).set3 _) rfl ⟨0, ?_, ?_⟩
          · rw [tok_closed HQ.out HI.out hk1 HT.out, Lib.mk_data]
          · exact ((((below_w HBB.out).setCell (Nat.le_refl _) _).setCell (Nat.le_refl _) _).setCell (Nat.le_refl _) _).setCell (Nat.le_refl _) _
      · have hb : ((a.toNat : Int) == (q.toNat : Int)) = false := beq_eq_false_iff_ne.2 (fun h => haq (UInt8.toNat_inj.1 (by omega)))
        have HA := Lib.hid haq
        clear haq
        by_cases ha10 : a = 10
        · have hb2 : ((a.toNat : Int) == 10) = true := by rw [ha10]; rfl
          have HT := Lib.hid (show Sp.txt q (s.data.toList.drop k) = (false, [], 0) by rw [hl]; exact txt_nl HA.out ha10 _)
          clear hl ha10
          obtain ⟨⟨g0, g1, g2, g3⟩, f0, f1, f2, f3⟩ := (res_block HI.out.2.2.2).cells
          go_wp2
          refine Tok.ret rfl rfl (((((res_block HI.out.2.2.2).set0 _).set1 _).set2 _).set3 _) rfl ⟨0, ?_, ?_⟩
          · rw [tok_open HQ.out HI.out hk1 HT.out, Lib.mk_data]
          · exact ((((below_w HI.out.2.2.2).setCell (Nat.le_refl _) _).setCell (Nat.le_refl _) _).setCell (Nat.le_refl _) _).setCell (Nat.le_refl _) _
        · have hb2 : ((a.toNat : Int) == 10) = false := beq_eq_false_iff_ne.2 (fun h => ha10 (UInt8.toNat_inj.1 (by simp; omega)))
          have HA2 := Lib.hid ha10
          clear ha10
          have hbl : out.length + 1 ≤ 140737488355328 := by have := HI.out.2.1; omega
          by_cases ha92 : a = 92
          · have hb3 : ((a.toNat : Int) == 92) = true := by rw [ha92]; rfl
            have HA3 := Lib.hid ha92
            clear ha92
            by_cases hlt2 : k + 1 < s.size
            · obtain ⟨b, hbb⟩ : ∃ b : UInt8, s[k + 1]'hlt2 = b := ⟨_, rfl⟩
              have hl2 := Name.drop_get s (k + 1) hlt2
              rw [hbb] at hl2
              rw [hl2] at hl
              have HL := Lib.hid hl
              clear hl hl2
              have hd2 : decide ((k : Int) + 1 < (s.size : Int)) = true := decide_eq_true (by omega)
              go_wp2_with (first
                | (go_at_call 49; refine (Bld.wbyte _ _ out b _ HI.out.2.2.1 hbl).mono ?_; rintro e w1 ⟨rfl, hd, hb, hk2⟩; have HBB := Lib.hid hb; have HD := Lib.hid hd; clear hb hd hk2))
              go_roundw
              case rel => exact ⟨k + 2, out ++ [b], by omega, by omega, by go_num, Lib.hid (inv_esc HI.out hk1 HL.out rfl HA.out HA2.out HA3.out HBB.out HD.out)⟩
              case measure => simp [intOf]; omega
            · have HL := Lib.hid hl
              have HE := Lib.hid (show s.data.toList.drop (k + 1) = [] from List.drop_eq_nil_of_le (by rw [← Lib.size_eq]; omega))
              clear hl
              have hd2 : decide ((k : Int) + 1 < (s.size : Int)) = false := decide_eq_false (by omega)
              go_wp2_with (first
                | (go_at_call 49; refine (Bld.wbyte _ _ out a _ HI.out.2.2.1 hbl).mono ?_; rintro e w1 ⟨rfl, hd, hb, hk2⟩; have HBB := Lib.hid hb; have HD := Lib.hid hd; clear hb hd hk2))
              go_roundw
              case rel => exact ⟨k + 1, out ++ [a], by omega, by omega, by go_num, Lib.hid (inv_oth HI.out hk1 HL.out rfl HA.out HA2.out (fun _ => HE.out) HBB.out HD.out)⟩
              case measure => simp [intOf]; omega
          · have hb3 : ((a.toNat : Int) == 92) = false := beq_eq_false_iff_ne.2 (fun h => ha92 (UInt8.toNat_inj.1 (by simp; omega)))
            have HA3 := Lib.hid ha92
            have HL := Lib.hid hl
            clear hl ha92
            go_wp2_with (first
              | (go_at_call 49; refine (Bld.wbyte _ _ out a _ HI.out.2.2.1 hbl).mono ?_; rintro e w1 ⟨rfl, hd, hb, hk2⟩; have HBB := Lib.hid hb; have HD := Lib.hid hd; clear hb hd hk2))
            go_roundw
            case rel => exact ⟨k + 1, out ++ [a], by omega, by omega, by go_num, Lib.hid (inv_oth HI.out hk1 HL.out rfl HA.out HA2.out (fun h => absurd h HA3.out) HBB.out HD.out)⟩
            case measure => simp [intOf]; omega
    · obtain rfl : k = s.size := by omega
      have HT := Lib.hid (show Sp.txt q (s.data.toList.drop s.size) = (false, [], 0) by rw [List.drop_eq_nil_of_le (by rw [← Lib.size_eq]; omega)]; rfl)
      obtain ⟨⟨g0, g1, g2, g3⟩, f0, f1, f2, f3⟩ := (res_block HI.out.2.2.2).cells
      go_wp2
      refine Tok.ret rfl rfl (((((res_block HI.out.2.2.2).set0 _).set1 _).set2 _).set3 _) rfl ⟨0, ?_, ?_⟩
      · rw [tok_open HQ.out HI.out hk1 HT.out, Lib.mk_data, extract_all]
      · exact ((((below_w HI.out.2.2.2).setCell (Nat.le_refl _) _).setCell (Nat.le_refl _) _).setCell (Nat.le_refl _) _).setCell (Nat.le_refl _) _

end Text
end Go.Proofs.YtdjifjnophcnlaaDoor

namespace Go.Proofs.YtdjifjnophcnlaaDoor.Named
open Go.RowKit

theorem nam_le (l : Sp.By) : (Sp.nam l).2 ≤ l.length ∧ (Sp.nam l).1.length ≤ l.length := by
  induction l using Sp.nam.induct with
  | case1 => simp [Sp.nam]
  | case2 a h => simp [Sp.nam, h]
  | case3 a h => simp [Sp.nam, h]
  | case4 a b r h ih => simp [Sp.nam, h]; omega
  | case5 a b r h h2 ih => simp [Sp.nam, h, h2] at *; omega
  | case6 a b r h h2 => simp [Sp.nam, h, h2]

set_option maxHeartbeats 1000000 in
/-- named: kind, the raw text up to the name's end, what the name says. -/
theorem named_any (kd : Int) (s : ByteArray) (n : Nat) (w : World) (hm : s.size ≤ 400) (hn : n ≤ s.size) :
    Calls Tryd.prog 38 #[.int .i64 kd, .string s, .int .i64 n] w (TokPost ⟨kd, s.data.toList.take (n + (Sp.nam (s.data.toList.drop n)).2), (Sp.nam (s.data.toList.drop n)).1⟩ w) := by
  have hx : (s.extract n s.size).data.toList = s.data.toList.drop n := Lib.extract_to_end s n
  have hxs : (s.extract n s.size).size ≤ 400 := by rw [Lib.size_eq, hx, List.length_drop, ← Lib.size_eq]; omega
  have hc := fun w => Name.name_any (s.extract n s.size) w hxs
  rw [hx] at hc
  have hle : (Sp.nam (s.data.toList.drop n)).2 ≤ s.size - n := by
    have := (nam_le (s.data.toList.drop n)).1; rw [List.length_drop, ← Lib.size_eq] at this; exact this
  obtain ⟨p, hp⟩ : ∃ p, Sp.nam (s.data.toList.drop n) = p := ⟨_, rfl⟩
  unfold Name.Post at hc
  rw [hp] at hc hle ⊢
  have HC := Lib.hid hc
  obtain ⟨m, v⟩ := p
  clear hp hx hxs hc
  simp only at hle
  have hle2 : n + v ≤ s.size := by omega
  go_enter Tryd.func38, Tryd.ntmps38
  go_wp2_with (first
    | (go_at_call 68; refine (HC.out _).mono ?_; rintro e w1 ⟨rfl, hb⟩; have HBB := Lib.hid hb; have HA := Lib.hid ((Tok.At.new w _ _ _ _).below hb (by simp)); clear hb; obtain ⟨⟨g0, g1, g2, g3⟩, f0, f1, f2, f3⟩ := HA.out.cells))
  refine Tok.ret rfl rfl ((((HA.out.set0 _).set1 _).set2 _).set3 _) rfl ⟨0, ?_, ?_⟩
  · rw [Lib.extract_upto]
  · exact (((((((Below.refl _ _).alloc (Nat.le_refl _) _).trans (HBB.out.mono (by simp))).setCell (Nat.le_refl _) _).setCell (Nat.le_refl _) _).setCell (Nat.le_refl _) _).setCell (Nat.le_refl _) _)


/-- first's inner function 'one': it reads the captured text. -/
theorem one_any (kd : Int) (b : Nat) (s : ByteArray) (w : World) (h0 : 0 < s.size) (hm : s.size ≤ 400) (hb : w.cell? ⟨b, 0, none⟩ = some (.string s)) :
    Calls Tryd.prog 31 #[.int .i64 kd, .pointer (some ⟨b, 0, none⟩)] w (TokPost ⟨kd, s.data.toList.take 1, []⟩ w) := by
  have hlt : b < w.heap.size := World.block_lt_of_cell? w _ hb
  go_enter Tryd.func31, Tryd.ntmps31
  go_wp2
  refine Tok.ret rfl rfl (Tok.At.new w _ _ _ _) rfl ⟨0, ?_, ?_⟩
  · rw [Lib.extract_upto]
  · exact (Below.refl _ _).alloc (Nat.le_refl _) _

theorem set_digits (c : UInt8) : ([48, 49, 50, 51, 52, 53, 54, 55, 56, 57] : List UInt8).contains c = Sp.dig c :=
  Leaf.all_bytes (p := fun c => ([48, 49, 50, 51, 52, 53, 54, 55, 56, 57] : List UInt8).contains c = Sp.dig c) (by decide +kernel) c

theorem digs_trim (s : ByteArray) : (Lib.trimLeftS s.data.toList [48, 49, 50, 51, 52, 53, 54, 55, 56, 57]).length + Sp.digs s.data.toList = s.size := by
  unfold Lib.trimLeftS Sp.digs
  have e : (fun x => ([48, 49, 50, 51, 52, 53, 54, 55, 56, 57] : List UInt8).contains x) = Sp.dig := funext set_digits
  rw [e, Lib.size_eq]
  have := congrArg List.length (List.takeWhile_append_dropWhile (p := Sp.dig) (l := s.data.toList))
  rw [List.length_append] at this
  omega

set_option maxHeartbeats 1000000 in
theorem digits_any (s : ByteArray) (w : World) (hm : s.size ≤ 400) :
    Calls Tryd.prog 69 #[.string s] w fun e w' => e = .returned (.int .i64 (Sp.digs s.data.toList : Nat)) ∧ Below w.heap.size w w' := by
  have hd := digs_trim s
  obtain ⟨m, hmm⟩ : ∃ m, Lib.trimLeftS s.data.toList [48, 49, 50, 51, 52, 53, 54, 55, 56, 57] = m := ⟨_, rfl⟩
  have hc := fun w => Tryd.strings_TrimLeft_laid s ⟨#[48, 49, 50, 51, 52, 53, 54, 55, 56, 57]⟩ w (by decide) (ascii_of_all (by decide))
  simp only [] at hc
  rw [hmm] at hc hd
  obtain ⟨d, hdd⟩ : ∃ d, Sp.digs s.data.toList = d := ⟨_, rfl⟩
  rw [hdd] at hd ⊢
  have hsz : (⟨m.toArray⟩ : ByteArray).size = m.length := by rw [Lib.size_eq]
  obtain ⟨u, hu⟩ : ∃ u : ByteArray, (⟨m.toArray⟩ : ByteArray) = u := ⟨_, rfl⟩
  rw [hu] at hc hsz
  have hle : u.size ≤ s.size := by omega
  have HC := Lib.hid hc
  have HD := Lib.hid hd
  have HZ := Lib.hid hsz
  clear hc hd hsz hu hmm hdd
  go_enter Tryd.func69, Tryd.ntmps69
  go_wp2_with (first
    | (go_at_call 32; refine (HC.out _).mono ?_; rintro e w1 ⟨rfl, hb⟩; have HBB := Lib.hid hb; clear hb))
  go_ret
  refine ⟨?_, HBB.out⟩
  have h1 := HD.out
  have h2 := HZ.out
  have : ((s.size : Int) - (u.size : Int)) = (d : Int) := by omega
  simp [this]

/-- At block b lies a row of bytes, which may be written, that begins with l. -/
def Row (b : Nat) (l : Sp.By) (w : World) : Prop :=
  ∃ (cs : Array Value) (n m : Nat), w.heap[b]? = some (.cells cs 5 (n, m)) ∧ l.length ≤ n ∧ ∀ (j : Nat) (h : j < l.length), cs[j]? = some (.int .u8 ((l[j]'h).toNat : Int))

theorem Row.fresh (w : World) (s : ByteArray) : Row w.heap.size s.data.toList (Lib.bytesWorld w 5 s) := by
  refine ⟨_, _, _, Lib.bytesWorld_at_new w 5 s, ?_, ?_⟩
  · have := Lib.size_eq s; simp [Lib.bytesCells]
  · intro j h
    have hj : j < s.size := by rw [Lib.size_eq]; exact h
    have := Lib.bytesWorld_cell w 5 s j hj
    rw [Lib.cell_of_heap (Lib.bytesWorld_at_new w 5 s)] at this
    rw [this, List.getD_eq_getElem?_getD, List.getElem?_eq_getElem h]; rfl

theorem Row.cell {b : Nat} {l : Sp.By} {w : World} (h : Row b l w) (j : Nat) (hj : j < l.length) : w.cell? ⟨b, j, none⟩ = some (.int .u8 ((l[j]'hj).toNat : Int)) ∧ w.frozen? ⟨b, j, none⟩ = false := by
  obtain ⟨cs, n, m, hh, hn, hc⟩ := h
  refine ⟨by rw [Lib.cell_of_heap hh]; exact hc j hj, ?_⟩
  simp [World.frozen?, hh]; omega

theorem Row.store {b : Nat} {l : Sp.By} {w : World} (h : Row b l w) (j : Nat) (hj : j < l.length) (c : UInt8) : Row b (l.set j c) (w.setCell ⟨b, j, none⟩ (.int .u8 (c.toNat : Int))) := by
  obtain ⟨cs, n, m, hh, hn, hc⟩ := h
  refine ⟨_, n, m, Tok.set_heap hh j _, by simpa using hn, fun i hi => ?_⟩
  have hi' : i < l.length := by simpa using hi
  have hcs : j < cs.size := by
    have := hc j hj
    exact (Array.getElem?_eq_some_iff.1 this).1
  by_cases e : j = i
  · subst e; simp [hcs]
  · rw [Array.getElem?_setIfInBounds_ne e, hc i hi', List.getElem_set_ne e]

theorem Row.back {b : Nat} {l : Sp.By} {w : World} (h : Row b l w) (cap : Nat) : (convert 32 9 (.slice (some ⟨b, 0, none⟩) l.length cap)).run Tryd.prog w = .ok (.string ⟨l.toArray⟩) w :=
  run_convert_bytes_back w 32 9 5 ⟨b, 0, none⟩ cap l Tryd.underlying32 Tryd.underlying5 Tryd.underlying9 (fun j hj => by
    rw [show (⟨b, 0, none⟩ : Addr).add j = ⟨b, j, none⟩ by unfold Addr.add; split <;> simp_all]
    exact (h.cell j hj).1)

/-- A text of which the first k bytes have been lowered. -/
def lowTo (l : Sp.By) (k : Nat) : Sp.By := Sp.low (l.take k) ++ l.drop k
theorem lowTo_length (l : Sp.By) (k : Nat) : (lowTo l k).length = l.length := by simp [lowTo, Sp.low]; omega
theorem lowTo_zero (l : Sp.By) : lowTo l 0 = l := by simp [lowTo, Sp.low]
theorem lowTo_end (l : Sp.By) (k : Nat) (h : l.length ≤ k) : lowTo l k = Sp.low l := by simp [lowTo, List.take_of_length_le h, List.drop_eq_nil_of_le h]
theorem lowTo_at (l : Sp.By) (k : Nat) (h : k < l.length) : (lowTo l k)[k]'(by rw [lowTo_length]; exact h) = l[k] := by
  unfold lowTo
  rw [List.getElem_append_right (by simp [Sp.low]; omega)]
  simp [Sp.low, Nat.min_eq_left (Nat.le_of_lt h)]
theorem lowTo_succ (l : Sp.By) (k : Nat) (h : k < l.length) : lowTo l (k + 1) = (lowTo l k).set k (if 65 ≤ l[k] && l[k] ≤ 90 then l[k] + 32 else l[k]) := by
  unfold lowTo Sp.low
  rw [List.take_succ_eq_append_getElem h, List.map_append, List.drop_eq_getElem_cons h]
  rw [List.set_append_right _ _ (by simp; omega)]
  simp [Nat.min_eq_left (Nat.le_of_lt h)]
  rw [List.drop_eq_getElem_cons h]
  rfl
theorem lowTo_same (l : Sp.By) (k : Nat) (h : k < l.length) (hn : (65 ≤ l[k] && l[k] ≤ 90) = false) : lowTo l (k + 1) = lowTo l k := by
  rw [lowTo_succ l k h, hn]
  simp only [Bool.false_eq_true, if_false]
  conv => lhs; rw [← lowTo_at l k h]
  exact List.set_getElem_self _

def LInv (s : ByteArray) (B : Nat) (w : World) (k : Nat) (wr : World) : Prop := Row B (lowTo s.data.toList k) wr ∧ Below B w wr

theorem linv_start (s : ByteArray) (w : World) : LInv s w.heap.size w 0 (Lib.bytesWorld w 5 s) := by
  refine ⟨by rw [lowTo_zero]; exact Row.fresh w s, ?_⟩
  exact ⟨rfl, rfl, rfl, by rw [Lib.bytesWorld_size]; omega, fun i hi => Lib.bytesWorld_at_old w 5 s i hi⟩

theorem linv_cell {s : ByteArray} {B k : Nat} {w wr : World} (h : LInv s B w k wr) (hk : k < s.size) {x : UInt8} (hx : s[k]'hk = x) : wr.cell? ⟨B, k, none⟩ = some (.int .u8 (x.toNat : Int)) ∧ wr.frozen? ⟨B, k, none⟩ = false := by
  have hl : k < s.data.toList.length := by rw [← Lib.size_eq]; exact hk
  obtain ⟨h1, h2⟩ := h.1.cell k (by rw [lowTo_length]; exact hl)
  rw [lowTo_at _ _ hl] at h1
  exact ⟨by rw [h1, ← hx]; rfl, h2⟩

theorem linv_keep {s : ByteArray} {B k : Nat} {w wr : World} (h : LInv s B w k wr) (hk : k < s.size) {x : UInt8} (hx : s[k]'hk = x) (hn : ¬ (65 ≤ x.toNat ∧ x.toNat ≤ 90)) : LInv s B w (k + 1) wr := by
  have hl : k < s.data.toList.length := by rw [← Lib.size_eq]; exact hk
  refine ⟨?_, h.2⟩
  have e : s.data.toList[k] = x := by rw [← hx]; rfl
  rw [lowTo_same _ _ hl (by rw [e]; simp only [UInt8.le_iff_toNat_le, Bool.and_eq_false_iff, decide_eq_false_iff_not]; show ¬ 65 ≤ x.toNat ∨ ¬ x.toNat ≤ 90; omega)]
  exact h.1

theorem linv_put {s : ByteArray} {B k : Nat} {w wr : World} (h : LInv s B w k wr) (hk : k < s.size) {x : UInt8} (hx : s[k]'hk = x) (h1 : 65 ≤ x.toNat) (h2 : x.toNat ≤ 90) : LInv s B w (k + 1) (wr.setCell ⟨B, k, none⟩ (.int .u8 ((x.toNat : Int) + 32))) := by
  have hl : k < s.data.toList.length := by rw [← Lib.size_eq]; exact hk
  have e : s.data.toList[k] = x := by rw [← hx]; rfl
  refine ⟨?_, h.2.setCell (Nat.le_refl _) _⟩
  rw [lowTo_succ _ _ hl, e, if_pos (by simp only [UInt8.le_iff_toNat_le, Bool.and_eq_true, decide_eq_true_eq]; exact ⟨h1, h2⟩)]
  have := h.1.store k (by rw [lowTo_length]; exact hl) (x + 32)
  rw [show ((x + 32).toNat : Int) = (x.toNat : Int) + 32 by rw [UInt8.toNat_add]; show (((x.toNat + 32) % 256 : Nat) : Int) = _; omega] at this
  exact this

theorem linv_back {s : ByteArray} {B : Nat} {w wr : World} (h : LInv s B w s.size wr) (cap : Nat) : (convert 32 9 (.slice (some ⟨B, 0, none⟩) s.size cap)).run Tryd.prog wr = .ok (.string ⟨(Sp.low s.data.toList).toArray⟩) wr := by
  have := h.1.back cap
  rw [lowTo_length, ← Lib.size_eq, lowTo_end _ _ (by rw [← Lib.size_eq]; exact Nat.le_refl _)] at this
  exact this

set_option maxHeartbeats 1000000 in
set_option maxRecDepth 100000 in
theorem lower_any (s : ByteArray) (w : World) (hm : s.size ≤ 400) :
    Calls Tryd.prog 71 #[.string s] w fun e w' => e = .returned (.string ⟨(Sp.low s.data.toList).toArray⟩) ∧ Below w.heap.size w w' := by
  have kb := fun W => Lib.run_convert_string_bytes (P := Tryd.prog) W 9 32 5 s Tryd.underlying9 Tryd.underlying32 Tryd.underlying5
  have hS := Lib.hid (linv_start s w)
  obtain ⟨o, ho⟩ : ∃ o, Sp.low s.data.toList = o := ⟨_, rfl⟩
  have HO := Lib.hid ho
  rw [ho]
  clear ho
  obtain ⟨cap, hcap⟩ : ∃ cap, grownCap w s.size 0 5 = cap := ⟨_, rfl⟩
  obtain ⟨B, hB⟩ : ∃ B, w.heap.size = B := ⟨_, rfl⟩
  go_enter Tryd.func71, Tryd.ntmps71
  go_wp2
  clear kb hcap
  go_loopw [10] (fun i wr => ∃ (k : Nat), k ≤ s.size ∧ i = .int .i64 k ∧ Hid (LInv s B w k wr)) (fun i _ => s.size - (intOf i).toNat)
  case atStart => exact ⟨0, by omega, rfl, by rw [← hB]; exact hS⟩
  case round =>
    clear hS
    obtain ⟨k, hk, rfl, HI⟩ := hrel
    by_cases hlt : k < s.size
    · obtain ⟨x, hx⟩ : ∃ x : UInt8, s[k]'hlt = x := ⟨_, rfl⟩
      obtain ⟨g0, f0⟩ := linv_cell HI.out hlt hx
      have HX := Lib.hid hx
      clear hx
      have h0 : (x.toNat : Int) ≤ 255 := by have := UInt8.toNat_lt x; omega
      by_cases h1 : 65 ≤ x.toNat
      · have hb1 : decide (65 ≤ (x.toNat : Int)) = true := decide_eq_true (by omega)
        by_cases h2 : x.toNat ≤ 90
        · have hb2 : decide ((x.toNat : Int) ≤ 90) = true := decide_eq_true (by omega)
          go_wp2
          go_roundw
          case rel => exact ⟨k + 1, by omega, by go_num, Lib.hid (linv_put HI.out hlt HX.out h1 h2)⟩
          case measure => simp [intOf]; omega
        · have hb2 : decide ((x.toNat : Int) ≤ 90) = false := decide_eq_false (by omega)
          go_wp2
          go_roundw
          case rel => exact ⟨k + 1, by omega, by go_num, Lib.hid (linv_keep HI.out hlt HX.out (by omega))⟩
          case measure => simp [intOf]; omega
      · have hb1 : decide (65 ≤ (x.toNat : Int)) = false := decide_eq_false (by omega)
        go_wp2
        go_roundw
        case rel => exact ⟨k + 1, by omega, by go_num, Lib.hid (linv_keep HI.out hlt HX.out (by omega))⟩
        case measure => simp [intOf]; omega
    · obtain rfl : k = s.size := by omega
      have hback := linv_back HI.out cap
      rw [HO.out] at hback
      go_wp2
      go_ret
      exact ⟨rfl, by rw [hB]; exact HI.out.2⟩

end Go.Proofs.YtdjifjnophcnlaaDoor.Named
