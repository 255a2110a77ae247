/-
  Pure laws of the printed functions of the reference (package 2): bytes, names, escapes answer what ..Sp says. No program and no memory is walked here. Conditions: texts of at most 400 bytes where said.
  Pure laws of the printed functions of the reference (package 2): remarks, quoted texts, numbers answer what ..Sp says. No program and no memory is walked here. Conditions: texts of at most 400 bytes.
  Pure laws of the printed functions of the reference (package 2): NumberAt is as long as ..Sp's numLen. No program and no memory is walked here. Conditions: texts of at most 400 bytes.
  Pure laws of the printed functions of the reference (package 2) on lists of tokens and of pairs: Closes, Silent, skip, BlockEnd, HeadOf, VarValue answer what ..Sp says. No program and no memory is walked here. Conditions: at most 400 tokens, each text not empty and of at most 400 bytes.
  Pure laws of the printed functions of the reference (package 2): HeadOf and VarValue answer what ..Sp says; a closing token has one byte. No program and no memory is walked here.
  Walks of the reference (package 2): Lower and numAt. Conditions: texts of at most 400 bytes.
  The reference's numAt (package 2): the token of a number with its unit. Conditions: texts of at most 400 bytes.
-/
import Derived.Test.YtdjifjnophcnlaaDoorToks
import Derived.Test.YtdjifjnophcnlaaDoorLeaf
import Derived.Test.YtdjifjnophcnlaaDoorNamed
import Derived.Test.YtdjifjnophcnlaaDoorBack
import Derived.Test.YtdjifjnophcnlaaDoorPVarFillsx5
import Derived.Test.YtdjifjnophcnlaaDoorPVarFillsx6
import Derived.Test.YtdjifjnophcnlaaDoorPVarFillsx7
import Derived.Test.YtdjifjnophcnlaaDoorNum
import Derived.Test.YtdjifjnophcnlaaDoorFill
import Derived.Test.YtdjifjnophcnlaaDoorPVarFillsx8
import Derived.Test.YtdjifjnophcnlaaDoorPVarFillsx9
set_option linter.unusedVariables false
set_option linter.unusedSimpArgs false

namespace Go.Proofs.YtdjifjnophcnlaaDoor.RefA
open Go.RowKit Go.Proofs.YtdjifjnophcnlaaDoorW.PrintWords Go.Proofs.YtdjifjnophcnlaaDoorW.PrintLast Go.Proofs.YtdjifjnophcnlaaDoorW.PrintMore
open PVarFills

/-- At place i the text is over, or a byte stands there. -/
theorem cut (s : ByteArray) (i : Nat) : (s.size ≤ i ∧ s.data.toList.drop i = []) ∨ ∃ c r, i < s.size ∧ s.data.toList.drop i = c :: r ∧ bt s (i : Int) = (c.toNat : Int) ∧ s.data.toList.drop (i + 1) = r := by
  have hl : s.data.toList.length = s.size := (Lib.size_eq s).symm
  rcases Nat.lt_or_ge i s.size with h | h
  · refine .inr ⟨s.data.toList[i]'(by omega), s.data.toList.drop (i + 1), h, List.drop_eq_getElem_cons (by omega), ?_, rfl⟩
    exact Block.bt_nat s i _ (List.getElem?_eq_getElem (by omega))
  · exact .inl ⟨h, List.drop_eq_nil_of_le (by omega)⟩

theorem w1 {i : Nat} (h : i ≤ 1000) : wrap64 ((i : Int) + 1) = ((i + 1 : Nat) : Int) := by rw [IntWalk.wrap64_in _ (by omega)]; rfl

theorem byte_of (P : UInt8 → Prop) [DecidablePred P] (h : ∀ n : Fin 256, P (UInt8.ofNat n.val)) (c : UInt8) : P c := by
  have := h ⟨c.toNat, c.toNat_lt⟩
  simpa using this

set_option maxRecDepth 100000 in
theorem letter_eq (c : UInt8) : clerestoryref2_letter.f (c.toNat : Int) = some (Sp.sta c) := byte_of (fun c => clerestoryref2_letter.f (c.toNat : Int) = some (Sp.sta c)) (by decide +kernel) c
set_option maxRecDepth 100000 in
theorem digit_eq (c : UInt8) : clerestoryref2_digit.f (c.toNat : Int) = some (Sp.dig c) := byte_of (fun c => clerestoryref2_digit.f (c.toNat : Int) = some (Sp.dig c)) (by decide +kernel) c
set_option maxRecDepth 100000 in
theorem named_eq (c : UInt8) : clerestoryref2_named.f (c.toNat : Int) = some (Sp.sgn c) := byte_of (fun c => clerestoryref2_named.f (c.toNat : Int) = some (Sp.sgn c)) (by decide +kernel) c
set_option maxRecDepth 100000 in
theorem blank_eq (c : UInt8) : clerestoryref2_Blank.f (c.toNat : Int) = some (Sp.blank c) := byte_of (fun c => clerestoryref2_Blank.f (c.toNat : Int) = some (Sp.blank c)) (by decide +kernel) c

/-- The byte at a place, 0 behind the end. -/
def byteAt : Sp.By → Int
  | [] => 0
  | c :: _ => (c.toNat : Int)
theorem at_eq (s : ByteArray) (i : Nat) : clerestoryref2_at.f s (i : Int) = some (byteAt (s.data.toList.drop i)) := by
  unfold clerestoryref2_at.f
  rcases cut s i with ⟨h, e⟩ | ⟨c, r, h, e, hb, _⟩
  · rw [if_neg (by omega), e]; rfl
  · rw [if_pos (by omega), if_pos (by omega), e, hb]; rfl

theorem u8_eq {c d : UInt8} (h : (c.toNat : Int) = (d.toNat : Int)) : c = d := UInt8.toNat_inj.1 (by omega)

theorem bne10 (c : UInt8) : (((c.toNat : Int) != 10) : Bool) = (c != 10) := by
  by_cases h : c = 10
  · subst h; rfl
  · have : ¬ ((c.toNat : Int) = 10) := fun e => h (u8_eq (d := 10) e)
    rw [bne_iff_ne.2 this, bne_iff_ne.2 h]

theorem escape_eq (s : ByteArray) (hs : s.size ≤ 400) (i : Nat) (hi : i ≤ s.size) : clerestoryref2_escape.f s (i : Int) = some (Sp.esc (s.data.toList.drop i)) := by
  unfold clerestoryref2_escape.f
  rw [at_eq, Option.bind_some, w1 (by omega)]
  rcases cut s i with ⟨h, e⟩ | ⟨c, r, h, e, hb, hr⟩
  · rw [e]; rfl
  · rw [e]
    by_cases h92 : c = 92
    · subst h92
      rw [if_pos (show byteAt (92 :: r) = 92 from rfl)]
      rcases cut s (i + 1) with ⟨h2, e2⟩ | ⟨b, r2, h2, e2, hb2, _⟩
      · rw [if_neg (by omega), ← hr, e2]; rfl
      · rw [if_pos (by omega), if_pos (by omega), ← hr, e2, hb2, bne10]; rfl
    · rw [if_neg (show ¬ byteAt (c :: r) = 92 from fun e => h92 (u8_eq (d := 92) e))]
      cases r with
      | nil => rfl
      | cons b r => simp [Sp.esc, h92]

theorem begins_eq (s : ByteArray) (hs : s.size ≤ 400) (i : Nat) (hi : i ≤ s.size) : clerestoryref2_begins.f s (i : Int) = some (Sp.beg (s.data.toList.drop i)) := by
  unfold clerestoryref2_begins.f
  rw [at_eq, Option.bind_some, w1 (by omega)]
  have hesc := escape_eq s hs i hi
  rcases cut s i with ⟨h, e⟩ | ⟨c, r, h, e, hb, hr⟩
  · rw [e] at hesc ⊢
    rw [if_neg (by decide), if_neg (by omega), hesc]; rfl
  · rw [e] at hesc ⊢
    by_cases h45 : c = 45
    · subst h45
      rw [if_pos (show byteAt (45 :: r) = 45 from rfl)]
      have hesc2 := escape_eq s hs (i + 1) (by omega)
      rcases cut s (i + 1) with ⟨h2, e2⟩ | ⟨b, r2, h2, e2, hb2, _⟩
      · rw [if_neg (by omega), ← hr, e2]; rfl
      · rw [if_pos (by omega), if_pos (by omega), ← hr, hb2]
        rw [e2] at hesc2 ⊢
        by_cases hb45 : b = 45
        · subst hb45; rw [if_pos (show ((UInt8.toNat 45 : Nat) : Int) = 45 from rfl)]; simp [Sp.beg]
        · rw [if_neg (show ¬ (b.toNat : Int) = 45 from fun e => hb45 (u8_eq (d := 45) e)), letter_eq, Option.bind_some, hesc2, Option.bind_some]
          have : Sp.beg (45 :: b :: r2) = (Sp.sta b || Sp.esc (b :: r2)) := by simp [Sp.beg, show (b == 45) = false from beq_eq_false_iff_ne.2 hb45]
          rw [this]
          cases Sp.sta b <;> simp
    · rw [if_neg (show ¬ byteAt (c :: r) = 45 from fun e => h45 (u8_eq (d := 45) e)), if_pos (by omega), if_pos (by omega), hb, letter_eq, Option.bind_some, hesc, Option.bind_some]
      cases r with
      | nil => cases hs2 : Sp.sta c <;> simp [Sp.beg, Sp.esc, hs2]
      | cons b r =>
        have : Sp.beg (c :: b :: r) = (Sp.sta c || Sp.esc (c :: b :: r)) := by simp [Sp.beg, show (c == 45) = false from beq_eq_false_iff_ne.2 h45]
        rw [this]
        cases Sp.sta c <;> simp

/-- Text of bytes. -/
abbrev mk (l : Sp.By) : ByteArray := ⟨l.toArray⟩
theorem mk_of (s : ByteArray) : mk s.data.toList = s := by cases s; simp [mk]
theorem mk_append (a b : Sp.By) : mk a ++ mk b = mk (a ++ b) := Back.eq_bytes (by rw [ByteArray.data_append]; simp [mk])
theorem mk_size (a : Sp.By) : (mk a).size = a.length := by simp [mk, ByteArray.size]
theorem extract_one (s : ByteArray) (i : Nat) (c : UInt8) (r : Sp.By) (h : s.data.toList.drop i = c :: r) : s.extract i (i + 1) = mk [c] := by
  apply Back.eq_bytes
  rw [ByteArray.data_extract, Array.toList_extract]
  simp [List.extract, h]
theorem extract_zero (s : ByteArray) (n : Nat) : s.extract 0 n = mk (s.data.toList.take n) := by
  apply Back.eq_bytes
  rw [ByteArray.data_extract, Array.toList_extract]
  simp [List.extract]

theorem said_go (s : ByteArray) (hs : s.size ≤ 400) : ∀ (d i : Nat) (out : Sp.By) (k : Nat), i + d = s.size → out.length ≤ i → 2 * d + 2 ≤ k →
    clerestoryref2_said.l0 k s (i : Int) (mk out) = some (mk (out ++ (Sp.nam (s.data.toList.drop i)).1), ((i + (Sp.nam (s.data.toList.drop i)).2 : Nat) : Int)) := by
  intro d
  induction d using Nat.strongRecOn with
  | _ d ih =>
    intro i out k hi ho hk
    obtain ⟨k, rfl⟩ : ∃ k', k = k' + 2 := ⟨k - 2, by omega⟩
    rcases cut s i with ⟨h, e⟩ | ⟨c, r, h, e, hb, hr⟩
    · rw [clerestoryref2_said.l0, if_neg (by omega), clerestoryref2_said.j1, if_neg (by decide), e]
      simp [Sp.nam]
    · have hesc := escape_eq s hs i (by omega)
      rw [e] at hesc
      have goOn : ∀ (j : Nat), i < j → j ≤ s.size → ∀ (x : UInt8), clerestoryref2_said.l0 k s (j : Int) (mk out ++ mk [x]) = some (mk (out ++ x :: (Sp.nam (s.data.toList.drop j)).1), ((j + (Sp.nam (s.data.toList.drop j)).2 : Nat) : Int)) := fun j hj hj2 x => by
        rw [mk_append, ih (s.size - j) (by omega) j (out ++ [x]) k (by omega) (by simp; omega) (by omega)]
        simp
      have one_ : ∀ b : Bool, b = true → (Sp.esc (c :: r) = true ∨ (Sp.esc (c :: r) = false ∧ Sp.sgn c = true)) → clerestoryref2_said.j1 (k + 1) s (i : Int) (mk out) b = some (mk (out ++ (Sp.nam (c :: r)).1), ((i + (Sp.nam (c :: r)).2 : Nat) : Int)) := by
        rintro b rfl hcase
        rw [clerestoryref2_said.j1, if_pos rfl, if_pos (by omega), if_pos (by omega), hb]
        rcases hcase with he | ⟨he, hsg⟩
        · -- an escape
          cases r with
          | nil => simp [Sp.esc] at he
          | cons b r =>
            have h92 : c = 92 := by simp [Sp.esc] at he; exact he.1
            rcases cut s (i + 1) with ⟨h2, e2⟩ | ⟨b', r2, h2, e2, hb2, hr2⟩
            · rw [← hr] at e; rw [e2] at hr; cases hr
            · rw [hr] at e2
              cases e2
              rw [if_pos (by rw [h92]; rfl), w1 (by omega), w1 (by omega), if_pos (by omega), if_pos (by omega), if_pos (by omega)]
              simp only [Int.toNat_natCast]
              rw [extract_one s (i + 1) b r hr, if_pos (by rw [mk_size, mk_size]; simp; omega), goOn (i + 1 + 1) (by omega) (by omega) b, hr2, Name.nam_esc he]
              simp only [Option.some.injEq, Prod.mk.injEq, true_and]
              omega
        · have h92 : ¬ ((c.toNat : Int) = 92) := fun e => by
            have := u8_eq (d := 92) e
            subst this
            revert hsg; decide
          rw [if_neg h92, w1 (by omega), if_pos (by omega), if_pos (by omega)]
          simp only [Int.toNat_natCast]
          rw [extract_one s i c r e, if_pos (by rw [mk_size, mk_size]; simp; omega), goOn (i + 1) (by omega) (by omega) c, hr, Name.nam_sgn he hsg]
          simp only [Option.some.injEq, Prod.mk.injEq, true_and]
          omega
      rw [clerestoryref2_said.l0, if_pos (by omega), if_pos (by omega), hb, named_eq, Option.bind_some, e]
      by_cases hsg : Sp.sgn c = true
      · rw [if_pos hsg]
        refine one_ true rfl ?_
        cases he : Sp.esc (c :: r)
        · exact .inr ⟨rfl, hsg⟩
        · exact .inl rfl
      · rw [if_neg hsg, hesc, Option.bind_some]
        cases he : Sp.esc (c :: r)
        · rw [clerestoryref2_said.j1, if_neg (by decide), Name.nam_stop he (by simpa using hsg)]
          simp
        · exact one_ true rfl (.inl he)

/-- said at place i. -/
theorem said_eq (s : ByteArray) (hs : s.size ≤ 400) (i : Nat) (hi : i ≤ s.size) : clerestoryref2_said.f 802 s (i : Int) = some (mk (Sp.nam (s.data.toList.drop i)).1, ((i + (Sp.nam (s.data.toList.drop i)).2 : Nat) : Int)) :=
  said_go s hs (s.size - i) i [] 802 (by omega) (by simp) (by omega)

end Go.Proofs.YtdjifjnophcnlaaDoor.RefA

namespace Go.Proofs.YtdjifjnophcnlaaDoor.RefB
open Go.RowKit Go.Proofs.YtdjifjnophcnlaaDoorW.PrintWords Go.Proofs.YtdjifjnophcnlaaDoorW.PrintLast Go.Proofs.YtdjifjnophcnlaaDoorW.PrintMore
open PVarFills RefA

theorem w2 {i : Nat} (h : i ≤ 1000) : wrap64 ((i : Int) + 2) = ((i + 2 : Nat) : Int) := by rw [IntWalk.wrap64_in _ (by omega)]; rfl

theorem note_go (s : ByteArray) (hs : s.size ≤ 400) : ∀ (d i k : Nat), s.size ≤ i + d → i ≤ 900 → d + 1 ≤ k →
    clerestoryref2_noteAt.l0 k s (i : Int) = some (9, mk (s.data.toList.take (i + Sp.note (s.data.toList.drop i))), ⟨#[]⟩, 0)
  | d, i, k, hi, h9, hk => by
    obtain ⟨k, rfl⟩ : ∃ k', k = k' + 1 := ⟨k - 1, by omega⟩
    have hl : s.data.toList.length = s.size := (Lib.size_eq s).symm
    have done : ∀ n, s.size ≤ n → s = mk (s.data.toList.take n) := fun n hn => by rw [List.take_of_length_le (by omega), mk_of]
    rw [clerestoryref2_noteAt.l0, w1 (by omega), w2 (by omega)]
    rcases cut s i with ⟨h, e⟩ | ⟨a, r, h, e, hb, hr⟩
    · rw [if_neg (by omega), e, ← done _ (by omega)]
    · rcases cut s (i + 1) with ⟨h2, e2⟩ | ⟨b, r2, h2, e2, hb2, hr2⟩
      · have er : r = [] := by rw [← hr, e2]
        rw [if_neg (by omega), e, er, ← done _ (by simp [Sp.note]; omega)]
      · have er : r = b :: r2 := by rw [← hr, e2]
        obtain ⟨d, rfl⟩ : ∃ d', d = d' + 1 := ⟨d - 1, by omega⟩
        have ih := note_go s hs d (i + 1) k (by omega) (by omega) (by omega)
        rw [if_pos (by omega), if_pos (by omega), if_pos (by omega), hb, hb2, e, er, Sp.note]
        by_cases h42 : a = 42
        · rw [if_pos (show (a.toNat : Int) = 42 by rw [h42]; rfl), if_pos (by omega)]
          by_cases h47 : b = 47
          · rw [if_pos (show (b.toNat : Int) = 47 by rw [h47]; rfl), if_pos (by omega), if_pos (by omega), if_pos (by rw [h42, h47]; rfl), Int.toNat_natCast, extract_zero]
          · rw [if_neg (show ¬ (b.toNat : Int) = 47 from fun e => h47 (u8_eq (d := 47) e)), if_neg (by simp [h47]), ih, e2, show i + 1 + Sp.note (b :: r2) = i + (Sp.note (b :: r2) + 1) by omega]
        · rw [if_neg (show ¬ (a.toNat : Int) = 42 from fun e => h42 (u8_eq (d := 42) e)), if_neg (by simp [h42]), ih, e2, show i + 1 + Sp.note (b :: r2) = i + (Sp.note (b :: r2) + 1) by omega]

theorem note_eq (s : ByteArray) (hs : s.size ≤ 400) : clerestoryref2_noteAt.f 402 s = some (9, mk (s.data.toList.take (2 + Sp.note (s.data.toList.drop 2))), ⟨#[]⟩, 0) :=
  note_go s hs s.size 2 402 (by omega) (by omega) (by omega)

/-- What textAt hands back, where what is said already is out. -/
def textEnd (s : ByteArray) (i : Nat) (out : Sp.By) (x : Bool × Sp.By × Nat) : Int × ByteArray × ByteArray × Int :=
  if x.1 then (5, mk (s.data.toList.take (i + x.2.2)), mk (out ++ x.2.1), 0) else (6, mk (s.data.toList.take (i + x.2.2)), ⟨#[]⟩, 0)

theorem text_go (s : ByteArray) (hs : s.size ≤ 400) (q : UInt8) (r0 : Sp.By) (hq : s.data.toList = q :: r0) (hq10 : q ≠ 10) : ∀ (d i : Nat) (out : Sp.By) (k : Nat), i + d = s.size → 1 ≤ i → out.length ≤ i → 2 * d + 2 ≤ k →
    clerestoryref2_textAt.l0 k s (mk out) (i : Int) = some (textEnd s i out (Sp.txt q (s.data.toList.drop i))) := by
  have hq0 : bt s 0 = (q.toNat : Int) := Block.bt_nat s 0 q (by rw [hq]; rfl)
  have hl : s.data.toList.length = s.size := (Lib.size_eq s).symm
  have hs0 : 0 < s.size := by rw [← hl, hq]; simp
  intro d
  induction d using Nat.strongRecOn with
  | _ d ih =>
    intro i out k hi h1 ho hk
    obtain ⟨k, rfl⟩ : ∃ k', k = k' + 2 := ⟨k - 2, by omega⟩
    rcases cut s i with ⟨h, e⟩ | ⟨a, r, h, e, hb, hr⟩
    · rw [clerestoryref2_textAt.l0, if_neg (by omega), clerestoryref2_textAt.j1, if_neg (by decide), if_neg (by omega), if_pos (by omega), if_pos (by omega), e, Int.toNat_natCast, extract_zero]
      simp [textEnd, Sp.txt]
    · have goOn : ∀ (j : Nat), i < j → j ≤ s.size → ∀ (x : UInt8), clerestoryref2_textAt.l0 k s (mk out ++ mk [x]) (j : Int) = some (textEnd s j (out ++ [x]) (Sp.txt q (s.data.toList.drop j))) := fun j hj hj2 x => by
        rw [mk_append, ih (s.size - j) (by omega) j (out ++ [x]) k (by omega) (by omega) (by simp; omega) (by omega)]
      have step : ∀ (j : Nat) (x : UInt8) (y : Bool × Sp.By × Nat), i ≤ j → textEnd s j (out ++ [x]) y = textEnd s i out (y.1, x :: y.2.1, y.2.2 + (j - i)) := fun j x y hj => by
        obtain ⟨y1, y2, y3⟩ := y
        simp only [textEnd]
        rw [show i + (y3 + (j - i)) = j + y3 by omega]
        cases y1 <;> simp
      by_cases h10 : a = 10
      · rw [clerestoryref2_textAt.l0, if_pos (by omega), if_pos (by omega), hb, if_pos (show (a.toNat : Int) = 10 by rw [h10]; rfl), clerestoryref2_textAt.j1, if_neg (by decide), if_pos (by omega), if_pos (by omega), if_pos (by omega), hb, hq0,
          if_neg (fun e => by have := u8_eq e; exact hq10 (this.symm.trans h10)), if_pos (by omega), e, Text.txt_nl (fun e => hq10 (e.symm.trans h10)) h10, Int.toNat_natCast, extract_zero]
        rfl
      · have hne : ¬ (a.toNat : Int) = 10 := fun e => h10 (u8_eq (d := 10) e)
        rw [clerestoryref2_textAt.l0, if_pos (by omega), if_pos (by omega), hb, if_neg hne, if_pos (by omega), hq0, e]
        by_cases hqa : a = q
        · subst hqa
          rw [show (((a.toNat : Int) != (a.toNat : Int)) : Bool) = false by simp, clerestoryref2_textAt.j1, if_neg (by decide), if_pos (by omega), if_pos (by omega), if_pos (by omega), hb, hq0, if_pos rfl, w1 (by omega), if_pos (by omega), if_pos (by omega), Text.txt_close, Int.toNat_natCast, extract_zero]
          simp [textEnd]
        · have hqn : ¬ (a.toNat : Int) = (q.toNat : Int) := fun e => hqa (u8_eq e)
          rw [show (((a.toNat : Int) != (q.toNat : Int)) : Bool) = true from bne_iff_ne.2 hqn, clerestoryref2_textAt.j1, if_pos rfl, if_pos (by omega), if_pos (by omega), hb, w1 (by omega)]
          by_cases h92 : a = 92
          · rw [if_pos (show (a.toNat : Int) = 92 by rw [h92]; rfl)]
            rcases cut s (i + 1) with ⟨h2, e2⟩ | ⟨b, r2, h2, e2, hb2, hr2⟩
            · have er : r = [] := by rw [← hr, e2]
              rw [if_neg (by omega), if_pos (by omega), if_pos (by omega)]
              simp only [Int.toNat_natCast]
              rw [extract_one s i a r e, if_pos (by rw [mk_size, mk_size]; simp; omega), goOn (i + 1) (by omega) (by omega) a, e2, step (i + 1) a _ (by omega), er, Text.txt_last hqa h10]
              simp [Sp.txt]
            · have er : r = b :: r2 := by rw [← hr, e2]
              rw [if_pos (by omega), if_pos (by omega), w1 (by omega), if_pos (by omega), if_pos (by omega)]
              simp only [Int.toNat_natCast]
              rw [extract_one s (i + 1) b r2 e2, if_pos (by rw [mk_size, mk_size]; simp; omega), goOn (i + 1 + 1) (by omega) (by omega) b, hr2, step (i + 1 + 1) b _ (by omega), er, Text.txt_esc hqa h10 h92]
              congr 5; omega
          · rw [if_neg (show ¬ (a.toNat : Int) = 92 from fun e => h92 (u8_eq (d := 92) e)), if_pos (by omega), if_pos (by omega)]
            simp only [Int.toNat_natCast]
            rw [extract_one s i a r e, if_pos (by rw [mk_size, mk_size]; simp; omega), goOn (i + 1) (by omega) (by omega) a, hr, step (i + 1) a _ (by omega), Text.txt_oth hqa h10 h92]
            congr 5; omega

theorem text_eq (s : ByteArray) (hs : s.size ≤ 400) (q : UInt8) (r0 : Sp.By) (hq : s.data.toList = q :: r0) (hq10 : q ≠ 10) :
    clerestoryref2_textAt.f 802 s = some ((Sp.textTok q r0).k, mk (Sp.textTok q r0).raw, mk (Sp.textTok q r0).val, 0) := by
  have hl : s.data.toList.length = s.size := (Lib.size_eq s).symm
  have hs0 : 0 < s.size := by rw [← hl, hq]; simp
  have := text_go s hs q r0 hq hq10 (s.size - 1) 1 [] 802 (by omega) (by omega) (by simp) (by omega)
  unfold clerestoryref2_textAt.f
  refine this.trans ?_
  rw [hq, List.drop_succ_cons, List.drop_zero]
  unfold textEnd Sp.textTok
  rw [hq]
  cases (Sp.txt q r0).1 <;> rfl

end Go.Proofs.YtdjifjnophcnlaaDoor.RefB

namespace Go.Proofs.YtdjifjnophcnlaaDoor.RefC
open Go.RowKit Go.Proofs.YtdjifjnophcnlaaDoorW.PrintWords Go.Proofs.YtdjifjnophcnlaaDoorW.PrintLast Go.Proofs.YtdjifjnophcnlaaDoorW.PrintMore
open PVarFills RefA

theorem digs_nil : Sp.digs [] = 0 := rfl
theorem digs_yes {c : UInt8} {r : Sp.By} (h : Sp.dig c = true) : Sp.digs (c :: r) = Sp.digs r + 1 := by simp [Sp.digs, h]
theorem digs_no {c : UInt8} {r : Sp.By} (h : Sp.dig c = false) : Sp.digs (c :: r) = 0 := by simp [Sp.digs, h]

theorem whole_go (s : ByteArray) (hs : s.size ≤ 400) (x5 : Int) : ∀ (d i : Nat) (x6 : Int) (k : Nat), i + d = s.size → ∃ x6' k', k ≤ k' ∧
    clerestoryref2_NumberAt.l0 (k + d + 1) s (i : Int) x5 x6 = clerestoryref2_NumberAt.j3 k' s ((i + Sp.digs (s.data.toList.drop i) : Nat) : Int) x5 x6'
  | 0, i, x6, k, hi => by
    rcases cut s i with ⟨h, e⟩ | ⟨c, r, h, _⟩
    · rw [clerestoryref2_NumberAt.l0, if_neg (by omega), e, digs_nil]
      exact ⟨x6, k, Nat.le_refl _, rfl⟩
    · omega
  | d + 1, i, x6, k, hi => by
    rcases cut s i with ⟨h, e⟩ | ⟨c, r, h, e, hb, hr⟩
    · omega
    · rw [show k + (d + 1) + 1 = (k + d + 1) + 1 by omega, clerestoryref2_NumberAt.l0, if_pos (by omega), if_pos (by omega), hb, digit_eq, Option.bind_some, e]
      cases hd : Sp.dig c
      · rw [if_neg (by decide), digs_no hd]
        exact ⟨x6, k + d + 1, by omega, rfl⟩
      · rw [if_pos rfl, w1 (by omega), digs_yes hd]
        obtain ⟨y, k', hk, e2⟩ := whole_go s hs x5 d (i + 1) (mn (wrap64 ((wrap64 (10 * x6)) + (((c.toNat : Int) - 48) % 256))) 1000000000) k (by omega)
        refine ⟨y, k', hk, e2.trans ?_⟩
        rw [hr, show i + 1 + Sp.digs r = i + (Sp.digs r + 1) by omega]

theorem rest_go (s : ByteArray) (hs : s.size ≤ 400) : ∀ (d i : Nat) (x6 : Int) (x7 : Nat) (x8 : Int) (k : Nat), i + d = s.size → x7 ≤ i → ∃ x6' k', k ≤ k' ∧
    clerestoryref2_NumberAt.l1 (k + d + 1) s (i : Int) x6 (x7 : Int) x8 = clerestoryref2_NumberAt.j6 k' s ((i + Sp.digs (s.data.toList.drop i) : Nat) : Int) x6' ((x7 + Sp.digs (s.data.toList.drop i) : Nat) : Int)
  | 0, i, x6, x7, x8, k, hi, h7 => by
    rcases cut s i with ⟨h, e⟩ | ⟨c, r, h, _⟩
    · rw [clerestoryref2_NumberAt.l1, if_neg (by omega), e, digs_nil]
      exact ⟨x6, k, Nat.le_refl _, rfl⟩
    · omega
  | d + 1, i, x6, x7, x8, k, hi, h7 => by
    rcases cut s i with ⟨h, e⟩ | ⟨c, r, h, e, hb, hr⟩
    · omega
    · rw [show k + (d + 1) + 1 = (k + d + 1) + 1 by omega, clerestoryref2_NumberAt.l1, if_pos (by omega), if_pos (by omega), hb, digit_eq, Option.bind_some, e]
      cases hd : Sp.dig c
      · rw [if_neg (by decide), digs_no hd]
        exact ⟨x6, k + d + 1, by omega, rfl⟩
      · rw [if_pos rfl, w1 (by omega), w1 (by omega), digs_yes hd]
        obtain ⟨y, k', hk, e2⟩ := rest_go s hs d (i + 1) (mn (wrap64 (x6 + (wrap64 (x8 * (((c.toNat : Int) - 48) % 256))))) 1000000000) (x7 + 1) (wrap64 (Int.tdiv x8 10)) k (by omega) (by omega)
        refine ⟨y, k', hk, e2.trans ?_⟩
        rw [hr, show i + 1 + Sp.digs r = i + (Sp.digs r + 1) by omega, show x7 + 1 + Sp.digs r = x7 + (Sp.digs r + 1) by omega]

theorem j6_eq (s : ByteArray) (hs0 : 0 < s.size) (i x7 k : Nat) (x6 : Int) (hk : 1 ≤ k) : ∃ n, clerestoryref2_NumberAt.j6 k s (i : Int) x6 (x7 : Int) = some (n, ((if x7 = 0 then 0 else i : Nat) : Int)) := by
  obtain ⟨k, rfl⟩ : ∃ k', k = k' + 1 := ⟨k - 1, by omega⟩
  rw [clerestoryref2_NumberAt.j6]
  by_cases h : x7 = 0
  · rw [if_pos (by omega), if_pos h]; exact ⟨0, rfl⟩
  · rw [if_neg (by omega), if_pos (by omega), if_neg h]
    split <;> exact ⟨_, rfl⟩

/-- From the place where the sign is over. -/
theorem j1_eq (s : ByteArray) (hs : s.size ≤ 400) (hs0 : 0 < s.size) (i : Nat) (hi : i ≤ s.size) (k : Nat) (hk : 1000 ≤ k) : ∃ n,
    clerestoryref2_NumberAt.j1 k s (i : Int) = some (n, ((if Sp.digs (s.data.toList.drop i) + Sp.dots (s.data.toList.drop (i + Sp.digs (s.data.toList.drop i))) = 0 then 0
      else i + Sp.digs (s.data.toList.drop i) + (if 0 < Sp.dots (s.data.toList.drop (i + Sp.digs (s.data.toList.drop i))) then 1 + Sp.dots (s.data.toList.drop (i + Sp.digs (s.data.toList.drop i))) else 0) : Nat) : Int)) := by
  obtain ⟨k, rfl⟩ : ∃ k', k = (k' + (s.size - i) + 1) + 1 := ⟨k - (s.size - i) - 2, by omega⟩
  rw [clerestoryref2_NumberAt.j1]
  obtain ⟨x6, k1, hk1, e1⟩ := whole_go s hs (i : Int) (s.size - i) i 0 k (by omega)
  rw [e1]
  have hdl : Sp.digs (s.data.toList.drop i) ≤ s.size - i := by
    have := Number.digs_le (s.data.toList.drop i)
    rw [List.length_drop, ← Lib.size_eq] at this; exact this
  obtain ⟨n, hn⟩ : ∃ n, Sp.digs (s.data.toList.drop i) = n := ⟨_, rfl⟩
  rw [hn] at hdl ⊢
  obtain ⟨k1, rfl⟩ : ∃ k', k1 = k' + 2 := ⟨k1 - 2, by omega⟩
  have hsub : wrap64 (((i + n : Nat) : Int) - (i : Int)) = (n : Int) := by rw [IntWalk.wrap64_in _ (by omega)]; omega
  rw [clerestoryref2_NumberAt.j3, at_eq, Option.bind_some, hsub, w1 (by omega)]
  have nodot : ∀ y6 : Int, Sp.dots (s.data.toList.drop (i + n)) = 0 → ∃ m, clerestoryref2_NumberAt.j4 (k1 + 1) s ((i + n : Nat) : Int) y6 (n : Int) false = some (m, ((if n + Sp.dots (s.data.toList.drop (i + n)) = 0 then 0 else i + n + (if 0 < Sp.dots (s.data.toList.drop (i + n)) then 1 + Sp.dots (s.data.toList.drop (i + n)) else 0) : Nat) : Int)) := fun y6 h0 => by
    rw [clerestoryref2_NumberAt.j4, if_neg (by decide), h0]
    exact j6_eq s hs0 (i + n) n k1 y6 (by omega)
  rcases cut s (i + n) with ⟨h, e⟩ | ⟨c, r, h, e, hb, hr⟩
  · have h0 : Sp.dots (s.data.toList.drop (i + n)) = 0 := by rw [e]; rfl
    rw [if_neg (by rw [e]; decide)]
    exact nodot _ h0
  · by_cases h46 : c = 46
    · rw [if_pos (show byteAt (s.data.toList.drop (i + n)) = 46 by rw [e, h46]; rfl)]
      have hdots : Sp.dots (s.data.toList.drop (i + n)) = Sp.digs r := by rw [e, h46]; rfl
      rcases cut s (i + n + 1) with ⟨h2, e2⟩ | ⟨b, r2, h2, e2, hb2, hr2⟩
      · rw [if_neg (by omega)]
        exact nodot _ (by rw [hdots, ← hr, e2]; rfl)
      · rw [if_pos (by omega), if_pos (by omega), hb2, digit_eq, Option.bind_some]
        cases hd : Sp.dig b
        · exact nodot _ (by rw [hdots, ← hr, e2, digs_no hd])
        · rw [clerestoryref2_NumberAt.j4, if_pos rfl, w1 (by omega)]
          have hpos : 0 < Sp.digs r := by rw [← hr, e2, digs_yes hd]; omega
          obtain ⟨k2, rfl⟩ : ∃ k', k1 = k' + (s.size - (i + n + 1)) + 1 := ⟨k1 - (s.size - (i + n + 1)) - 1, by omega⟩
          obtain ⟨y, k3, hk3, e3⟩ := rest_go s hs (s.size - (i + n + 1)) (i + n + 1) (mn (wrap64 (1000 * x6)) 1000000000) n 100 k2 (by omega) (by omega)
          rw [e3]
          obtain ⟨m, hm⟩ := j6_eq s hs0 (i + n + 1 + Sp.digs (s.data.toList.drop (i + n + 1))) (n + Sp.digs (s.data.toList.drop (i + n + 1))) k3 y (by omega)
          refine ⟨m, hm.trans ?_⟩
          rw [hr, hdots, if_neg (by omega), if_neg (by omega), if_pos hpos, show i + n + 1 + Sp.digs r = i + n + (1 + Sp.digs r) by omega]
    · have h0 : Sp.dots (s.data.toList.drop (i + n)) = 0 := by rw [e]; simp [Sp.dots, h46]
      rw [if_neg (show ¬ byteAt (s.data.toList.drop (i + n)) = 46 by rw [e]; exact fun e => h46 (u8_eq (d := 46) e))]
      exact nodot _ h0

/-- NumberAt at a text that is not empty. -/
theorem number_eq (s : ByteArray) (hs : s.size ≤ 400) (hs0 : 0 < s.size) : ∃ n, clerestoryref2_NumberAt.f 2000 s = some (n, (Sp.numLen s.data.toList : Int)) := by
  have key : ∀ i, Sp.from_ s.data.toList = i → i ≤ s.size → ∃ n, clerestoryref2_NumberAt.j1 1999 s (i : Int) = some (n, (Sp.numLen s.data.toList : Int)) := fun i hi hle => by
    obtain ⟨n, hn⟩ := j1_eq s hs hs0 i hle 1999 (by omega)
    refine ⟨n, hn.trans ?_⟩
    unfold Sp.numLen Sp.behind Sp.whole
    rw [hi]
  unfold clerestoryref2_NumberAt.f
  have h0 := at_eq s 0
  rw [show ((0 : Nat) : Int) = 0 from rfl] at h0
  rw [h0, Option.bind_some]
  rcases cut s 0 with ⟨h, e⟩ | ⟨c, r, h, e, hb, hr⟩
  · omega
  · rw [e]
    have e' : s.data.toList = c :: r := e
    by_cases h43 : c = 43
    · rw [if_pos (show byteAt (c :: r) = 43 by rw [h43]; rfl), clerestoryref2_NumberAt.j0, if_pos rfl]
      exact key 1 (by rw [e', h43]; rfl) (by omega)
    · rw [if_neg (show ¬ byteAt (c :: r) = 43 from fun e => h43 (u8_eq (d := 43) e)), Option.bind_some]
      by_cases h45 : c = 45
      · rw [show (byteAt (c :: r) == 45) = true by rw [h45]; rfl, clerestoryref2_NumberAt.j0, if_pos rfl]
        exact key 1 (by rw [e', h45]; rfl) (by omega)
      · rw [show (byteAt (c :: r) == 45) = false from beq_eq_false_iff_ne.2 (fun e => h45 (u8_eq (d := 45) e)), clerestoryref2_NumberAt.j0, if_neg (by decide)]
        exact key 0 (by rw [e']; simp [Sp.from_, h43, h45]) (by omega)

end Go.Proofs.YtdjifjnophcnlaaDoor.RefC

namespace Go.Proofs.YtdjifjnophcnlaaDoor.RefD
open Go.RowKit Go.Proofs.YtdjifjnophcnlaaDoorW.PrintWords Go.Proofs.YtdjifjnophcnlaaDoorW.PrintLast Go.Proofs.YtdjifjnophcnlaaDoorW.PrintMore
open PVarFills RefA

theorem silent_eq (x : S37) : clerestoryref2_Silent.f x.f0 x.f1 x.f2 x.f3 = some (Sp.silent (view x)) := by
  unfold clerestoryref2_Silent.f
  simp only [Sp.silent, view]
  by_cases h8 : x.f0 = 8
  · simp [h8]
  · rw [if_neg h8, show (x.f0 == 8) = false from beq_eq_false_iff_ne.2 h8]; rfl

theorem closes_eq (x : S37) (h : x.f1.size ≠ 0) (hz : x.f1.size ≤ 400) : clerestoryref2_Closes.f x.f0 x.f1 x.f2 x.f3 = some ((Sp.closer (view x)).toNat : Int) := by
  obtain ⟨c, h1, h2⟩ := Block.bt_last x.f1 h
  have hw : wrap64 ((x.f1.size : Int) - 1) = (x.f1.size : Int) - 1 := IntWalk.wrap64_in _ (by omega)
  have hc : Sp.closer (view x) = if c = 91 then 93 else if c = 123 then 125 else 41 := by
    unfold Sp.closer
    rw [show (view x).raw.getLast? = some c from h1]
    split
    · rename_i e; rw [if_pos (Option.some.inj e)]
    · rename_i e; have e' := Option.some.inj e; subst e'; rfl
    · rename_i n1 n2; rw [if_neg (fun e => n1 (by rw [e])), if_neg (fun e => n2 (by rw [e]))]
  unfold clerestoryref2_Closes.f
  simp only [hw, h2]
  rw [if_pos (by omega), if_pos (by omega), hc]
  by_cases h91 : c = 91
  · subst h91; rfl
  · rw [if_neg (show ¬ ((c.toNat : Int) = 91) from Block.u8_ne h91), if_neg h91]
    by_cases h123 : c = 123
    · subst h123; rfl
    · rw [if_neg (show ¬ ((c.toNat : Int) = 123) from Block.u8_ne h123), if_neg h123]; rfl

theorem skip_go (xs : List S37) (hn : xs.length ≤ 400) : ∀ (d i k : Nat), i + d = xs.length → d + 1 ≤ k → ∃ j : Nat, i ≤ j ∧ j ≤ xs.length ∧ clerestoryref2_skip.l0 k xs (i : Int) = some (j : Int) ∧ xs.drop j = Block.loud (xs.drop i)
  | 0, i, k, hi, hk => by
    obtain ⟨k, rfl⟩ : ∃ k', k = k' + 1 := ⟨k - 1, by omega⟩
    refine ⟨i, Nat.le_refl _, by omega, ?_, ?_⟩
    · rw [clerestoryref2_skip.l0, if_neg (by omega)]
    · rw [List.drop_eq_nil_of_le (by omega)]; rfl
  | d + 1, i, k, hi, hk => by
    obtain ⟨k, rfl⟩ : ∃ k', k = k' + 1 := ⟨k - 1, by omega⟩
    rw [clerestoryref2_skip.l0, if_pos (by omega), if_pos (by omega), silent_eq, Option.bind_some, Block.drop_cons xs i (by omega)]
    cases hs : Sp.silent (view (rd_T37 xs (i : Int)))
    · rw [if_neg (by decide)]
      exact ⟨i, Nat.le_refl _, by omega, rfl, by rw [Block.drop_cons xs i (by omega)]; simp [Block.loud, hs]⟩
    · rw [if_pos rfl, w1 (by omega)]
      obtain ⟨j, h1, h2, h3, h4⟩ := skip_go xs hn d (i + 1) k (by omega) (by omega)
      exact ⟨j, by omega, h2, h3, by rw [h4]; simp [Block.loud, hs]⟩
theorem skip_eq (xs : List S37) (hn : xs.length ≤ 400) (i : Nat) (hi : i ≤ xs.length) : ∃ j : Nat, i ≤ j ∧ j ≤ xs.length ∧ clerestoryref2_skip.f 401 xs (i : Int) = some (j : Int) ∧ xs.drop j = Block.loud (xs.drop i) :=
  skip_go xs hn (xs.length - i) i 401 (by omega) (by omega)

theorem blk_split : ∀ (l : List Sp.T) (s1 s2 : List UInt8), Sp.blk (s1 ++ s2) l = (match Sp.blk s1 l with | none => none | some m => (Sp.blk s2 (l.drop m)).map (· + m))
  | l, [], s2 => by
    have : Sp.blk [] l = some 0 := by cases l <;> rfl
    rw [this]; simp
  | [], c :: s1, s2 => by rfl
  | t :: l, c :: s1, s2 => by
    have key : ∀ s, Sp.blk (s ++ s2) l = (match Sp.blk s l with | none => none | some m => (Sp.blk s2 (l.drop m)).map (· + m)) → (Sp.blk (s ++ s2) l).map (· + 1) = (match (Sp.blk s l).map (· + 1) with | none => none | some m => (Sp.blk s2 ((t :: l).drop m)).map (· + m)) := fun s h => by
      rw [h]
      cases Sp.blk s l with
      | none => rfl
      | some m =>
        simp only [Option.map_some, List.drop_succ_cons, Option.map_map]
        congr 1
    rw [List.cons_append, Sp.blk, Sp.blk]
    split
    · exact key (Sp.closer t :: c :: s1) (blk_split l _ s2)
    · split
      · exact key s1 (blk_split l _ s2)
      · exact key (c :: s1) (blk_split l _ s2)

/-- What is known of the tokens: texts not empty and short; what closes is one byte. -/
def Fine (xs : List S37) : Prop := xs.length ≤ 400 ∧ ∀ x ∈ xs, (x.f1.size ≠ 0 ∧ x.f1.size ≤ 400) ∧ (x.f0 = 11 → x.f1.size = 1)

theorem bt0 (s : ByteArray) (c : UInt8) (r : Sp.By) (h : s.data.toList = c :: r) : bt s 0 = (c.toNat : Int) := Block.bt_nat s 0 c (by rw [h]; rfl)

theorem end_go (xs : List S37) (hF : Fine xs) : ∀ (d i : Nat) (c : UInt8) (k : Nat), i + d = xs.length → 4 * d + 1 ≤ k →
    clerestoryref2_BlockEnd.l0 k xs (i : Int) (c.toNat : Int) = some (Block.ende i (Sp.blk [c] (views (xs.drop i)))) := by
  have hn := hF.1
  intro d
  induction d using Nat.strongRecOn with
  | _ d ih =>
    intro i c k hi hk
    rcases Nat.lt_or_ge i xs.length with hlt | hge
    · obtain ⟨k, rfl⟩ : ∃ k', k = k' + 4 := ⟨k - 4, by omega⟩
      have hx := hF.2 _ (Block.rd_mem xs i hlt)
      rw [Block.drop_cons xs i hlt]
      obtain ⟨x, hxe⟩ : ∃ x, rd_T37 xs (i : Int) = x := ⟨_, rfl⟩
      rw [hxe] at hx ⊢
      obtain ⟨a, rr, hraw⟩ : ∃ a rr, x.f1.data.toList = a :: rr := by
        cases h : x.f1.data.toList with
        | nil => exact absurd (by rw [Lib.size_eq, h]; rfl) hx.1.1
        | cons a rr => exact ⟨a, rr, rfl⟩
      have hb0 := bt0 x.f1 a rr hraw
      have hblk : Sp.blk [c] (views (x :: xs.drop (i + 1))) = (if Sp.opens (view x) then (Sp.blk [Sp.closer (view x), c] (views (xs.drop (i + 1)))).map (· + 1) else if (view x).k == 11 && (view x).raw == [c] then (Sp.blk [] (views (xs.drop (i + 1)))).map (· + 1) else (Sp.blk [c] (views (xs.drop (i + 1)))).map (· + 1)) := rfl
      have hnext : clerestoryref2_BlockEnd.l0 (k + 1) xs (wrap64 ((i : Int) + 1)) (c.toNat : Int) = some (Block.ende i ((Sp.blk [c] (views (xs.drop (i + 1)))).map (· + 1))) := by
        rw [w1 (by omega), ih (d - 1) (by omega) (i + 1) c (k + 1) (by omega) (by omega), Block.ende_succ]
      rw [clerestoryref2_BlockEnd.l0, if_pos (by omega), if_pos (by omega), hxe, hblk]
      -- not a closing one: what opens, or goes on
      have onward : Sp.opens (view x) = true ∨ (Sp.opens (view x) = false ∧ ((view x).k == 11 && (view x).raw == [c]) = false) → clerestoryref2_BlockEnd.j1 (k + 3) xs (i : Int) (c.toNat : Int) false
          = some (Block.ende i (if Sp.opens (view x) then (Sp.blk [Sp.closer (view x), c] (views (xs.drop (i + 1)))).map (· + 1) else if (view x).k == 11 && (view x).raw == [c] then (Sp.blk [] (views (xs.drop (i + 1)))).map (· + 1) else (Sp.blk [c] (views (xs.drop (i + 1)))).map (· + 1))) := fun hcase => by
        rw [clerestoryref2_BlockEnd.j1, if_neg (by decide), if_pos (by omega), if_pos (by omega), hxe]
        have opn : ∀ b, b = true → Sp.opens (view x) = true → clerestoryref2_BlockEnd.j2 (k + 2) xs (i : Int) (c.toNat : Int) b = some (Block.ende i ((Sp.blk [Sp.closer (view x), c] (views (xs.drop (i + 1)))).map (· + 1))) := by
          rintro b rfl ho
          rw [clerestoryref2_BlockEnd.j2, if_pos rfl, clerestoryref2_BlockEnd.f, if_pos (by omega), if_pos (by omega), hxe, closes_eq x hx.1.1 hx.1.2, Option.bind_some, w1 (by omega), ih (d - 1) (by omega) (i + 1) (Sp.closer (view x)) k (by omega) (by omega), Option.bind_some]
          have hsp := blk_split (views (xs.drop (i + 1))) [Sp.closer (view x)] [c]
          rw [show [Sp.closer (view x)] ++ [c] = [Sp.closer (view x), c] from rfl] at hsp
          rw [hsp]
          cases hm : Sp.blk [Sp.closer (view x)] (views (xs.drop (i + 1))) with
          | none => rw [if_pos (show Block.ende (i + 1) none = 0 from rfl)]; rfl
          | some m =>
            have hml := (Toks.blk_le _ _ _ hm).1
            rw [Fill.views_length, List.length_drop] at hml
            have he : Block.ende (i + 1) (some m) = ((i + 1 + m : Nat) : Int) := rfl
            rw [he, if_neg (by omega), ih (xs.length - (i + 1 + m)) (by omega) (i + 1 + m) c (k + 1) (by omega) (by omega)]
            show some (Block.ende (i + 1 + m) (Sp.blk [c] (views (xs.drop (i + 1 + m))))) = some (Block.ende i (((Sp.blk [c] ((views (xs.drop (i + 1))).drop m)).map (· + m)).map (· + 1)))
            rw [← Fill.views_drop, List.drop_drop]
            simp only [Option.map_map]
            cases Sp.blk [c] (views (xs.drop (i + 1 + m))) with
            | none => rfl
            | some m2 =>
              simp only [Option.map_some, Block.ende, Function.comp]
              rw [show i + 1 + m + m2 = i + (m2 + m + 1) by omega]
        by_cases h10 : x.f0 = 10
        · have ho : Sp.opens (view x) = true := by simp [Sp.opens, view, h10]
          rw [if_pos h10, if_pos ho]
          exact opn true rfl ho
        · rw [if_neg h10]
          by_cases h2 : x.f0 = 2
          · have ho : Sp.opens (view x) = true := by simp [Sp.opens, view, h2]
            rw [if_pos ho]
            exact opn _ (by rw [h2]; rfl) ho
          · have ho : Sp.opens (view x) = false := by simp [Sp.opens, view, h10, h2]
            have hc2 : ((view x).k == 11 && (view x).raw == [c]) = false := hcase.elim (fun h => absurd h (by simp [ho])) (fun h => h.2)
            rw [show (x.f0 == 2) = false from beq_eq_false_iff_ne.2 h2, clerestoryref2_BlockEnd.j2, if_neg (by decide), hnext, ho, hc2]
            rfl
      by_cases h11 : x.f0 = 11
      · have ho : Sp.opens (view x) = false := by simp [Sp.opens, view, h11]
        have hr1 : rr = [] := by
          have h1 := hx.2 h11
          rw [Lib.size_eq, hraw] at h1
          simp at h1; exact h1
        have hsz : 0 < (x.f1.size : Int) := by have := hx.1.1; omega
        rw [if_pos h11, if_pos hsz, hb0]
        by_cases hac : a = c
        · subst hac
          rw [show (((a.toNat : Int) == (a.toNat : Int)) : Bool) = true from beq_self_eq_true _, clerestoryref2_BlockEnd.j1, if_pos rfl, ho, w1 (by omega)]
          have : ((view x).k == 11 && (view x).raw == [a]) = true := by
            rw [show (view x).raw = [a] by rw [← hr1]; exact hraw, show (view x).k = 11 from h11]; simp
          rw [this]
          have h0 : Sp.blk [] (views (xs.drop (i + 1))) = some 0 := by cases views (xs.drop (i + 1)) <;> rfl
          rw [h0]; rfl
        · rw [show (((a.toNat : Int) == (c.toNat : Int)) : Bool) = false from beq_eq_false_iff_ne.2 (Block.u8_ne hac)]
          refine onward (.inr ⟨ho, ?_⟩)
          rw [show (view x).raw = [a] by rw [← hr1]; exact hraw]
          simp [hac]
      · rw [if_neg h11]
        refine onward ?_
        cases ho : Sp.opens (view x)
        · exact .inr ⟨rfl, by rw [show ((view x).k == 11) = false from beq_eq_false_iff_ne.2 h11]; rfl⟩
        · exact .inl rfl
    · obtain ⟨k, rfl⟩ : ∃ k', k = k' + 1 := ⟨k - 1, by omega⟩
      rw [clerestoryref2_BlockEnd.l0, if_neg (by omega), List.drop_eq_nil_of_le hge]
      rfl

/-- BlockEnd at place i. -/
theorem blockEnd_eq (xs : List S37) (hF : Fine xs) (i : Nat) (hi : i < xs.length) : clerestoryref2_BlockEnd.f 1700 xs (i : Int) = some (Block.ende (i + 1) (Sp.blk [Sp.closer (view (rd_T37 xs (i : Int)))] (views (xs.drop (i + 1))))) := by
  have hn := hF.1
  have hx := hF.2 _ (Block.rd_mem xs i hi)
  rw [clerestoryref2_BlockEnd.f, if_pos (by omega), if_pos (by omega), closes_eq _ hx.1.1 hx.1.2, Option.bind_some, w1 (by omega)]
  exact end_go xs hF (xs.length - (i + 1)) (i + 1) _ 1699 (by omega) (by omega)

end Go.Proofs.YtdjifjnophcnlaaDoor.RefD

namespace Go.Proofs.YtdjifjnophcnlaaDoor.RefE
open Go.RowKit Go.Proofs.YtdjifjnophcnlaaDoorW.PrintWords Go.Proofs.YtdjifjnophcnlaaDoorW.PrintLast Go.Proofs.YtdjifjnophcnlaaDoorW.PrintMore
open PVarFills RefA

theorem silent_eq' {x : S37} : clerestoryref2_Silent.f x.f0 x.f1 x.f2 x.f3 = some (Sp.silent (view x)) := RefD.silent_eq x

theorem head_go (xs : List S37) (hn : xs.length ≤ 400) (hz : ∀ x ∈ xs, x.f1.size ≤ 400) : ∀ (d i : Nat) (acc : Sp.By) (gap : Bool) (k : Nat), i + d = xs.length → acc.length ≤ 402 * i → d + 1 ≤ k →
    gap = (!acc.isEmpty && (decide (0 < i) && Sp.silent (view (rd_T37 xs ((i : Int) - 1))))) → (i = 0 → acc = []) →
    clerestoryref2_HeadOf.l0 k xs (mk acc) (i : Int) = some (mk (Sp.headG (views (xs.drop i)) acc gap))
  | 0, i, acc, gap, k, hi, ha, hk, hg, h0 => by
    obtain ⟨k, rfl⟩ : ∃ k', k = k' + 1 := ⟨k - 1, by omega⟩
    rw [clerestoryref2_HeadOf.l0, if_neg (by omega), List.drop_eq_nil_of_le (by omega)]
    rfl
  | d + 1, i, acc, gap, k, hi, ha, hk, hg, h0 => by
    obtain ⟨k, rfl⟩ : ∃ k', k = k' + 1 := ⟨k - 1, by omega⟩
    have hlt : i < xs.length := by omega
    have hx := hz _ (Block.rd_mem xs i hlt)
    rw [clerestoryref2_HeadOf.l0, if_pos (by omega), if_pos (by omega), silent_eq', Option.bind_some, Block.drop_cons xs i hlt]
    have ih := head_go xs hn hz d (i + 1)
    have hprev : rd_T37 xs (((i + 1 : Nat) : Int) - 1) = rd_T37 xs (i : Int) := by rw [show ((i + 1 : Nat) : Int) - 1 = (i : Int) by omega]
    rw [hprev] at ih
    obtain ⟨x, hxe⟩ : ∃ x, rd_T37 xs (i : Int) = x := ⟨_, rfl⟩
    rw [hxe] at hx ih ⊢
    rw [w1 (by omega)]
    cases hs : Sp.silent (view x)
    · rw [if_neg (by decide)]
      have hraw : x.f1 = mk (view x).raw := (mk_of x.f1).symm
      have hsz : x.f1.size = (view x).raw.length := Lib.size_eq _
      have hH : Sp.headG (views (x :: xs.drop (i + 1))) acc gap = Sp.headG (views (xs.drop (i + 1))) ((if gap then acc ++ [32] else acc) ++ (view x).raw) false := by
        simp only [views, List.map_cons, Sp.headG, hs]; rfl
      rw [hH]
      have fin : ∀ acc2 : Sp.By, acc2.length ≤ 402 * (i + 1) → clerestoryref2_HeadOf.l0 k xs (mk acc2) ((i + 1 : Nat) : Int) = some (mk (Sp.headG (views (xs.drop (i + 1))) acc2 false)) := fun acc2 h2 =>
        ih acc2 false k (by omega) h2 (by omega) (by rw [hs]; simp) (by omega)
      by_cases he : acc = []
      · subst he
        have hg0 : gap = false := by rw [hg]; rfl
        subst hg0
        rw [if_pos (show (mk []).toList = ([] : List UInt8) from by rw [ByteArray.toList_eq]), if_pos (by rw [mk_size]; simp; omega), hraw, mk_append]
        exact fin ([] ++ (view x).raw) (by simp; omega)
      · have hi0 : 0 < i := by
          rcases Nat.eq_zero_or_pos i with h | h
          · exact absurd (h0 h) he
          · exact h
        have hwm : wrap64 ((i : Int) - 1) = (i : Int) - 1 := IntWalk.wrap64_in _ (by omega)
        rw [if_neg (show ¬ (mk acc).toList = ([] : List UInt8) from by rw [ByteArray.toList_eq]; exact fun e => he (by simpa [mk] using e)), hwm, if_pos (by omega), if_pos (by omega), silent_eq', Option.bind_some]
        have hemp : acc.isEmpty = false := by cases acc with
          | nil => exact absurd rfl he
          | cons a b => rfl
        have hg1 : gap = Sp.silent (view (rd_T37 xs ((i : Int) - 1))) := by rw [hg, hemp, decide_eq_true hi0]; simp
        rw [← hg1]
        cases gap
        · rw [if_neg (by decide), if_pos (by rw [mk_size]; omega), hraw, mk_append]
          exact fin (acc ++ (view x).raw) (by rw [List.length_append]; omega)
        · rw [if_pos rfl, if_pos (by rw [mk_size]; omega), show (⟨#[32]⟩ : ByteArray) = mk [32] from rfl, mk_append, if_pos (by rw [mk_size]; simp; omega), hraw, mk_append]
          exact fin (acc ++ [32] ++ (view x).raw) (by simp; omega)
    · rw [if_pos rfl]
      have hH : Sp.headG (views (x :: xs.drop (i + 1))) acc gap = Sp.headG (views (xs.drop (i + 1))) acc (!acc.isEmpty) := by
        simp only [views, List.map_cons, Sp.headG, hs, if_true]
      rw [hH]
      exact ih acc (!acc.isEmpty) k (by omega) (by omega) (by omega) (by rw [hs]; simp) (by omega)

/-- HeadOf. -/
theorem head_eq (xs : List S37) (hn : xs.length ≤ 400) (hz : ∀ x ∈ xs, x.f1.size ≤ 400) : clerestoryref2_HeadOf.f 401 xs = some (mk (Sp.head (views xs))) :=
  head_go xs hn hz xs.length 0 [] false 401 (by omega) (by simp) (by omega) (by simp) (fun _ => rfl)

theorem look_take (xs : List S28) (name : ByteArray) (m : Nat) (h : m < xs.length) : Sp.look (Back.envOf (xs.take (m + 1))) name.data.toList = if (rd_T28 xs (m : Int)).f0 = name then some (rd_T28 xs (m : Int)).f1.data.toList else Sp.look (Back.envOf (xs.take m)) name.data.toList := by
  have hx : rd_T28 xs (m : Int) = xs[m] := by rw [rd_T28, Int.toNat_natCast, List.getD_eq_getElem?_getD, List.getElem?_eq_getElem h]; rfl
  rw [List.take_succ_eq_append_getElem h, hx]
  simp only [Back.envOf, Sp.look, List.map_append, List.reverse_append, List.map_cons, List.map_nil, List.reverse_singleton, List.singleton_append, List.find?_cons]
  by_cases he : xs[m].f0 = name
  · rw [if_pos he, show (xs[m].f0.data.toList == name.data.toList) = true by rw [he]; exact beq_self_eq_true _]; rfl
  · rw [if_neg he, show (xs[m].f0.data.toList == name.data.toList) = false from beq_eq_false_iff_ne.2 (Back.bytes_ne he)]

theorem value_go (xs : List S28) (name : ByteArray) (hn : xs.length ≤ 9223372036854775807) : ∀ (m k : Nat), m ≤ xs.length → m + 1 ≤ k → ∃ (v : ByteArray) (b : Bool), clerestoryref2_VarValue.l0 k xs name ((m : Int) - 1) = some (v, b) ∧ Sp.look (Back.envOf (xs.take m)) name.data.toList = (if b then some v.data.toList else none)
  | 0, k, hm, hk => by
    obtain ⟨k, rfl⟩ : ∃ k', k = k' + 1 := ⟨k - 1, by omega⟩
    rw [clerestoryref2_VarValue.l0, if_neg (by omega)]
    exact ⟨_, false, rfl, rfl⟩
  | m + 1, k, hm, hk => by
    obtain ⟨k, rfl⟩ : ∃ k', k = k' + 1 := ⟨k - 1, by omega⟩
    rw [show ((m + 1 : Nat) : Int) - 1 = (m : Int) by omega, clerestoryref2_VarValue.l0, if_pos (by omega), if_pos (by omega), if_pos (by omega), look_take xs name m (by omega)]
    by_cases he : (rd_T28 xs (m : Int)).f0 = name
    · rw [if_pos (by rw [he]), if_pos he]
      exact ⟨_, true, rfl, rfl⟩
    · rw [if_neg (show ¬ (rd_T28 xs (m : Int)).f0.toList = name.toList from fun e => he (Back.eq_bytes (by rw [ByteArray.toList_eq, ByteArray.toList_eq] at e; exact e))), if_neg he, IntWalk.wrap64_in _ (by omega)]
      exact value_go xs name hn m k (by omega) (by omega)

/-- VarValue. -/
theorem value_eq (xs : List S28) (name : ByteArray) (hn : xs.length ≤ 9223372036854775807) : ∃ (v : ByteArray) (b : Bool), clerestoryref2_VarValue.f (xs.length + 1) xs name = some (v, b) ∧ Sp.look (Back.envOf xs) name.data.toList = (if b then some v.data.toList else none) := by
  have := value_go xs name hn xs.length (xs.length + 1) (Nat.le_refl _) (Nat.le_refl _)
  rw [List.take_length] at this
  unfold clerestoryref2_VarValue.f
  rw [IntWalk.wrap64_in _ (by omega)]
  exact this

theorem tk_close (c : UInt8) (r : Sp.By) (h : (Sp.tk (c :: r)).k = 11) : (Sp.tk (c :: r)).raw.length = 1 := by
  revert h
  rw [Sp.tk]
  split
  · intro h; cases h
  · split
    · intro h; cases h
    · split
      · unfold Sp.textTok
        split <;> (intro h; cases h)
      · split
        · intro h; cases h
        · split
          · intro h; cases h
          · split
            · unfold Sp.numTok
              split
              · intro h; cases h
              · split <;> (intro h; cases h)
            · split
              · unfold Sp.nameTok
                split <;> (intro h; cases h)
              · intro _; rfl
theorem toksF_close : ∀ (f : Nat) (l : Sp.By), ∀ t ∈ Sp.toksF f l, t.k = 11 → t.raw.length = 1
  | 0, l, t, ht => by simp [Sp.toksF] at ht
  | f + 1, [], t, ht => by simp [Sp.toksF] at ht
  | f + 1, c :: r, t, ht => by
    simp only [Sp.toksF, List.mem_cons] at ht
    rcases ht with rfl | ht
    · exact tk_close c r
    · exact toksF_close f _ t ht

/-- The tokens of a short text are as RefD asks. -/
theorem fine_of (l : Sp.By) (hl : l.length ≤ 400) (xs : List S37) (h : views xs = Sp.toks l) : RefD.Fine xs := by
  have hf := Fill.fine_of l hl xs h
  refine ⟨hf.1, fun x hx => ⟨(hf.2 x hx).1, fun h11 => ?_⟩⟩
  have hm : view x ∈ Sp.toks l := by rw [← h]; exact List.mem_map_of_mem hx
  have := toksF_close _ _ _ hm h11
  rw [Lib.size_eq]; exact this

end Go.Proofs.YtdjifjnophcnlaaDoor.RefE

namespace Go.Proofs.YtdjifjnophcnlaaDoor.RefF
open Go.RowKit Named

set_option maxHeartbeats 1000000 in
set_option maxRecDepth 100000 in
theorem lower_any (s : ByteArray) (w : World) (hm : s.size ≤ 400) :
    Calls Tryd.prog 28 #[.string s] w fun e w' => e = .returned (.string ⟨(Sp.low s.data.toList).toArray⟩) ∧ Below w.heap.size w w' := by
  have kb := fun W => Lib.run_convert_string_bytes (P := Tryd.prog) W 9 32 5 s Tryd.underlying9 Tryd.underlying32 Tryd.underlying5
  have hS := Lib.hid (linv_start s w)
  obtain ⟨o, ho⟩ : ∃ o, Sp.low s.data.toList = o := ⟨_, rfl⟩
  have HO := Lib.hid ho
  rw [ho]
  clear ho
  obtain ⟨cap, hcap⟩ : ∃ cap, grownCap w s.size 0 5 = cap := ⟨_, rfl⟩
  obtain ⟨B, hB⟩ : ∃ B, w.heap.size = B := ⟨_, rfl⟩
  go_enter Tryd.func28, Tryd.ntmps28
  go_wp2
  clear kb hcap
  go_loopw [4] (fun i wr => ∃ (k : Nat), k ≤ s.size ∧ i = .int .i64 k ∧ Hid (LInv s B w k wr)) (fun i _ => s.size - (intOf i).toNat)
  case atStart => exact ⟨0, by omega, rfl, by rw [← hB]; exact hS⟩
  case round =>
    clear hS
    obtain ⟨k, hk, rfl, HI⟩ := hrel
    by_cases hlt : k < s.size
    · obtain ⟨x, hx⟩ : ∃ x : UInt8, s[k]'hlt = x := ⟨_, rfl⟩
      obtain ⟨g0, f0⟩ := linv_cell HI.out hlt hx
      have HX := Lib.hid hx
      clear hx
      have h0 : (x.toNat : Int) ≤ 255 := by have := UInt8.toNat_lt x; omega
      by_cases h1 : 65 ≤ x.toNat
      · have hb1 : decide (65 ≤ (x.toNat : Int)) = true := decide_eq_true (by omega)
        by_cases h2 : x.toNat ≤ 90
        · have hb2 : decide ((x.toNat : Int) ≤ 90) = true := decide_eq_true (by omega)
          go_wp2
          go_roundw
          case rel => exact ⟨k + 1, by omega, by go_num, Lib.hid (linv_put HI.out hlt HX.out h1 h2)⟩
          case measure => simp [intOf]; omega
        · have hb2 : decide ((x.toNat : Int) ≤ 90) = false := decide_eq_false (by omega)
          go_wp2
          go_roundw
          case rel => exact ⟨k + 1, by omega, by go_num, Lib.hid (linv_keep HI.out hlt HX.out (by omega))⟩
          case measure => simp [intOf]; omega
      · have hb1 : decide (65 ≤ (x.toNat : Int)) = false := decide_eq_false (by omega)
        go_wp2
        go_roundw
        case rel => exact ⟨k + 1, by omega, by go_num, Lib.hid (linv_keep HI.out hlt HX.out (by omega))⟩
        case measure => simp [intOf]; omega
    · obtain rfl : k = s.size := by omega
      have hback := linv_back HI.out cap
      rw [HO.out] at hback
      go_wp2
      go_ret
      exact ⟨rfl, by rw [hB]; exact HI.out.2⟩


end Go.Proofs.YtdjifjnophcnlaaDoor.RefF

namespace Go.Proofs.YtdjifjnophcnlaaDoor.RefF
open Go.RowKit Go.Proofs.YtdjifjnophcnlaaDoorW.PrintWords Go.Proofs.YtdjifjnophcnlaaDoorW.PrintLast Go.Proofs.YtdjifjnophcnlaaDoorW.PrintMore
open RefA

set_option maxHeartbeats 4000000 in
set_option maxRecDepth 100000 in
/-- numAt. -/
theorem numAt_any (s : ByteArray) (num : Int) (n : Nat) (w : World) (hm : s.size ≤ 400) (hn : n ≤ s.size) :
    Calls Tryd.prog 55 #[.string s, .int .i64 num, .int .i64 n] w (TokPost (Num.numTokN s.data.toList n) w) := by
  have hat := at_eq s n
  have hbg := begins_eq s hm n hn
  have hsd := said_eq s hm n hn
  obtain ⟨b0, hb0⟩ : ∃ b0, byteAt (s.data.toList.drop n) = b0 := ⟨_, rfl⟩
  rw [hb0] at hat
  have HAT := Lib.hid hat
  by_cases hp : (s.data.toList.drop n).head? = some 37
  · have h37 : b0 = 37 := by
      rw [← hb0]
      cases hd : s.data.toList.drop n with
      | nil => rw [hd] at hp; simp at hp
      | cons a r => rw [hd] at hp; simp at hp; rw [hp]; rfl
    have hlt : n < s.size := by
      rcases Nat.lt_or_ge n s.size with h | h
      · exact h
      · rw [List.drop_eq_nil_of_le (by rw [← Lib.size_eq]; exact h)] at hp; simp at hp
    have HR := Lib.hid (show Num.numTokN s.data.toList n = ⟨7, s.data.toList.take (n + 1), [37]⟩ by unfold Num.numTokN; rw [if_pos hp])
    have hbe : (b0 == 37) = true := by rw [h37]; rfl
    clear hp hat hbg hsd hb0 h37
    go_enter Tryd.func55, Tryd.ntmps55
    go_upto_region 3 with (first
      | (go_at_call 51; refine (PVarFills.clerestoryref2_at.calls s (n : Int) b0 _ HAT.out).mono ?_; rintro e w1 ⟨rfl, hb⟩; have HB1 := Lib.hid hb.below; have hA := (Tok.At.new (w.alloc _) _ _ _ _).below hb.below (by simp); rw [show ∀ o, (w.alloc o).heap.size = w.heap.size + 1 from fun o => by simp] at hA; have HA := Lib.hid hA; have HA0 := Lib.hid (((Tok.At.new w _ _ _ _).alloc _).below hb.below (by simp; omega)); clear hb hA))
    obtain ⟨⟨g0, g1, g2, g3⟩, f0, f1, f2, f3⟩ := HA.out.cells
    obtain ⟨⟨r0, r1, r2, r3⟩, q0, q1, q2, q3⟩ := HA0.out.cells
    go_wp2
    refine Tok.ret rfl rfl (((((((HA0.out.far (by simp) _).far (by simp) _).set0 _).set1 _).set2 _).set3 _)) rfl ⟨num, ?_, ?_⟩
    · rw [HR.out, Lib.extract_upto]
    · have hb0 := (((Below.refl w.heap.size w).alloc (Nat.le_refl _) _).alloc (by simp) _).trans (HB1.out.mono (by simp; omega))
      exact (((((hb0.setCell (by simp) _).setCell (by simp) _).setCell (Nat.le_refl _) _).setCell (Nat.le_refl _) _).setCell (Nat.le_refl _) _).setCell (Nat.le_refl _) _
  · have hbe : (b0 == 37) = false := beq_eq_false_iff_ne.2 (fun e => hp (by
      rw [← hb0] at e
      cases hd : s.data.toList.drop n with
      | nil => rw [hd] at e; cases e
      | cons a r => rw [hd] at e; rw [u8_eq (d := 37) e]; rfl))
    rcases hbg2 : Sp.beg (s.data.toList.drop n) with _ | _
    · have HR := Lib.hid (show Num.numTokN s.data.toList n = ⟨7, s.data.toList.take n, []⟩ by unfold Num.numTokN; rw [if_neg hp, if_neg (by simp [hbg2])])
      rw [hbg2] at hbg
      have HBG := Lib.hid hbg
      clear hp hat hbg hbg2 hsd hb0
      go_enter Tryd.func55, Tryd.ntmps55
      go_wp2_with (first
        | (go_at_call 51; refine (PVarFills.clerestoryref2_at.calls s (n : Int) b0 _ HAT.out).mono ?_; rintro e w1 ⟨rfl, hb⟩; have HB1 := Lib.hid hb.below; have hA := (Tok.At.new (w.alloc _) _ _ _ _).below hb.below (by simp); rw [show ∀ o, (w.alloc o).heap.size = w.heap.size + 1 from fun o => by simp] at hA; have HA := Lib.hid hA; have HA0 := Lib.hid (((Tok.At.new w _ _ _ _).alloc _).below hb.below (by simp; omega)); clear hb hA)
        | (go_at_call 59; refine (PVarFills.clerestoryref2_begins.calls s (n : Int) false _ HBG.out).mono ?_; rintro e w2 ⟨rfl, hb⟩; have HB2 := Lib.hid hb.below; have HA2 := Lib.hid (HA.out.below hb.below HA.out.lt); have HA02 := Lib.hid (HA0.out.below hb.below HA0.out.lt); clear hb; obtain ⟨⟨g0, g1, g2, g3⟩, f0, f1, f2, f3⟩ := HA2.out.cells; obtain ⟨⟨r0, r1, r2, r3⟩, q0, q1, q2, q3⟩ := HA02.out.cells))
      refine Tok.ret rfl rfl (((((HA02.out).set0 _).set1 _).set2 _).set3 _) rfl ⟨num, ?_, ?_⟩
      · rw [HR.out, Lib.extract_upto]
      · have hb0 := ((((Below.refl w.heap.size w).alloc (Nat.le_refl _) _).alloc (by simp) _).trans (HB1.out.mono (by simp; omega))).trans (HB2.out.mono (by have := HB1.out.size; simp at this; omega))
        exact (((hb0.setCell (Nat.le_refl _) _).setCell (Nat.le_refl _) _).setCell (Nat.le_refl _) _).setCell (Nat.le_refl _) _
    · have HR := Lib.hid (show Num.numTokN s.data.toList n = ⟨7, s.data.toList.take (n + (Sp.nam (s.data.toList.drop n)).2), Sp.low (Sp.nam (s.data.toList.drop n)).1⟩ by unfold Num.numTokN; rw [if_neg hp, if_pos hbg2])
      rw [hbg2] at hbg
      have HBG := Lib.hid hbg
      have hle : (Sp.nam (s.data.toList.drop n)).2 ≤ s.size - n := by
        have := (Named.nam_le (s.data.toList.drop n)).1; rw [List.length_drop, ← Lib.size_eq] at this; exact this
      have hle1 : (Sp.nam (s.data.toList.drop n)).1.length ≤ s.size - n := by
        have := (Named.nam_le (s.data.toList.drop n)).2; rw [List.length_drop, ← Lib.size_eq] at this; exact this
      obtain ⟨p, hpp⟩ : ∃ p, Sp.nam (s.data.toList.drop n) = p := ⟨_, rfl⟩
      rw [hpp] at hle hle1 HR hsd
      obtain ⟨m, v⟩ := p
      simp only at hle hle1 HR hsd
      have C4 := Lib.hid (fun w => lower_any (mk m) w (by rw [mk_size]; omega))
      obtain ⟨u, hu⟩ : ∃ u : Nat, n + v = u := ⟨_, rfl⟩
      rw [hu] at hsd HR
      have hu1 : u ≤ s.size := by omega
      have HSD := Lib.hid hsd
      obtain ⟨mm, hmm⟩ : ∃ mm, mk m = mm := ⟨_, rfl⟩
      rw [hmm] at HSD C4
      have HM := Lib.hid hmm
      clear hp hat hbg hbg2 hsd hb0 hpp hu hle hle1 hmm
      go_enter Tryd.func55, Tryd.ntmps55
      go_upto_region 7 with (first
        | (go_at_call 51; refine (PVarFills.clerestoryref2_at.calls s (n : Int) b0 _ HAT.out).mono ?_; rintro e w1 ⟨rfl, hb⟩; have HB1 := Lib.hid hb.below; have hA := (Tok.At.new (w.alloc _) _ _ _ _).below hb.below (by simp); rw [show ∀ o, (w.alloc o).heap.size = w.heap.size + 1 from fun o => by simp] at hA; have HA := Lib.hid hA; have HA0 := Lib.hid (((Tok.At.new w _ _ _ _).alloc _).below hb.below (by simp; omega)); clear hb hA)
        | (go_at_call 59; refine (PVarFills.clerestoryref2_begins.calls s (n : Int) true _ HBG.out).mono ?_; rintro e w2 ⟨rfl, hb⟩; have HB2 := Lib.hid hb.below; have HA2 := Lib.hid (HA.out.below hb.below HA.out.lt); have HA02 := Lib.hid (HA0.out.below hb.below HA0.out.lt); clear hb)
        | (go_at_call 58; refine (PVarFills.clerestoryref2_said.calls 802 s (n : Int) mm (u : Int) _ HSD.out).mono ?_; rintro e w3 ⟨rfl, hb⟩; have HB3 := Lib.hid hb.below; have HA3 := Lib.hid (HA2.out.below hb.below HA2.out.lt); have HA03 := Lib.hid (HA02.out.below hb.below HA02.out.lt); clear hb))
      obtain ⟨⟨g0, g1, g2, g3⟩, f0, f1, f2, f3⟩ := HA3.out.cells
      obtain ⟨⟨r0, r1, r2, r3⟩, q0, q1, q2, q3⟩ := HA03.out.cells
      have HAW := Lib.hid (HA3.out.set1 (.string (s.extract 0 u)))
      have HA0W := Lib.hid (HA03.out.far (p := ⟨w.heap.size + 1, 1, none⟩) (by simp) (.string (s.extract 0 u)))
      have hlt3 : w.heap.size + 1 < w3.heap.size := HA3.out.lt
      go_upto_region 9 with (first
        | (go_at_call 28; refine (C4.out _).mono ?_; rintro e w4 ⟨rfl, hb⟩; have HB4 := Lib.hid hb; have HA4 := Lib.hid (HAW.out.below hb HAW.out.lt); have HA04 := Lib.hid (HA0W.out.below hb HA0W.out.lt); clear hb; clear g0 g1 g2 g3 f0 f1 f2 f3 r0 r1 r2 r3 q0 q1 q2 q3; obtain ⟨⟨g0, g1, g2, g3⟩, f0, f1, f2, f3⟩ := HA4.out.cells; obtain ⟨⟨r0, r1, r2, r3⟩, q0, q1, q2, q3⟩ := HA04.out.cells))
      go_wp2
      refine Tok.ret rfl rfl ((((((HA04.out.far (by simp) _)).set0 _).set1 _).set2 _).set3 _) rfl ⟨num, ?_, ?_⟩
      · rw [HR.out, Lib.extract_upto, ← HM.out]
      · have hb0 := (((((Below.refl w.heap.size w).alloc (Nat.le_refl _) _).alloc (by simp) _).trans (HB1.out.mono (by simp; omega))).trans (HB2.out.mono (by have := HB1.out.size; simp at this; omega))).trans (HB3.out.mono (by have h1 := HB1.out.size; have h2 := HB2.out.size; simp at h1; omega))
        have hb1 := (hb0.setCell (p := ⟨w.heap.size + 1, 1, none⟩) (by simp) (.string (s.extract 0 u))).trans (HB4.out.mono (by simp; omega))
        exact ((((hb1.setCell (by simp) _).setCell (Nat.le_refl _) _).setCell (Nat.le_refl _) _).setCell (Nat.le_refl _) _).setCell (Nat.le_refl _) _
end Go.Proofs.YtdjifjnophcnlaaDoor.RefF
