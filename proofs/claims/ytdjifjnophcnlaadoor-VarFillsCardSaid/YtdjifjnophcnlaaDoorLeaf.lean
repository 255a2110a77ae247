/-
  The small functions of package csstok on bytes and beginnings of texts (starts, digit, sign, escape, begins) answer what the plain functions of ..Sp say, for every input; no conditions beyond a string's greatest length.
-/
import Derived.Test.YtdjifjnophcnlaaDoorSp
import Derived.Test.YtdjifjnophcnlaaDoorProg
import Derived.Lib.Strings
import Derived.Lib.Walk
import Derived.Lib.IndexBytes
import Derived.Lib.Hide
import Derived.WalkKit
import Derived.WalkSpells
import Derived.KernelRfl
import Derived.Laws.BitsLemmas
import Derived.Below
set_option linter.unusedVariables false
set_option linter.unusedSimpArgs false
namespace Go.Proofs.YtdjifjnophcnlaaDoor.Leaf
open Go.RowKit

theorem beq45 (n : Nat) : ((n : Int) == 45) = decide (n = 45) := by rw [Bool.eq_iff_iff]; simp; omega

theorem or32 (c : UInt8) : Go.bits .or .u8 (c.toNat : Int) 32 = (((c ||| 32).toNat : Nat) : Int) := by
  have := u8_or_nat c.toNat 32 (UInt8.toNat_lt c) (by decide)
  simpa using this

theorem all_bytes {p : UInt8 → Prop} (h : ∀ n : Fin 256, p (UInt8.ofNat n.val)) (c : UInt8) : p c := by
  have := h ⟨c.toNat, UInt8.toNat_lt c⟩
  simpa using this

theorem or32_range (c : UInt8) (h1 : c.toNat < 128) (h2 : c.toNat ≠ 95) : Sp.sta c = (decide (97 ≤ (c ||| 32).toNat) && decide ((c ||| 32).toNat ≤ 122)) := by
  revert h1 h2
  exact all_bytes (p := fun c => c.toNat < 128 → c.toNat ≠ 95 → Sp.sta c = (decide (97 ≤ (c ||| 32).toNat) && decide ((c ||| 32).toNat ≤ 122))) (by decide +kernel) c

set_option maxHeartbeats 1000000 in
theorem starts_any (c : UInt8) (w : World) : Calls Tryd.prog 66 #[.int .u8 (c.toNat : Int)] w fun e w' => e = .returned (.bool (Sp.sta c)) ∧ w = w' := by
  by_cases h1 : 128 ≤ c.toNat
  · have hb : decide (128 ≤ (c.toNat : Int)) = true := decide_eq_true (by omega)
    have hs : Sp.sta c = true := by unfold Sp.sta; simp [UInt8.le_iff_toNat_le, h1]
    go_enter Tryd.func66, Tryd.ntmps66
    go_wp2
    go_ret
    exact ⟨by simp [hs], rfl⟩
  · have hb : decide (128 ≤ (c.toNat : Int)) = false := decide_eq_false (by omega)
    by_cases h2 : c.toNat = 95
    · have hb2 : ((c.toNat : Int) == 95) = true := beq_iff_eq.2 (by omega)
      have hs : Sp.sta c = true := by unfold Sp.sta; have : c = 95 := UInt8.toNat_inj.1 h2; simp [this]
      clear h2
      go_enter Tryd.func66, Tryd.ntmps66
      go_wp2
      go_ret
      exact ⟨by simp [hs], rfl⟩
    · have hb2 : ((c.toNat : Int) == 95) = false := beq_eq_false_iff_ne.2 (by omega)
      have hs := or32_range c (by omega) h2
      have ho := or32 c
      obtain ⟨m, hm⟩ : ∃ m : Nat, (c ||| 32).toNat = m := ⟨_, rfl⟩
      rw [hm] at hs ho
      have HS := Lib.hid hs
      clear hs h2 hm
      by_cases h3 : 97 ≤ m
      · have hb3 : decide (97 ≤ (m : Int)) = true := decide_eq_true (by omega)
        go_enter Tryd.func66, Tryd.ntmps66
        go_wp2
        go_ret
        exact ⟨by rw [HS.out]; simp [h3]; try omega, rfl⟩
      · have hb3 : decide (97 ≤ (m : Int)) = false := decide_eq_false (by omega)
        go_enter Tryd.func66, Tryd.ntmps66
        go_wp2
        go_ret
        exact ⟨by rw [HS.out]; simp [h3], rfl⟩


set_option maxHeartbeats 1000000 in
theorem digit_any (c : UInt8) (w : World) : Calls Tryd.prog 67 #[.int .u8 (c.toNat : Int)] w fun e w' => e = .returned (.bool (Sp.dig c)) ∧ w = w' := by
  have hs : Sp.dig c = (decide (48 ≤ c.toNat) && decide (c.toNat ≤ 57)) := by unfold Sp.dig; simp [UInt8.le_iff_toNat_le]
  have HS := Lib.hid hs
  clear hs
  by_cases h1 : 48 ≤ c.toNat
  · have hb : decide (48 ≤ (c.toNat : Int)) = true := decide_eq_true (by omega)
    go_enter Tryd.func67, Tryd.ntmps67
    go_wp2
    go_ret
    exact ⟨by rw [HS.out]; simp [h1]; try omega, rfl⟩
  · have hb : decide (48 ≤ (c.toNat : Int)) = false := decide_eq_false (by omega)
    go_enter Tryd.func67, Tryd.ntmps67
    go_wp2
    go_ret
    exact ⟨by rw [HS.out]; simp [h1], rfl⟩

theorem starts_of (c : UInt8) (w : World) {b : Bool} (h : Sp.sta c = b) : Calls Tryd.prog 66 #[.int .u8 (c.toNat : Int)] w fun e w' => e = .returned (.bool b) ∧ w = w' := h ▸ starts_any c w
theorem digit_of (c : UInt8) (w : World) {b : Bool} (h : Sp.dig c = b) : Calls Tryd.prog 67 #[.int .u8 (c.toNat : Int)] w fun e w' => e = .returned (.bool b) ∧ w = w' := h ▸ digit_any c w

set_option maxHeartbeats 1000000 in
theorem sign_any (c : UInt8) (w : World) : Calls Tryd.prog 36 #[.int .u8 (c.toNat : Int)] w fun e w' => e = .returned (.bool (Sp.sgn c)) ∧ w = w' := by
  have hs : Sp.sgn c = (Sp.sta c || Sp.dig c || decide (c.toNat = 45)) := by
    unfold Sp.sgn
    congr 1
    rw [Bool.eq_iff_iff]; simp [← UInt8.toNat_inj]
  have HS := Lib.hid hs
  clear hs
  rcases h1 : Sp.sta c with _ | _
  · rcases h2 : Sp.dig c with _ | _
    · have c1 := fun w => starts_of c w h1
      have c2 := fun w => digit_of c w h2
      have H1 := Lib.hid h1
      have H2 := Lib.hid h2
      have C1 := Lib.hid c1
      have C2 := Lib.hid c2
      clear h1 h2 c1 c2
      go_enter Tryd.func36, Tryd.ntmps36
      go_wp2_with (first
        | (go_at_call 66; refine (C1.out _).mono ?_; rintro e w' ⟨rfl, rfl⟩)
        | (go_at_call 67; refine (C2.out _).mono ?_; rintro e w' ⟨rfl, rfl⟩))
      go_ret
      exact ⟨by rw [HS.out, H1.out, H2.out]; simp [beq45], rfl⟩
    · have C1 := Lib.hid (fun w => starts_of c w h1)
      have C2 := Lib.hid (fun w => digit_of c w h2)
      have H1 := Lib.hid h1
      have H2 := Lib.hid h2
      clear h1 h2
      go_enter Tryd.func36, Tryd.ntmps36
      go_wp2_with (first
        | (go_at_call 66; refine (C1.out _).mono ?_; rintro e w' ⟨rfl, rfl⟩)
        | (go_at_call 67; refine (C2.out _).mono ?_; rintro e w' ⟨rfl, rfl⟩))
      go_ret
      exact ⟨by rw [HS.out, H1.out, H2.out]; simp, rfl⟩
  · have C1 := Lib.hid (fun w => starts_of c w h1)
    have H1 := Lib.hid h1
    clear h1
    go_enter Tryd.func36, Tryd.ntmps36
    go_wp2_with (first
      | (go_at_call 66; refine (C1.out _).mono ?_; rintro e w' ⟨rfl, rfl⟩))
    go_ret
    exact ⟨by rw [HS.out, H1.out]; simp, rfl⟩

theorem sign_of (c : UInt8) (w : World) {b : Bool} (h : Sp.sgn c = b) : Calls Tryd.prog 36 #[.int .u8 (c.toNat : Int)] w fun e w' => e = .returned (.bool b) ∧ w = w' := h ▸ sign_any c w

/-- A string of two bytes and more, its first two by name. -/
theorem two (s : ByteArray) (h : 1 < s.size) : ∃ (a b : UInt8) (r : List UInt8), s[0]'(by omega) = a ∧ s[1]'h = b ∧ s.data.toList = a :: b :: r := by
  rcases hl : s.data.toList with _ | ⟨a, _ | ⟨b, r⟩⟩
  · have := Lib.size_eq s; rw [hl] at this; simp only [List.length_nil] at this; omega
  · have := Lib.size_eq s; rw [hl] at this; simp only [List.length_cons, List.length_nil] at this; omega
  · refine ⟨a, b, r, ?_, ?_, rfl⟩
    · have := Lib.data_getElem? s 0 (by omega); rw [hl] at this; simpa using this.symm
    · have := Lib.data_getElem? s 1 h; rw [hl] at this; simpa using this.symm

set_option maxHeartbeats 1000000 in
theorem escape_any (s : ByteArray) (w : World) (hm : s.size ≤ 9223372036854775807) : Calls Tryd.prog 37 #[.string s] w fun e w' => e = .returned (.bool (Sp.esc s.data.toList)) ∧ w = w' := by
  by_cases h : 1 < s.size
  · obtain ⟨a, b, r, ha, hb, hl⟩ := two s h
    have hs : Sp.esc s.data.toList = (decide (a.toNat = 92) && !decide (b.toNat = 10)) := by
      rw [hl]; unfold Sp.esc; rw [Bool.eq_iff_iff]; simp [← UInt8.toNat_inj]
    have HS := Lib.hid hs
    clear hs hl
    have hd : decide (1 < s.size) = true := decide_eq_true h
    have h0 : 0 < s.size := by omega
    by_cases h2 : a.toNat = 92
    · have hb2 : ((a.toNat : Int) == 92) = true := beq_iff_eq.2 (by omega)
      by_cases h3 : b.toNat = 10
      · have hb3 : ((b.toNat : Int) != 10) = false := bne_eq_false_iff_eq.2 (by omega)
        have H2 := Lib.hid h2; have H3 := Lib.hid h3; clear h2 h3
        go_enter Tryd.func37, Tryd.ntmps37
        go_wp2
        go_ret
        exact ⟨by rw [HS.out, H2.out, H3.out]; simp, rfl⟩
      · have hb3 : ((b.toNat : Int) != 10) = true := bne_iff_ne.2 (by omega)
        have H2 := Lib.hid h2; clear h2
        go_enter Tryd.func37, Tryd.ntmps37
        go_wp2
        go_ret
        exact ⟨by rw [HS.out, H2.out]; simp [h3], rfl⟩
    · have hb2 : ((a.toNat : Int) == 92) = false := beq_eq_false_iff_ne.2 (by omega)
      go_enter Tryd.func37, Tryd.ntmps37
      go_wp2
      go_ret
      exact ⟨by rw [HS.out]; simp [h2], rfl⟩
  · have hs : Sp.esc s.data.toList = false := by
      have := Lib.size_eq s
      rcases hl : s.data.toList with _ | ⟨a, _ | ⟨b, r⟩⟩
      · rfl
      · rfl
      · rw [hl] at this; simp at this; omega
    have HS := Lib.hid hs
    clear hs
    have hd : decide (1 < s.size) = false := decide_eq_false h
    go_enter Tryd.func37, Tryd.ntmps37
    go_wp2
    go_ret
    exact ⟨by rw [HS.out]; rfl, rfl⟩

theorem escape_of (s : ByteArray) (w : World) (hm : s.size ≤ 9223372036854775807) {b : Bool} (h : Sp.esc s.data.toList = b) : Calls Tryd.prog 37 #[.string s] w fun e w' => e = .returned (.bool b) ∧ w = w' := h ▸ escape_any s w hm


theorem nonempty (s : ByteArray) (h : 0 < s.size) : s.toList.isEmpty = false := by
  rw [Lib.toList_data]
  have := Lib.size_eq s
  cases hl : s.data.toList with
  | nil => rw [hl] at this; simp only [List.length_nil] at this; omega
  | cons _ _ => rfl

/-- A string of one byte and more, its first by name. -/
theorem first_of (s : ByteArray) (h : 0 < s.size) : ∃ (a : UInt8) (r : List UInt8), s[0]'h = a ∧ s.data.toList = a :: r := by
  rcases hl : s.data.toList with _ | ⟨a, r⟩
  · have := Lib.size_eq s; rw [hl] at this; simp only [List.length_nil] at this; omega
  · refine ⟨a, r, ?_, rfl⟩
    have := Lib.data_getElem? s 0 h; rw [hl] at this; simpa using this.symm

set_option maxHeartbeats 2000000 in
theorem begins_any (s : ByteArray) (w : World) (hm : s.size ≤ 9223372036854775807) : Calls Tryd.prog 39 #[.string s] w fun e w' => e = .returned (.bool (Sp.beg s.data.toList)) ∧ w = w' := by
  by_cases h1 : 1 < s.size
  · obtain ⟨a, b, r, ha, hb, hl⟩ := two s h1
    have he := nonempty s (by omega)
    have hne : (!s.toList.isEmpty) = true := by rw [he]; rfl
    have hd : decide (1 < s.size) = true := decide_eq_true h1
    have h0 : 0 < s.size := by omega
    have hx : (s.extract 1 s.size).data.toList = b :: r := by rw [Lib.extract_to_end, hl]; rfl
    have hxs : (s.extract 1 s.size).size ≤ 9223372036854775807 := by rw [Lib.size_eq, hx, List.length_cons]; have := Lib.size_eq s; rw [hl] at this; simp only [List.length_cons] at this; omega
    have hs : Sp.beg s.data.toList = (if decide (a.toNat = 45) then decide (b.toNat = 45) || Sp.sta b || Sp.esc (b :: r) else Sp.sta a || Sp.esc (a :: b :: r)) := by
      rw [hl]
      have e1 : (a == 45) = decide (a.toNat = 45) := by rw [Bool.eq_iff_iff]; simp [← UInt8.toNat_inj]
      have e2 : (b == 45) = decide (b.toNat = 45) := by rw [Bool.eq_iff_iff]; simp [← UInt8.toNat_inj]
      simp only [Sp.beg, e1, e2]
    have HS := Lib.hid hs
    clear hs
    by_cases h2 : a.toNat = 45
    · have hb2 : ((a.toNat : Int) == 45) = true := beq_iff_eq.2 (by omega)
      have H2 := Lib.hid h2
      rcases h4 : Sp.sta b with _ | _
      · rcases h5 : Sp.esc (b :: r) with _ | _
        all_goals
          have C1 := Lib.hid (fun w => starts_of b w h4)
          have C2 := Lib.hid (fun w => escape_of (s.extract 1 s.size) w hxs ((congrArg Sp.esc hx).trans h5))
          have H4 := Lib.hid h4
          have H5 := Lib.hid h5
          clear h4 h5 hx hl hxs
          by_cases h3 : b.toNat = 45
          · have hb3 : ((b.toNat : Int) == 45) = true := beq_iff_eq.2 (by omega)
            have H3 := Lib.hid h3
            clear h2 h3
            go_enter Tryd.func39, Tryd.ntmps39
            go_wp2_with (first
              | (go_at_call 66; refine (C1.out _).mono ?_; rintro e w' ⟨rfl, rfl⟩)
              | (go_at_call 37; refine (C2.out _).mono ?_; rintro e w' ⟨rfl, rfl⟩))
            go_ret
            exact ⟨by rw [HS.out, H2.out, H3.out]; rfl, rfl⟩
          · have hb3 : ((b.toNat : Int) == 45) = false := beq_eq_false_iff_ne.2 (by omega)
            have H3 := Lib.hid h3
            clear h2 h3
            go_enter Tryd.func39, Tryd.ntmps39
            go_wp2_with (first
              | (go_at_call 66; refine (C1.out _).mono ?_; rintro e w' ⟨rfl, rfl⟩)
              | (go_at_call 37; refine (C2.out _).mono ?_; rintro e w' ⟨rfl, rfl⟩))
            go_ret
            exact ⟨by rw [HS.out, H2.out, H4.out, H5.out]; simp [H3.out], rfl⟩
      · have C1 := Lib.hid (fun w => starts_of b w h4)
        have H4 := Lib.hid h4
        clear h4 hx hl hxs
        by_cases h3 : b.toNat = 45
        · have hb3 : ((b.toNat : Int) == 45) = true := beq_iff_eq.2 (by omega)
          clear h2 h3
          go_enter Tryd.func39, Tryd.ntmps39
          go_wp2_with (first
            | (go_at_call 66; refine (C1.out _).mono ?_; rintro e w' ⟨rfl, rfl⟩))
          go_ret
          exact ⟨by rw [HS.out, H2.out, H4.out]; simp, rfl⟩
        · have hb3 : ((b.toNat : Int) == 45) = false := beq_eq_false_iff_ne.2 (by omega)
          clear h2 h3
          go_enter Tryd.func39, Tryd.ntmps39
          go_wp2_with (first
            | (go_at_call 66; refine (C1.out _).mono ?_; rintro e w' ⟨rfl, rfl⟩))
          go_ret
          exact ⟨by rw [HS.out, H2.out, H4.out]; simp, rfl⟩
    · have hb2 : ((a.toNat : Int) == 45) = false := beq_eq_false_iff_ne.2 (by omega)
      have H2 := Lib.hid h2
      rcases h4 : Sp.sta a with _ | _
      · rcases h5 : Sp.esc (a :: b :: r) with _ | _
        all_goals
          have C1 := Lib.hid (fun w => starts_of a w h4)
          have C2 := Lib.hid (fun w => escape_of s w hm ((congrArg Sp.esc hl).trans h5))
          have H4 := Lib.hid h4
          have H5 := Lib.hid h5
          clear h4 h5 hx hl hxs h2
          go_enter Tryd.func39, Tryd.ntmps39
          go_wp2_with (first
            | (go_at_call 66; refine (C1.out _).mono ?_; rintro e w' ⟨rfl, rfl⟩)
            | (go_at_call 37; refine (C2.out _).mono ?_; rintro e w' ⟨rfl, rfl⟩))
          go_ret
          exact ⟨by rw [HS.out, H4.out, H5.out]; simp [H2.out], rfl⟩
      · have C1 := Lib.hid (fun w => starts_of a w h4)
        have H4 := Lib.hid h4
        clear h4 hx hl hxs h2
        go_enter Tryd.func39, Tryd.ntmps39
        go_wp2_with (first
          | (go_at_call 66; refine (C1.out _).mono ?_; rintro e w' ⟨rfl, rfl⟩))
        go_ret
        exact ⟨by rw [HS.out, H4.out]; simp [H2.out], rfl⟩
  · by_cases h0 : 0 < s.size
    · obtain ⟨a, r, ha, hl⟩ := first_of s h0
      have hr : r = [] := by
        have := Lib.size_eq s; rw [hl] at this; simp only [List.length_cons] at this
        exact List.eq_nil_of_length_eq_zero (by omega)
      subst hr
      have he := nonempty s (by omega)
      have hne : (!s.toList.isEmpty) = true := by rw [he]; rfl
      have hd : decide (1 < s.size) = false := decide_eq_false h1
      have HS := Lib.hid (show Sp.beg s.data.toList = Sp.sta a by rw [hl]; rfl)
      have C2 := Lib.hid (fun w => escape_of s w hm (b := false) (by rw [hl]; rfl))
      rcases h4 : Sp.sta a with _ | _
      all_goals
        have C1 := Lib.hid (fun w => starts_of a w h4)
        have H4 := Lib.hid h4
        clear h4 hl
        by_cases h2 : a.toNat = 45
        · have hb2 : ((a.toNat : Int) == 45) = true := beq_iff_eq.2 (by omega)
          clear h2
          go_enter Tryd.func39, Tryd.ntmps39
          go_wp2_with (first
            | (go_at_call 66; refine (C1.out _).mono ?_; rintro e w' ⟨rfl, rfl⟩)
            | (go_at_call 37; refine (C2.out _).mono ?_; rintro e w' ⟨rfl, rfl⟩))
          go_ret
          exact ⟨by rw [HS.out, H4.out]; rfl, rfl⟩
        · have hb2 : ((a.toNat : Int) == 45) = false := beq_eq_false_iff_ne.2 (by omega)
          clear h2
          go_enter Tryd.func39, Tryd.ntmps39
          go_wp2_with (first
            | (go_at_call 66; refine (C1.out _).mono ?_; rintro e w' ⟨rfl, rfl⟩)
            | (go_at_call 37; refine (C2.out _).mono ?_; rintro e w' ⟨rfl, rfl⟩))
          go_ret
          exact ⟨by rw [HS.out, H4.out]; rfl, rfl⟩
    · have hl : s.data.toList = [] := List.eq_nil_of_length_eq_zero (by rw [← Lib.size_eq]; omega)
      have he : s.toList.isEmpty = true := by rw [Lib.toList_data, hl]; rfl
      have hne : (!s.toList.isEmpty) = false := by rw [he]; rfl
      have HS := Lib.hid (show Sp.beg s.data.toList = false by rw [hl]; rfl)
      clear hl
      go_enter Tryd.func39, Tryd.ntmps39
      go_wp2
      go_ret
      exact ⟨by rw [HS.out]; rfl, rfl⟩

theorem begins_of (s : ByteArray) (w : World) (hm : s.size ≤ 9223372036854775807) {b : Bool} (h : Sp.beg s.data.toList = b) : Calls Tryd.prog 39 #[.string s] w fun e w' => e = .returned (.bool b) ∧ w = w' := h ▸ begins_any s w hm

end Go.Proofs.YtdjifjnophcnlaaDoor.Leaf
