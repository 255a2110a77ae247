/-
  Plain facts on the first token of a text (Sp.tk): the ways in which it is found, in the words that the walks use. No program; no conditions but those of each lemma.
-/
import Derived.Test.YtdjifjnophcnlaaDoorSp
import Derived.Lib.Strings
import Derived.Lib.Index
namespace Go.Proofs.YtdjifjnophcnlaaDoor.Tk

theorem flip (a b : UInt8) : (b == a) = (a == b) := by rw [Bool.eq_iff_iff]; simp; exact ⟨Eq.symm, Eq.symm⟩

theorem note_index : ∀ (l : Sp.By), Sp.note l = if 0 ≤ Lib.index l [42, 47] then (Lib.index l [42, 47]).toNat + 2 else l.length
  | [] => by simp [Sp.note, Lib.index]
  | [a] => by
    have : Lib.index [a] [42, 47] = -1 := by simp [Lib.index]
    rw [this]; simp [Sp.note]
  | a :: b :: r => by
    have ih := note_index (b :: r)
    have hge := Lib.index_ge (b :: r) [42, 47]
    rw [Lib.index]
    have hp : List.isPrefixOf [42, 47] (a :: b :: r) = (a == 42 && b == 47) := by
      simp only [List.isPrefixOf, Bool.and_true]
      rw [flip a 42, flip b 47]
    rw [hp, Sp.note]
    by_cases h : (a == 42 && b == 47) = true
    · rw [if_pos h, if_pos h]; simp
    · rw [if_neg h, if_neg h, ih]
      by_cases h2 : Lib.index (b :: r) [42, 47] = -1
      · rw [h2]; simp
      · have h3 : (Lib.index (b :: r) [42, 47] == -1) = false := by simpa using h2
        rw [h3]
        simp only [Bool.false_eq_true, if_false]
        rw [if_pos (by omega), if_pos (by omega)]
        omega

theorem remark (c : UInt8) (r : Sp.By) : Lib.hasPrefix (c :: r) [47, 42] = (c == 47 && r.head? == some 42) := by
  unfold Lib.hasPrefix
  cases r with
  | nil => simp [List.isPrefixOf]
  | cons b r =>
    simp only [List.isPrefixOf, Bool.and_true, List.head?_cons]
    rw [flip c 47, flip b 42]; rfl

theorem numLen_le (l : Sp.By) : Sp.numLen l ≤ l.length := by
  have hd : ∀ m : Sp.By, Sp.digs m ≤ m.length := fun m => List.Sublist.length_le (List.takeWhile_sublist _)
  have hf : Sp.from_ l ≤ l.length := by cases l with
    | nil => simp [Sp.from_]
    | cons a r => simp only [Sp.from_, List.length_cons]; split <;> omega
  have hw := hd (l.drop (Sp.from_ l))
  rw [List.length_drop] at hw
  have hb : Sp.dots (l.drop (Sp.from_ l + Sp.whole l)) ≤ l.length - (Sp.from_ l + Sp.whole l) - 1 := by
    rw [← List.length_drop]
    generalize l.drop (Sp.from_ l + Sp.whole l) = m
    cases m with
    | nil => simp [Sp.dots]
    | cons a r => simp only [Sp.dots, List.length_cons]; split <;> (have := hd r; omega)
  unfold Sp.numLen
  have e : Sp.behind l = Sp.dots (l.drop (Sp.from_ l + Sp.whole l)) := rfl
  have e2 : Sp.whole l = Sp.digs (l.drop (Sp.from_ l)) := rfl
  split
  · omega
  · split <;> omega

/-- Blanks at the beginning: as many as TrimLeft takes away. -/
theorem set_blank (c : UInt8) : ([32, 9, 10, 12, 13] : List UInt8).contains c = Sp.blank c := by
  simp only [List.contains_cons, List.contains_nil, Sp.blank, Bool.or_false, Bool.or_assoc]

def blanks (l : Sp.By) : Nat := (l.takeWhile Sp.blank).length
theorem blanks_le (l : Sp.By) : blanks l ≤ l.length := List.Sublist.length_le (List.takeWhile_sublist _)
theorem blanks_take : ∀ (l : Sp.By), l.take (blanks l) = l.takeWhile Sp.blank
  | [] => rfl
  | c :: r => by
    unfold blanks
    rw [List.takeWhile_cons]
    by_cases h : Sp.blank c = true
    · rw [if_pos h]; simp only [List.length_cons, List.take_succ_cons]; rw [show r.take (r.takeWhile Sp.blank).length = _ from blanks_take r]
    · rw [if_neg h]; rfl
theorem blanks_pos (c : UInt8) (r : Sp.By) : 0 < blanks (c :: r) ↔ Sp.blank c = true := by
  unfold blanks
  rw [List.takeWhile_cons]
  by_cases h : Sp.blank c = true <;> simp [h]

section
variable {c : UInt8} {r : Sp.By}
theorem tk_blank (h : Sp.blank c = true) : Sp.tk (c :: r) = ⟨8, (c :: r).take (blanks (c :: r)), []⟩ := by
  rw [Sp.tk, if_pos h, blanks_take]
theorem tk_note (h : Sp.blank c = false) (h1 : Lib.hasPrefix (c :: r) [47, 42] = true) : Sp.tk (c :: r) = ⟨9, (c :: r).take (2 + Sp.note ((c :: r).drop 2)), []⟩ := by
  rw [remark] at h1
  rw [Sp.tk, if_neg (by simp [h]), if_pos h1]; rfl
theorem tk_text (h : Sp.blank c = false) (h1 : Lib.hasPrefix (c :: r) [47, 42] = false) (h2 : c = 39 ∨ c = 34) : Sp.tk (c :: r) = Sp.textTok c r := by
  rw [remark] at h1
  rw [Sp.tk, if_neg (by simp [h]), if_neg (by simp [h1]), if_pos (by simpa using h2)]
theorem tk_hash (h : Sp.blank c = false) (h1 : Lib.hasPrefix (c :: r) [47, 42] = false) (h2 : ¬ (c = 39 ∨ c = 34)) (h3 : c = 35) (h4 : Sp.hashed r = true) : Sp.tk (c :: r) = ⟨4, (c :: r).take (1 + (Sp.nam r).2), (Sp.nam r).1⟩ := by
  rw [remark] at h1
  rw [Sp.tk, if_neg (by simp [h]), if_neg (by simp [h1]), if_neg (by simpa using h2), if_pos (by simp [h3, h4])]
theorem tk_at (h : Sp.blank c = false) (h1 : Lib.hasPrefix (c :: r) [47, 42] = false) (h2 : ¬ (c = 39 ∨ c = 34)) (h3 : c = 64) (h4 : Sp.beg r = true) : Sp.tk (c :: r) = ⟨3, (c :: r).take (1 + (Sp.nam r).2), (Sp.nam r).1⟩ := by
  rw [remark] at h1
  rw [Sp.tk, if_neg (by simp [h]), if_neg (by simp [h1]), if_neg (by simpa using h2), if_neg (by simp [h3]), if_pos (by simp [h3, h4])]
theorem tk_num (h : Sp.blank c = false) (h1 : Lib.hasPrefix (c :: r) [47, 42] = false) (h2 : ¬ (c = 39 ∨ c = 34)) (h3 : ¬ (c = 35 ∧ Sp.hashed r = true)) (h4 : ¬ (c = 64 ∧ Sp.beg r = true)) (h5 : 0 < Sp.numLen (c :: r)) : Sp.tk (c :: r) = Sp.numTok (c :: r) := by
  rw [remark] at h1
  rw [Sp.tk, if_neg (by simp [h]), if_neg (by simp [h1]), if_neg (by simpa using h2), if_neg (by simpa using h3), if_neg (by simpa using h4), if_pos h5]
theorem tk_name (h : Sp.blank c = false) (h1 : Lib.hasPrefix (c :: r) [47, 42] = false) (h2 : ¬ (c = 39 ∨ c = 34)) (h3 : ¬ (c = 35 ∧ Sp.hashed r = true)) (h4 : ¬ (c = 64 ∧ Sp.beg r = true)) (h5 : ¬ 0 < Sp.numLen (c :: r)) (h6 : Sp.beg (c :: r) = true) : Sp.tk (c :: r) = Sp.nameTok (c :: r) := by
  rw [remark] at h1
  rw [Sp.tk, if_neg (by simp [h]), if_neg (by simp [h1]), if_neg (by simpa using h2), if_neg (by simpa using h3), if_neg (by simpa using h4), if_neg h5, if_pos h6]
theorem tk_one (h : Sp.blank c = false) (h1 : Lib.hasPrefix (c :: r) [47, 42] = false) (h2 : ¬ (c = 39 ∨ c = 34)) (h3 : ¬ (c = 35 ∧ Sp.hashed r = true)) (h4 : ¬ (c = 64 ∧ Sp.beg r = true)) (h5 : ¬ 0 < Sp.numLen (c :: r)) (h6 : Sp.beg (c :: r) = false) : Sp.tk (c :: r) = ⟨Sp.one c, (c :: r).take 1, []⟩ := by
  rw [remark] at h1
  rw [Sp.tk, if_neg (by simp [h]), if_neg (by simp [h1]), if_neg (by simpa using h2), if_neg (by simpa using h3), if_neg (by simpa using h4), if_neg h5, if_neg (by simp [h6])]; rfl
end

theorem beg_nam {l : Sp.By} (h : Sp.beg l = true) : 1 ≤ (Sp.nam l).2 := by
  have hs : ∀ a, Sp.sta a = true → Sp.sgn a = true := fun a h => by simp [Sp.sgn, h]
  rcases l with _ | ⟨a, _ | ⟨b, r⟩⟩
  · simp [Sp.beg] at h
  · have h1 : Sp.sta a = true := h
    simp [Sp.nam, hs a h1]
  · rw [Sp.nam]
    by_cases h1 : (a == 92 && b != 10) = true
    · rw [if_pos h1]; simp
    · rw [if_neg h1]
      have h2 : Sp.sgn a = true := by
        simp only [Sp.beg] at h
        by_cases h3 : (a == 45) = true
        · simp [Sp.sgn, h3]
        · rw [if_neg h3] at h
          have h4 : Sp.esc (a :: b :: r) = false := by simpa [Sp.esc] using h1
          rw [h4, Bool.or_false] at h
          exact hs a h
      rw [if_pos h2]; simp

/-- The raw text of the first token is the text's own beginning. -/
theorem tk_take (c : UInt8) (r : Sp.By) : ∃ k, 1 ≤ k ∧ (Sp.tk (c :: r)).raw = (c :: r).take k := by
  rcases h : Sp.blank c with _ | _
  · rcases h1 : Lib.hasPrefix (c :: r) [47, 42] with _ | _
    · by_cases h2 : c = 39 ∨ c = 34
      · rw [tk_text h h1 h2]; unfold Sp.textTok
        split <;> exact ⟨_, by omega, rfl⟩
      · by_cases h3 : c = 35 ∧ Sp.hashed r = true
        · rw [tk_hash h h1 h2 h3.1 h3.2]; exact ⟨_, by omega, rfl⟩
        · by_cases h4 : c = 64 ∧ Sp.beg r = true
          · rw [tk_at h h1 h2 h4.1 h4.2]; exact ⟨_, by omega, rfl⟩
          · by_cases h5 : 0 < Sp.numLen (c :: r)
            · rw [tk_num h h1 h2 h3 h4 h5]; unfold Sp.numTok
              split
              · exact ⟨_, by omega, rfl⟩
              · split <;> exact ⟨_, by omega, rfl⟩
            · rcases h6 : Sp.beg (c :: r) with _ | _
              · rw [tk_one h h1 h2 h3 h4 h5 h6]; exact ⟨1, by omega, rfl⟩
              · rw [tk_name h h1 h2 h3 h4 h5 h6]; unfold Sp.nameTok
                have := beg_nam h6
                split <;> exact ⟨_, by omega, rfl⟩
    · rw [tk_note h h1]; exact ⟨_, by omega, rfl⟩
  · rw [tk_blank h]; exact ⟨_, (blanks_pos c r).2 h, rfl⟩

theorem tk_raw (c : UInt8) (r : Sp.By) : 1 ≤ (Sp.tk (c :: r)).raw.length ∧ (Sp.tk (c :: r)).raw.length ≤ (c :: r).length := by
  obtain ⟨k, hk, e⟩ := tk_take c r
  rw [e, List.length_take]
  simp only [List.length_cons]
  omega

end Go.Proofs.YtdjifjnophcnlaaDoor.Tk
