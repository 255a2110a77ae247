/-
  Pure laws of tokens: each one's text is not empty and is a piece of the text; together they are as long as the text; a head is no longer; how filling goes on token by token. No conditions beside those named.
-/
import Derived.Test.YtdjifjnophcnlaaDoorTk
import Derived.Test.YtdjifjnophcnlaaDoorNamed
import Derived.Test.YtdjifjnophcnlaaDoorBlock
set_option linter.unusedVariables false
set_option linter.unusedSimpArgs false
namespace Go.Proofs.YtdjifjnophcnlaaDoor.Toks
open Go.RowKit

/-- What holds of every token of a text of n bytes. -/
def Good (n : Nat) (t : Sp.T) : Prop := 1 ≤ t.raw.length ∧ t.raw.length ≤ n ∧ t.val.length ≤ n ∧ (t.raw = [44] → t.k = 12)

theorem txt_le (q : UInt8) : ∀ (n : Nat) (l : Sp.By), l.length ≤ n → (Sp.txt q l).2.1.length ≤ l.length
  | 0, [], _ => by simp [Sp.txt]
  | 0, _ :: _, h => by simp at h
  | n + 1, [], _ => by simp [Sp.txt]
  | n + 1, [a], _ => by
    unfold Sp.txt
    split
    · simp
    · split <;> simp
  | n + 1, a :: b :: r, h => by
    have h1 := txt_le q n r (by simp at h; omega)
    have h2 := txt_le q n (b :: r) (by simpa using h)
    rw [Sp.txt]
    split
    · simp
    · split
      · simp
      · split
        · simp; omega
        · simp at h2 ⊢; omega

theorem low_len (l : Sp.By) : (Sp.low l).length = l.length := by simp [Sp.low]

theorem tk_val (c : UInt8) (r : Sp.By) : (Sp.tk (c :: r)).val.length ≤ (c :: r).length := by
  have hn := (Named.nam_le r).2
  have hn2 := (Named.nam_le (c :: r)).2
  rw [Sp.tk]
  split
  · simp
  · split
    · simp
    · split
      · unfold Sp.textTok
        have := txt_le c r.length r (Nat.le_refl _)
        split
        · simp; omega
        · simp
      · split
        · simp; omega
        · split
          · simp; omega
          · split
            · unfold Sp.numTok
              split
              · simp
              · split
                · have := (Named.nam_le ((c :: r).drop (Sp.numLen (c :: r)))).2
                  rw [List.length_drop] at this
                  show (Sp.low _).length ≤ _
                  rw [low_len]; omega
                · simp
            · split
              · unfold Sp.nameTok
                split <;> exact hn2
              · simp

theorem tk_comma (c : UInt8) (r : Sp.By) (h : (Sp.tk (c :: r)).raw = [44]) : (Sp.tk (c :: r)).k = 12 := by
  obtain ⟨k, hk, e⟩ := Tk.tk_take c r
  obtain ⟨k, rfl⟩ : ∃ j, k = j + 1 := ⟨k - 1, by omega⟩
  rw [h, List.take_succ_cons] at e
  obtain rfl : c = 44 := (List.cons.inj e).1.symm
  have hn : Sp.numLen (44 :: r) = 0 := by
    have h1 : Sp.from_ (44 :: r) = 0 := rfl
    have h2 : Sp.whole (44 :: r) = 0 := by
      unfold Sp.whole; rw [h1]; simp [Sp.digs, Sp.dig]
    have h3 : Sp.behind (44 :: r) = 0 := by
      unfold Sp.behind; rw [h1, h2]; simp [Sp.dots]
    unfold Sp.numLen
    rw [h2, h3]; rfl
  have hb : Sp.beg (44 :: r) = false := by
    cases r with
    | nil => decide
    | cons b r => simp [Sp.beg, Sp.sta, Sp.esc]
  rw [Sp.tk]
  rw [if_neg (by decide), if_neg (by simp), if_neg (by decide), if_neg (by simp), if_neg (by simp), if_neg (by rw [hn]; omega), if_neg (by simp [hb])]
  rfl

/-- All bytes of tokens. -/
def sum : List Sp.T → Nat
  | [] => 0
  | t :: r => t.raw.length + sum r

theorem toksF_good : ∀ (f : Nat) (n : Nat) (l : Sp.By), l.length ≤ n → (∀ t ∈ Sp.toksF f l, Good n t) ∧ sum (Sp.toksF f l) ≤ l.length ∧ (Sp.toksF f l).length ≤ l.length
  | 0, n, l, h => ⟨fun t ht => by simp [Sp.toksF] at ht, by simp [Sp.toksF, sum], by simp [Sp.toksF]⟩
  | f + 1, n, [], h => ⟨fun t ht => by simp [Sp.toksF] at ht, by simp [Sp.toksF, sum], by simp [Sp.toksF]⟩
  | f + 1, n, c :: r, h => by
    have hr := Tk.tk_raw c r
    have hd : ((c :: r).drop (Sp.tk (c :: r)).raw.length).length = (c :: r).length - (Sp.tk (c :: r)).raw.length := List.length_drop
    obtain ⟨h1, h2, h3⟩ := toksF_good f n ((c :: r).drop (Sp.tk (c :: r)).raw.length) (by rw [hd]; omega)
    rw [hd] at h2 h3
    refine ⟨?_, ?_, ?_⟩
    · intro t ht
      simp only [Sp.toksF, List.mem_cons] at ht
      rcases ht with rfl | ht
      · exact ⟨hr.1, Nat.le_trans hr.2 h, Nat.le_trans (tk_val c r) h, tk_comma c r⟩
      · exact h1 t ht
    · simp only [Sp.toksF, sum]; omega
    · simp only [Sp.toksF, List.length_cons] at h3 hr ⊢; omega

theorem toks_good (l : Sp.By) : (∀ t ∈ Sp.toks l, Good l.length t) ∧ sum (Sp.toks l) ≤ l.length ∧ (Sp.toks l).length ≤ l.length := toksF_good l.length l.length l (Nat.le_refl _)

theorem sum_drop : ∀ (l : List Sp.T) (m : Nat), sum (l.drop m) ≤ sum l
  | [], m => by simp
  | t :: r, 0 => by simp
  | t :: r, m + 1 => by have := sum_drop r m; rw [List.drop_succ_cons]; simp only [sum]; omega
theorem sum_take : ∀ (l : List Sp.T) (m : Nat), sum (l.take m) ≤ sum l
  | [], m => by simp
  | t :: r, 0 => by simp [sum]
  | t :: r, m + 1 => by have := sum_take r m; rw [List.take_succ_cons]; simp only [sum]; omega

theorem headG_le : ∀ (l : List Sp.T) (acc : Sp.By) (gap : Bool), (∀ t ∈ l, 1 ≤ t.raw.length) → (Sp.headG l acc gap).length ≤ acc.length + (if gap then 1 else 0) + sum l
  | [], acc, gap, _ => by simp [Sp.headG, sum]
  | t :: r, acc, gap, h => by
    have ht := h t List.mem_cons_self
    have hr := fun a g => headG_le r a g (fun t m => h t (List.mem_cons_of_mem _ m))
    rw [Sp.headG]
    simp only [sum]
    split
    · have := hr acc (!acc.isEmpty)
      split at this <;> split <;> omega
    · have := hr ((if gap then acc ++ [32] else acc) ++ t.raw) false
      cases gap <;> simp at this ⊢ <;> omega
theorem head_le (l : List Sp.T) (h : ∀ t ∈ l, 1 ≤ t.raw.length) : (Sp.head l).length ≤ sum l := by
  have := headG_le l [] false h
  simpa [Sp.head] using this

theorem blk_le : ∀ (l : List Sp.T) (st : List UInt8) (k : Nat), Sp.blk st l = some k → k ≤ l.length ∧ (st ≠ [] → 1 ≤ k)
  | l, [], k, h => by
    have : k = 0 := by cases l <;> simp [Sp.blk] at h <;> exact h.symm
    subst this; exact ⟨Nat.zero_le _, fun h => absurd rfl h⟩
  | [], c :: st, k, h => by simp [Sp.blk] at h
  | t :: l, c :: st, k, h => by
    rw [Sp.blk] at h
    split at h
    · obtain ⟨j, hj, rfl⟩ := Option.map_eq_some_iff.1 h
      have := (blk_le l _ j hj).1
      exact ⟨by simp; omega, fun _ => by omega⟩
    · split at h
      · obtain ⟨j, hj, rfl⟩ := Option.map_eq_some_iff.1 h
        have := (blk_le l _ j hj).1
        exact ⟨by simp; omega, fun _ => by omega⟩
      · obtain ⟨j, hj, rfl⟩ := Option.map_eq_some_iff.1 h
        have := (blk_le l _ j hj).1
        exact ⟨by simp; omega, fun _ => by omega⟩

/-- What is filled is short. -/
theorem goS_le (f : Sp.By → Option Sp.By) (env : List (Sp.By × Sp.By)) : ∀ (n : Nat) (l : List Sp.T) (acc v : Sp.By), Sp.goS f env n l acc = some v → v.length ≤ 400
  | 0, l, acc, v, h => by simp [Sp.goS] at h
  | n + 1, [], acc, v, h => by
    rw [Sp.goS] at h
    split at h
    · simp at h
    · obtain rfl := Option.some.inj h; omega
  | n + 1, t :: r, acc, v, h => by
    rw [Sp.goS] at h
    split at h
    · split at h
      · simp at h
      · split at h
        · simp at h
        · split at h
          · simp at h
          · exact goS_le f env n _ _ v h
    · exact goS_le f env n _ _ v h
theorem fillS_le (env : List (Sp.By × Sp.By)) (d : Nat) (s v : Sp.By) (h : Sp.fillS env d s = some v) : v.length ≤ 400 := by
  cases d with
  | zero => simp [Sp.fillS] at h
  | succ d =>
    rw [Sp.fillS] at h
    split at h
    · simp at h
    · exact goS_le _ _ _ _ _ _ h
theorem putS_le (f : Sp.By → Option Sp.By) (env : List (Sp.By × Sp.By)) (M : Nat) (hM : 400 ≤ M) (hf : ∀ s v, f s = some v → v.length ≤ 400) (he : ∀ p ∈ env, p.2.length ≤ M) (l : List Sp.T) (v : Sp.By) (h : Sp.putS f env l = some v) : v.length ≤ M := by
  unfold Sp.putS at h
  split at h
  · simp at h
  · split at h
    · rename_i hl
      obtain rfl := Option.some.inj h
      obtain ⟨p, hp, rfl⟩ := Option.map_eq_some_iff.1 hl
      exact he p (List.mem_reverse.1 (List.mem_of_find?_eq_some hp))
    · split at h
      · simp at h
      · exact Nat.le_trans (hf _ _ h) hM

/-- What is left to fill at place i, with what is there already. -/
def Inv (f : Sp.By → Option Sp.By) (env : List (Sp.By × Sp.By)) (L : List Sp.T) (tgt : Option Sp.By) (i : Nat) (acc : Sp.By) : Prop :=
  (∃ fl, L.length - i < fl ∧ Sp.goS f env fl (L.drop i) acc = tgt) ∧ acc.length + sum (L.drop i) ≤ 400 + sum L
section
variable {f : Sp.By → Option Sp.By} {env : List (Sp.By × Sp.By)} {L : List Sp.T} {tgt : Option Sp.By} {i : Nat} {acc : Sp.By} {t : Sp.T} {r : List Sp.T}
theorem Inv.start (h : Sp.goS f env (L.length + 1) L [] = tgt) : Inv f env L tgt 0 [] := ⟨⟨_, by omega, h⟩, by simp⟩
theorem Inv.stop (h : Inv f env L tgt L.length acc) : tgt = if 400 < acc.length then none else some acc := by
  obtain ⟨⟨fl, hfl, e⟩, _⟩ := h
  obtain ⟨fl, rfl⟩ : ∃ j, fl = j + 1 := ⟨fl - 1, by omega⟩
  rw [List.drop_length, Sp.goS] at e
  exact e.symm
theorem Inv.plain (h : Inv f env L tgt i acc) (hd : L.drop i = t :: r) (hr : L.drop (i + 1) = r) (hv : Sp.isVar t = false) (hz : t.raw.length ≤ 400) : Inv f env L tgt (i + 1) (acc ++ t.raw) := by
  obtain ⟨⟨fl, hfl, e⟩, hl⟩ := h
  obtain ⟨fl, rfl⟩ : ∃ j, fl = j + 1 := ⟨fl - 1, by omega⟩
  rw [hd, Sp.goS, hv] at e
  have hlen : i < L.length := by
    rcases Nat.lt_or_ge i L.length with h | h
    · exact h
    · rw [List.drop_eq_nil_of_le h] at hd; cases hd
  exact ⟨⟨fl, by omega, by rw [hr]; exact e⟩, by rw [hd] at hl; rw [hr, List.length_append]; simp only [sum] at hl; omega⟩
theorem Inv.ahead (h : Inv f env L tgt i acc) (hd : L.drop i = t :: r) (hv : Sp.isVar t = true) : ∃ fl, L.length - i < fl + 1 ∧
    tgt = (match Sp.blk [Sp.closer t] r with
      | none => none
      | some k => match Sp.putS f env (r.take (k - 1)) with
        | none => none
        | some v => if 400 < (acc ++ v).length then none else Sp.goS f env fl (r.drop k) (acc ++ v)) := by
  obtain ⟨⟨fl, hfl, e⟩, _⟩ := h
  obtain ⟨fl, rfl⟩ : ∃ j, fl = j + 1 := ⟨fl - 1, by omega⟩
  rw [hd, Sp.goS, hv] at e
  exact ⟨fl, hfl, e.symm⟩
theorem Inv.open_ (h : Inv f env L tgt i acc) (hd : L.drop i = t :: r) (hv : Sp.isVar t = true) (hb : Sp.blk [Sp.closer t] r = none) : tgt = none := by
  obtain ⟨fl, _, e⟩ := h.ahead hd hv
  rw [hb] at e; exact e
theorem Inv.unput (h : Inv f env L tgt i acc) (hd : L.drop i = t :: r) (hv : Sp.isVar t = true) {k : Nat} (hb : Sp.blk [Sp.closer t] r = some k) (hp : Sp.putS f env (r.take (k - 1)) = none) : tgt = none := by
  obtain ⟨fl, _, e⟩ := h.ahead hd hv
  rw [hb] at e; simp only [hp] at e; exact e
theorem Inv.long (h : Inv f env L tgt i acc) (hd : L.drop i = t :: r) (hv : Sp.isVar t = true) {k : Nat} (hb : Sp.blk [Sp.closer t] r = some k) {v : Sp.By} (hp : Sp.putS f env (r.take (k - 1)) = some v) (hl : 400 < (acc ++ v).length) : tgt = none := by
  obtain ⟨fl, _, e⟩ := h.ahead hd hv
  rw [hb] at e; simp only [hp] at e; rw [if_pos hl] at e; exact e
theorem Inv.var (h : Inv f env L tgt i acc) (hd : L.drop i = t :: r) (hr : L.drop (i + 1) = r) (hv : Sp.isVar t = true) {k : Nat} (hb : Sp.blk [Sp.closer t] r = some k) {v : Sp.By} (hp : Sp.putS f env (r.take (k - 1)) = some v) (hl : ¬ 400 < (acc ++ v).length) :
    Inv f env L tgt (i + 1 + k) (acc ++ v) := by
  obtain ⟨fl, hfl, e⟩ := h.ahead hd hv
  rw [hb] at e; simp only [hp] at e; rw [if_neg hl] at e
  have hlen : i < L.length := by
    rcases Nat.lt_or_ge i L.length with h | h
    · exact h
    · rw [List.drop_eq_nil_of_le h] at hd; cases hd
  refine ⟨⟨fl, by omega, ?_⟩, by have := sum_drop L (i + 1 + k); omega⟩
  rw [e, ← hr, List.drop_drop]
end

end Go.Proofs.YtdjifjnophcnlaaDoor.Toks
