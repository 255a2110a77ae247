/-
  Pure laws of the printed functions of package vars: closer, closed, silent answer what ..Sp says. No program and no memory is walked here.
-/
import Derived.Test.YtdjifjnophcnlaaDoorView
import Derived.Test.YtdjifjnophcnlaaDoorPVarFillsx3
set_option linter.unusedVariables false
set_option linter.unusedSimpArgs false
namespace Go.Proofs.YtdjifjnophcnlaaDoor.Block
open Go.RowKit Go.Proofs.YtdjifjnophcnlaaDoorW.PrintWords Go.Proofs.YtdjifjnophcnlaaDoorW.PrintLast Go.Proofs.YtdjifjnophcnlaaDoorW.PrintMore
open PVarFills

theorem drop_cons (xs : List S37) (k : Nat) (hk : k < xs.length) : xs.drop k = rd_T37 xs k :: xs.drop (k + 1) := by
  rw [List.drop_eq_getElem_cons hk, rd_T37, Int.toNat_natCast, List.getD_eq_getElem?_getD, List.getElem?_eq_getElem hk]; rfl
theorem rd_mem (xs : List S37) (k : Nat) (hk : k < xs.length) : rd_T37 xs k ∈ xs := by
  rw [rd_T37, Int.toNat_natCast, List.getD_eq_getElem?_getD, List.getElem?_eq_getElem hk]; exact List.getElem_mem hk

/-- One byte as a string. -/
def str (c : UInt8) : ByteArray := ⟨#[c]⟩
/-- The stack as the program has it: the top is last. -/
def want (st : List UInt8) : List ByteArray := (st.map str).reverse
theorem want_length (st : List UInt8) : (want st).length = st.length := by simp [want]
theorem want_cons (c : UInt8) (st : List UInt8) : want (c :: st) = want st ++ [str c] := by simp [want]

theorem bt_nat (s : ByteArray) (i : Nat) (c : UInt8) (h : s.data.toList[i]? = some c) : bt s (i : Int) = (c.toNat : Int) := by
  obtain ⟨hl, he⟩ := List.getElem?_eq_some_iff.1 h
  have hlt : (i : Int).toNat < s.size := by rw [Int.toNat_natCast]; rw [Array.length_toList] at hl; exact hl
  unfold bt
  rw [dif_pos hlt]
  congr 1
  rw [← he]
  simp only [Int.toNat_natCast]
  rfl

theorem bt_last (s : ByteArray) (h : s.size ≠ 0) : ∃ c : UInt8, s.data.toList.getLast? = some c ∧ bt s ((s.size : Int) - 1) = (c.toNat : Int) := by
  have hl : s.data.toList.length = s.size := by rw [Array.length_toList]; rfl
  have hlt : s.size - 1 < s.data.toList.length := by omega
  refine ⟨s.data.toList[s.size - 1]'hlt, ?_, ?_⟩
  · rw [List.getLast?_eq_getElem?, hl, List.getElem?_eq_getElem hlt]
  · rw [show (s.size : Int) - 1 = ((s.size - 1 : Nat) : Int) by omega]
    exact bt_nat s _ _ (List.getElem?_eq_getElem hlt)

theorem u8_ne {c d : UInt8} (h : c ≠ d) : ¬ ((c.toNat : Int) = (d.toNat : Int)) := fun e => h (UInt8.toNat_inj.1 (by omega))

theorem closer_eq (x : S37) (h : x.f1.size ≠ 0) (hz : x.f1.size ≤ 400) : vars_closer.f x.f0 x.f1 x.f2 x.f3 = some (str (Sp.closer (view x))) := by
  obtain ⟨c, h1, h2⟩ := bt_last x.f1 h
  have hw : wrap64 ((x.f1.size : Int) - 1) = (x.f1.size : Int) - 1 := IntWalk.wrap64_in _ (by omega)
  have hc : Sp.closer (view x) = if c = 91 then 93 else if c = 123 then 125 else 41 := by
    unfold Sp.closer
    rw [show (view x).raw.getLast? = some c from h1]
    split
    · rename_i e; rw [if_pos (Option.some.inj e)]
    · rename_i e; have e' := Option.some.inj e; subst e'; rfl
    · rename_i n1 n2; rw [if_neg (fun e => n1 (by rw [e])), if_neg (fun e => n2 (by rw [e]))]
  unfold vars_closer.f
  simp only [hw, h2]
  rw [if_pos (by omega), if_pos (by omega), hc]
  by_cases h91 : c = 91
  · subst h91; rfl
  · rw [if_neg (show ¬ ((c.toNat : Int) = 91) from u8_ne h91), if_neg h91]
    by_cases h123 : c = 123
    · subst h123; rfl
    · rw [if_neg (show ¬ ((c.toNat : Int) = 123) from u8_ne h123), if_neg h123]; rfl

theorem str_toList (c : UInt8) : (str c).toList = [c] := by rw [ByteArray.toList_eq]; rfl

theorem rd_want (c : UInt8) (st : List UInt8) : rdOf ByteArray.empty (want (c :: st)) (((want (c :: st)).length : Int) - 1) = str c := by
  rw [rdOf, want_length, want_cons, show (((c :: st).length : Int) - 1).toNat = st.length by simp, List.getD_eq_getElem?_getD, List.getElem?_append_right (by rw [want_length]; exact Nat.le_refl _)]
  simp [want_length]

theorem take_want (c : UInt8) (st : List UInt8) : (want (c :: st)).take (((want (c :: st)).length : Int) - 1).toNat = want st := by
  rw [want_length, want_cons, show (((c :: st).length : Int) - 1).toNat = (want st).length by simp [want_length], List.take_left']
  rfl

/-- Where it ends, or 0. -/
def ende (i : Nat) : Option Nat → Int
  | some m => ((i + m : Nat) : Int)
  | none => 0
theorem ende_succ (i : Nat) (o : Option Nat) : ende (i + 1) o = ende i (o.map (· + 1)) := by
  cases o with
  | none => rfl
  | some m => show (((i + 1 + m : Nat)) : Int) = ((i + (m + 1) : Nat) : Int); congr 1; omega

theorem loop_eq (xs : List S37) (hn : xs.length ≤ 400) (hx : ∀ x ∈ xs, x.f1.size ≠ 0 ∧ x.f1.size ≤ 400) : ∀ (d i : Nat) (c : UInt8) (st : List UInt8) (k : Nat), i + d = xs.length → st.length ≤ i → 2 * d + 1 ≤ k →
    vars_closed.l0 k (want (c :: st)) xs (xs.length : Int) (i : Int) = some (ende i (Sp.blk (c :: st) (views (xs.drop i))))
  | 0, i, c, st, k, hi, hs, hk => by
    obtain ⟨k, rfl⟩ : ∃ k', k = k' + 1 := ⟨k - 1, by omega⟩
    have hd : xs.drop i = [] := List.drop_eq_nil_of_le (by omega)
    unfold vars_closed.l0
    rw [if_neg (by omega), hd]
    rfl
  | d + 1, i, c, st, k, hi, hs, hk => by
    obtain ⟨k, rfl⟩ : ∃ k', k = k' + 2 := ⟨k - 2, by omega⟩
    have hlt : i < xs.length := by omega
    have ht := hx _ (rd_mem xs i hlt)
    have hw1 : wrap64 ((i : Int) + 1) = ((i + 1 : Nat) : Int) := by rw [IntWalk.wrap64_in _ (by omega)]; rfl
    have hwn : wrap64 (((want (c :: st)).length : Int) - 1) = ((want (c :: st)).length : Int) - 1 := IntWalk.wrap64_in _ (by rw [want_length]; simp; omega)
    rw [drop_cons xs i hlt]
    generalize hX : rd_T37 xs (i : Int) = x at ht ⊢
    have hcl := closer_eq x ht.1 ht.2
    have ih := loop_eq xs hn hx d (i + 1)
    unfold vars_closed.l0
    rw [if_pos (by omega), if_pos (by omega), if_pos (by omega), hX]
    simp only [views, List.map_cons, Sp.blk, Sp.opens, show (view x).k = x.f0 from rfl, show (view x).raw = x.f1.data.toList from rfl]
    -- the stack goes on
    have push : (vars_closer.f x.f0 x.f1 x.f2 x.f3).bind (fun t124 => (if (want (c :: st)).length < 8796093022208 then ((some (want (c :: st) ++ [t124] : List ByteArray)).bind fun y125 => (if (y125.length : Int) = 0 then (some (wrap64 ((i : Int) + 1))) else (vars_closed.l0 k y125 xs (xs.length : Int) (wrap64 ((i : Int) + 1))))) else (none)))
        = some (ende i ((Sp.blk (Sp.closer (view x) :: c :: st) (views (xs.drop (i + 1)))).map (· + 1))) := by
      rw [hcl]
      simp only [Option.bind_some]
      rw [if_pos (by rw [want_length]; simp; omega), ← want_cons, if_neg (by rw [want_length]; simp; omega), hw1, ih _ _ k (by omega) (by simp; omega) (by omega), ende_succ]
    have stay : vars_closed.l0 k (want (c :: st)) xs (xs.length : Int) (wrap64 ((i : Int) + 1))
        = some (ende i ((Sp.blk (c :: st) (views (xs.drop (i + 1)))).map (· + 1))) := by
      rw [hw1, ih _ _ k (by omega) (by omega) (by omega), ende_succ]
    have nz : ¬ ((want (c :: st)).length : Int) = 0 := by rw [want_length]; simp; omega
    by_cases h10 : x.f0 = 10
    · rw [if_pos h10]
      unfold vars_closed.j1
      simp only [h10, BEq.rfl, Bool.true_or, if_true] at push ⊢
      exact push
    · rw [if_neg h10]
      unfold vars_closed.j1
      have e10 : (x.f0 == 10) = false := beq_eq_false_iff_ne.2 h10
      by_cases h2 : x.f0 = 2
      · simp only [h2, BEq.rfl, Bool.or_true, if_true] at push ⊢
        exact push
      · have e2 : (x.f0 == 2) = false := beq_eq_false_iff_ne.2 h2
        simp only [e10, e2, Bool.or_false, Bool.false_eq_true, if_false]
        by_cases h11 : x.f0 = 11
        · rw [if_pos h11, if_pos (by rw [hwn, want_length]; simp), if_pos (by rw [hwn]; omega), hwn, rd_want, str_toList, ByteArray.toList_eq]
          have e11 : (x.f0 == 11) = true := beq_iff_eq.2 h11
          by_cases hr : x.f1.data.toList = [c]
          · have er : (x.f1.data.toList == [c]) = true := beq_iff_eq.2 hr
            rw [if_pos hr, if_pos (by omega), take_want]
            simp only [e11, er, Bool.true_and, if_true, Option.bind_some]
            cases st with
            | nil => rw [if_pos (by simp [want]), hw1]; simp [Sp.blk, ende]
            | cons c2 st =>
              rw [if_neg (by rw [want_length]; simp; omega), hw1, ih _ _ k (by omega) (by simp at hs; omega) (by omega), ende_succ]
              rfl
          · have er : (x.f1.data.toList == [c]) = false := beq_eq_false_iff_ne.2 hr
            rw [if_neg hr, if_neg nz]
            simp only [e11, er, Bool.true_and, Bool.false_eq_true, if_false]
            exact stay
        · have e11 : (x.f0 == 11) = false := beq_eq_false_iff_ne.2 h11
          rw [if_neg h11, if_neg nz]
          simp only [e11, Bool.false_and, Bool.false_eq_true, if_false]
          exact stay

/-- vars.closed at a list whose first token opens. -/
theorem closed_eq (x : S37) (r : List S37) (hn : (x :: r).length ≤ 400) (hx : ∀ y ∈ x :: r, y.f1.size ≠ 0 ∧ y.f1.size ≤ 400) (ho : x.f0 = 2) :
    vars_closed.f (2 * (x :: r).length + 1) (x :: r) = some (ende 1 (Sp.blk [Sp.closer (view x)] (views r))) := by
  have hcl := closer_eq x (hx x (List.mem_cons_self)).1 (hx x (List.mem_cons_self)).2
  unfold vars_closed.f
  rw [show 2 * (x :: r).length + 1 = (2 * r.length + 1) + 2 by simp; omega]
  unfold vars_closed.l0
  rw [if_pos (by simp), if_pos (by omega), if_pos (by simp)]
  have h0 : rd_T37 (x :: r) 0 = x := rfl
  rw [h0, if_neg (by omega)]
  unfold vars_closed.j1
  rw [if_pos (by rw [ho]; rfl), hcl]
  simp only [Option.bind_some]
  rw [if_pos (by simp), if_neg (by simp), show wrap64 ((0 : Int) + 1) = ((1 : Nat) : Int) from IntWalk.wrap64_in _ (by omega)]
  have := loop_eq (x :: r) hn hx r.length 1 (Sp.closer (view x)) [] (2 * r.length + 1) (by simp; omega) (by simp) (Nat.le_refl _)
  rw [show ([] ++ [str (Sp.closer (view x))]) = want [Sp.closer (view x)] from rfl, this]
  rfl

theorem silent_eq (x : S37) : vars_silent.f x.f0 x.f1 x.f2 x.f3 = some (Sp.silent (view x)) := by
  unfold vars_silent.f
  simp only [Sp.silent, view]
  by_cases h8 : x.f0 = 8
  · simp [h8]
  · rw [if_neg h8, show (x.f0 == 8) = false from beq_eq_false_iff_ne.2 h8]; rfl

/-- The tokens behind what is silent. -/
def loud (xs : List S37) : List S37 := xs.dropWhile fun x => Sp.silent (view x)
theorem views_loud (xs : List S37) : views (loud xs) = (views xs).dropWhile Sp.silent := by
  induction xs with
  | nil => rfl
  | cons x r ih =>
    simp only [loud, views, List.map_cons, List.dropWhile_cons] at ih ⊢
    split
    · exact ih
    · rfl
theorem loud_drop (xs : List S37) : ∃ m, loud xs = xs.drop m := by
  induction xs with
  | nil => exact ⟨0, rfl⟩
  | cons x r ih =>
    obtain ⟨m, hm⟩ := ih
    simp only [loud, List.dropWhile_cons] at hm ⊢
    split
    · exact ⟨m + 1, by rw [List.drop_succ_cons]; exact hm⟩
    · exact ⟨0, rfl⟩

/-- What asked hands back behind the name. -/
def tailOf (n : ByteArray) (xs : List S37) : ByteArray × List S37 × Bool × Bool :=
  match loud xs with
  | [] => (n, [], false, true)
  | u :: r => if u.f0 = 12 ∧ u.f1.data.toList = [44] then (n, r, true, true) else (⟨#[]⟩, [], false, false)
/-- What asked hands back. -/
def askOf (xs : List S37) : ByteArray × List S37 × Bool × Bool :=
  match loud xs with
  | [] => (⟨#[]⟩, [], false, false)
  | t :: r => if t.f0 = 1 then tailOf t.f2 r else (⟨#[]⟩, [], false, false)

/-- What asked says, in the plain model; the rest is a drop of the list. -/
def Says (o : Option (Sp.By × Option (List Sp.T))) (p : ByteArray × List S37 × Bool × Bool) (xs : List S37) : Prop :=
  o = (if p.2.2.2 then some (p.1.data.toList, if p.2.2.1 then some (views p.2.1) else none) else none) ∧ (p.2.1 = [] ∨ ∃ m, p.2.1 = xs.drop (m + 1))
theorem askOf_spec (xs : List S37) (hg : ∀ x ∈ xs, x.f1.data.toList = [44] → x.f0 = 12) : Says (Sp.asked (views xs)) (askOf xs) xs := by
  have hA : Sp.asked (views xs) = (match views (loud xs) with | [] => none | t :: r => if t.k == 1 then (match r.dropWhile Sp.silent with | [] => some (t.val, none) | u :: r2 => if u.raw == [44] then some (t.val, some r2) else none) else none) := by
    rw [views_loud]; rfl
  obtain ⟨m, hm⟩ := loud_drop xs
  rw [hA]
  unfold askOf
  cases hl : loud xs with
  | nil => exact ⟨rfl, .inl rfl⟩
  | cons t r =>
    have hmem : ∀ y ∈ t :: r, y ∈ xs := fun y hy => by rw [← hl, hm] at hy; exact List.mem_of_mem_drop hy
    have hr : r = xs.drop (m + 1) := by
      have : (t :: r).tail = (xs.drop m).tail := by rw [← hl, hm]
      rw [List.tail_cons, List.tail_drop] at this; exact this
    simp only [views, List.map_cons]
    by_cases h1 : t.f0 = 1
    · rw [if_pos h1, show ((view t).k == 1) = true from beq_iff_eq.2 h1]
      simp only [if_true]
      obtain ⟨m2, hm2⟩ := loud_drop r
      have hv := views_loud r
      simp only [views] at hv
      rw [← hv]
      unfold tailOf
      cases hl2 : loud r with
      | nil => exact ⟨rfl, .inl rfl⟩
      | cons u r2 =>
        have hum : u ∈ xs := hmem u (List.mem_cons_of_mem _ (List.mem_of_mem_drop (hm2 ▸ (show u ∈ loud r from hl2 ▸ List.mem_cons_self))))
        have hr2 : r2 = xs.drop ((m + 1) + m2 + 1) := by
          have : (u :: r2).tail = (r.drop m2).tail := by rw [← hl2, hm2]
          rw [List.tail_cons, List.tail_drop, hr, List.drop_drop] at this
          rw [this]; congr 1
        simp only [List.map_cons]
        by_cases h44 : u.f1.data.toList = [44]
        · rw [if_pos (show ((view u).raw == [44]) = true from beq_iff_eq.2 h44), if_pos ⟨hg u hum h44, h44⟩]
          exact ⟨rfl, .inr ⟨_, hr2⟩⟩
        · rw [if_neg (show ¬ ((view u).raw == [44]) = true from fun h => h44 (eq_of_beq h)), if_neg (fun h => h44 h.2)]
          exact ⟨rfl, .inl rfl⟩
    · rw [if_neg h1, show ((view t).k == 1) = false from beq_eq_false_iff_ne.2 h1]
      exact ⟨rfl, .inl rfl⟩

end Go.Proofs.YtdjifjnophcnlaaDoor.Block
