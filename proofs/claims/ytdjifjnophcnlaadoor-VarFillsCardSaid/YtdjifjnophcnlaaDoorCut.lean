/-
  csstok.Cut hands back all tokens of a text (Sp.toks), for strings of at most 400 bytes, where the library's MaxLen holds some int; what was there in memory stays.
-/
import Derived.Test.YtdjifjnophcnlaaDoorFirst
import Derived.Test.YtdjifjnophcnlaaDoorView
set_option linter.unusedVariables false
set_option linter.unusedSimpArgs false
namespace Go.Proofs.YtdjifjnophcnlaaDoor.Cut
open Go.RowKit Go.Proofs.YtdjifjnophcnlaaDoorW.PrintWords Go.Proofs.YtdjifjnophcnlaaDoorW.PrintLast Go.Proofs.YtdjifjnophcnlaaDoorW.PrintMore
open PVarFills (S37 S28 k37 k28)

/-- What holds at each round's head: what is there already, and what is left. -/
def Inv (l : Sp.By) (w : World) (l' : Sp.By) (v : Value) (xs : List S37) (wr : World) : Prop :=
  (∃ f, views xs ++ Sp.toksF f l' = Sp.toks l ∧ l'.length ≤ f) ∧ xs.length + l'.length ≤ l.length ∧ Toks wr w.heap.size v xs ∧ Below w.heap.size w wr

theorem Inv.start (l : Sp.By) (w : World) : Inv l w l (.slice none 0 0) [] w := ⟨⟨l.length, rfl, Nat.le_refl _⟩, by simp, Toks.nil w _, Below.refl _ _⟩

theorem Inv.stop {l : Sp.By} {w wr : World} {v : Value} {xs : List S37} (h : Inv l w [] v xs wr) : views xs = Sp.toks l := by
  obtain ⟨f, hf, _⟩ := h.1
  cases f <;> simpa [Sp.toksF] using hf

theorem Inv.step {l : Sp.By} {w wr w2 : World} {c : UInt8} {r : Sp.By} {v v2 : Value} {xs : List S37} {x : S37} (h : Inv l w (c :: r) v xs wr) (hx : view x = Sp.tk (c :: r)) {l2 : Sp.By} (hl2 : l2 = (c :: r).drop (Sp.tk (c :: r)).raw.length)
    (ht : Toks w2 w.heap.size v2 (xs ++ [x])) (hb : Below w.heap.size w w2) : Inv l w l2 v2 (xs ++ [x]) w2 := by
  obtain ⟨⟨f, hf, hle⟩, hn, _, _⟩ := h
  have hr := Tk.tk_raw c r
  subst hl2
  refine ⟨?_, ?_, ht, hb⟩
  · cases f with
    | zero => simp at hle
    | succ f =>
      refine ⟨f, ?_, by rw [List.length_drop]; omega⟩
      rw [← hf]
      simp [views, hx, Sp.toksF]
  · rw [List.length_append, List.length_drop, List.length_singleton]; omega

theorem at_grown {w3 w4 : World} {v : Value} {base : Nat} {xs : List S37} {c0 c1 c2 c3 : Value} (ht : Toks w3 base v xs) (hg : (w3.alloc (.cells #[c0, c1, c2, c3] 37)).grownBy w4 v.ownBlock) : Tok.At w4 w3.heap.size c0 c1 c2 c3 := by
  obtain ⟨inner, hi⟩ := Kd.R_own ht
  exact (hg.block w3.heap.size (by simp) (fun e => by have := own_lt hi w3.heap.size e.symm; omega)).trans (Tok.At.new w3 c0 c1 c2 c3)

theorem info37 : (Tryd.prog.info? 37).map (fun i => (i.zero, i.size, i.bytes)) = some (some (.agg #[(.int .i64 0), (.string ⟨#[]⟩), (.string ⟨#[]⟩), (.int .i64 0)]), 4, 48) := PVarFills.info37

set_option maxHeartbeats 2000000 in
set_option maxRecDepth 100000 in
theorem cut_any (s : ByteArray) (w : World) (hm : s.size ≤ 400) (hg : Glob w) : Calls Tryd.prog 7 #[.string s] w (ToksPost (Sp.toks s.data.toList) w) := by
  have HG := Lib.hid hg
  have hS := Lib.hid (Inv.start s.data.toList w)
  clear hg
  go_enter Tryd.func7, Tryd.ntmps7
  go_wp2
  go_loopw [0, 3] (fun a b wr => ∃ (u : ByteArray) (xs : List S37), a = .string u ∧ u.size ≤ 400 ∧ Hid (Inv s.data.toList w u.data.toList b xs wr)) (fun a _ _ => match a with | .string u => u.size | _ => 0)
  case atStart => exact ⟨s, [], rfl, hm, hS⟩
  case round =>
    clear hS
    obtain ⟨u, xs, rfl, hu, HI⟩ := hrel
    by_cases h0 : 0 < u.size
    · have he := Leaf.nonempty u h0
      have hne : (!u.toList.isEmpty) = true := by rw [he]; rfl
      obtain ⟨c, r, hc0, hl⟩ := Leaf.first_of u h0
      have cf := fun w h => First.first_any u w h0 hu h
      have hr := Tk.tk_raw c r
      rw [← hl, ← Lib.size_eq] at hr
      obtain ⟨t, ht⟩ : ∃ t, Sp.tk u.data.toList = t := ⟨_, rfl⟩
      unfold TokPost at cf
      rw [ht] at cf hr
      obtain ⟨raw, hraw⟩ : ∃ raw : ByteArray, (⟨t.raw.toArray⟩ : ByteArray) = raw := ⟨_, rfl⟩
      obtain ⟨val, hval⟩ : ∃ val : ByteArray, (⟨t.val.toArray⟩ : ByteArray) = val := ⟨_, rfl⟩
      have hz : raw.size = t.raw.length := by rw [← hraw, Lib.size_eq]
      rw [hraw, hval] at cf
      have CF := Lib.hid cf
      have HT := Lib.hid (show view ⟨t.k, raw, val, 0⟩ = Sp.tk u.data.toList by rw [ht, ← hraw, ← hval]; rfl)
      have HZ := Lib.hid (show raw.size = (Sp.tk u.data.toList).raw.length by rw [ht]; exact hz)
      have HL := Lib.hid hl
      have hr1 : 1 ≤ raw.size := by omega
      have hr2 : raw.size ≤ u.size := by omega
      have HGW := Lib.hid (HG.out.below HI.out.2.2.2)
      have hlen : (xs.length + 1) * 48 ≤ 140737488355328 := by have h1 := HI.out.2.1; rw [← Lib.size_eq, ← Lib.size_eq] at h1; omega
      have hBs := HI.out.2.2.2.size
      clear ht hl hraw hval hz hr cf
      go_wp2_with (first
        | (go_at_call 20; refine (CF.out _ HGW.out).mono ?_; rintro e w3 ⟨nn, rfl, hb⟩; have HO := Lib.hid (HI.out.2.2.1.below hb); have HB3 := Lib.hid (HI.out.2.2.2.trans (hb.mono hBs)); have hB3 := HB3.out.size; clear hb)
        | (at_builtin; go_must (refine Kd.R_append k37 (w0 := w) w.heap.size rfl (.tmp 9) (.tmp 11) 29 37 _ 48 rfl Tryd.underlying29 info37 rfl (by decide) (by omega) _ xs (⟨t.k, raw, val, nn⟩ : S37) [.int .i64 t.k, .string raw, .string val, .int .i64 nn] (fun _ => True) (fun _ => False) rfl (by simp [Act.eval]) (PVarFills.k37_mkM _ _ _ _) (fun _ hk => hk.elim) (fun _ _ => trivial) (Kd.R_alloc HO.out _) (HB3.out.alloc hB3 _) (by simp; omega) hlen ?_); intro v1 w4 ho hb4 hg hat; have HO4 := Lib.hid ho; have HB4 := Lib.hid hb4; obtain ⟨⟨-, g1, -, -⟩, -⟩ := (at_grown HO.out hg).cells; clear ho hb4 hg hat))
      go_roundw
      case rel => exact ⟨u.extract raw.size u.size, xs ++ [⟨t.k, raw, val, nn⟩], rfl, by rw [Lib.size_eq, Lib.extract_to_end, List.length_drop, ← Lib.size_eq]; omega,
        Lib.hid (Inv.step (c := c) (r := r) (x := ⟨t.k, raw, val, nn⟩) (by have := HI.out; rw [HL.out] at this; exact this) (by rw [← HL.out, ← HT.out]; rfl) (by rw [Lib.extract_to_end, HL.out, ← HL.out, ← HZ.out]) HO4.out HB4.out)⟩
      case measure =>
        have : (u.extract raw.size u.size).size = u.size - raw.size := by rw [Lib.size_eq, Lib.extract_to_end, List.length_drop, ← Lib.size_eq]
        simp [this]; omega
    · have hl : u.data.toList = [] := List.eq_nil_of_length_eq_zero (by rw [← Lib.size_eq]; omega)
      have he : u.toList.isEmpty = true := by rw [Lib.toList_data, hl]; rfl
      have hne : (!u.toList.isEmpty) = false := by rw [he]; rfl
      have HL := Lib.hid hl
      clear hl
      go_wp2
      go_ret
      have h := HI.out
      rw [HL.out] at h
      exact ⟨_, xs, rfl, h.2.2.1, h.stop, h.2.2.2⟩

end Go.Proofs.YtdjifjnophcnlaaDoor.Cut
