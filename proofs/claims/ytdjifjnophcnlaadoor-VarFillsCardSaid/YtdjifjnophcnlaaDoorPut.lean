/-
  vars.put answers Sp.putS, where Fill answers as f says for shorter texts. Conditions: at most 400 tokens, each of at most 400 bytes; the pairs read.
-/
import Derived.Test.YtdjifjnophcnlaaDoorHead
import Derived.Test.YtdjifjnophcnlaaDoorBack
import Derived.Test.YtdjifjnophcnlaaDoorAsked
set_option linter.unusedVariables false
set_option linter.unusedSimpArgs false
namespace Go.Proofs.YtdjifjnophcnlaaDoor
open Go.RowKit Go.Proofs.YtdjifjnophcnlaaDoorW.PrintWords Go.Proofs.YtdjifjnophcnlaaDoorW.PrintLast Go.Proofs.YtdjifjnophcnlaaDoorW.PrintMore
open PVarFills (S37 S28 k37 k28)

/-- A text and whether there is one come back. -/
def FillPost (o : Option Sp.By) (w : World) (e : Ending) (w' : World) : Prop :=
  ∃ (v : ByteArray) (b : Bool), e = .returned (.tuple #[.string v, .bool b]) ∧ o = (if b then some v.data.toList else none) ∧ (b = false → v = ⟨#[]⟩) ∧ Below w.heap.size w w'

namespace Put
open Back

set_option maxHeartbeats 4000000 in
set_option maxRecDepth 100000 in
theorem put_any (f : Sp.By → Option Sp.By) (Av : Option Addr) (cv : Nat) (env : List S28) (N : Nat) (w : World) (hE : Kd.C k28 w Av env.length env) (A : Option Addr) (c : Nat) (xs : List S37)
    (hV : Kd.V k37 37 w w.heap.size (fun _ => True) (.slice A xs.length c) xs) (hn : xs.length ≤ 400) (hx : ∀ x ∈ xs, x.f1.size ≤ 400 ∧ (x.f1.data.toList = [44] → x.f0 = 12))
    (hlen : ∀ ys, (ys = [] ∨ ∃ m, ys = xs.drop (m + 1)) → (Sp.head (views ys)).length < N)
    (hF : ∀ (s : ByteArray) (w' : World), s.size < N → Below w.heap.size w w' → Calls Tryd.prog 5 #[.string s, .slice Av env.length cv] w' (FillPost (f s.data.toList) w')) :
    Calls Tryd.prog 11 #[.slice A xs.length c, .slice Av env.length cv] w (FillPost (Sp.putS f (envOf env) (views xs)) w) := by
  have hask := Asked.asked_any A c xs w hV hn
  have hsay := Block.askOf_spec xs (fun x h => (hx x h).2)
  obtain ⟨p, hp⟩ : ∃ p, Block.askOf xs = p := ⟨_, rfl⟩
  rw [hp] at hask hsay
  clear hp
  obtain ⟨n, rest, has, is⟩ := p
  have hrest : rest.length ≤ 400 ∧ ∀ x ∈ rest, x.f1.size ≤ 400 := by
    rcases hsay.2 with h | ⟨m, h⟩
    · simp only at h; subst h; exact ⟨by simp, fun x hx => by cases hx⟩
    · simp only at h; subst h; exact ⟨by rw [List.length_drop]; omega, fun x h => (hx x (List.mem_of_mem_drop h)).1⟩
  have hshort := hlen rest hsay.2
  have HA := Lib.hid hask
  have HS := Lib.hid hsay.1
  have HE := Lib.hid hE
  have HV := Lib.hid hV
  have HF := Lib.hid hF
  have HR := Lib.hid hrest
  have HL := Lib.hid hshort
  clear hask hsay hE hV hF hrest hshort hlen hx
  cases is
  · go_enter Tryd.func11, Tryd.ntmps11
    go_wp2_with (first
      | (go_at_call 24; refine HA.out.mono ?_; rintro e w1 ⟨v1, rfl, hv1, hb⟩; have HB1 := Lib.hid hb; clear hb hv1))
    go_ret2
    exact ⟨_, false, rfl, by simp [Sp.putS, HS.out], fun _ => rfl, HB1.out⟩
  · cases has
    · go_enter Tryd.func11, Tryd.ntmps11
      go_wp2_with (first
        | (go_at_call 24; refine HA.out.mono ?_; rintro e w1 ⟨v1, rfl, hv1, hb⟩; have HB1 := Lib.hid hb; have HE1 := Lib.hid (Kd.C_below HE.out hb); clear hb hv1)
        | (go_at_call 25; refine (Back.last_any Av cv env n _ HE1.out).mono ?_; rintro e w2 ⟨v, b, rfl, hl, hb⟩; have HL2 := Lib.hid hl; have HB2 := Lib.hid (HB1.out.trans (hb.mono HB1.out.size)); clear hb hl; cases b))
      · go_ret2
        exact ⟨_, false, rfl, by simp [Sp.putS, HS.out, HL2.out], fun _ => rfl, HB2.out⟩
      · go_wp2
        go_ret2
        exact ⟨_, true, rfl, by simp [Sp.putS, HS.out, HL2.out], (fun h => nomatch h), HB2.out⟩
    · go_enter Tryd.func11, Tryd.ntmps11
      go_wp2_with (first
        | (go_at_call 24; refine HA.out.mono ?_; rintro e w1 ⟨v1, rfl, hv1, hb⟩; have HB1 := Lib.hid hb; have HE1 := Lib.hid (Kd.C_below HE.out hb); have HV1 := Lib.hid hv1; clear hb hv1; obtain ⟨A1, c1, rfl⟩ := Kd.V_slice HV1.out)
        | (go_at_call 25; refine (Back.last_any Av cv env n _ HE1.out).mono ?_; rintro e w2 ⟨v, b, rfl, hl, hb⟩; have HL2 := Lib.hid hl; have HB2 := Lib.hid (HB1.out.trans (hb.mono HB1.out.size)); have HV2 := Lib.hid (Kd.V_below HV1.out hb); clear hb hl; cases b)
        | (go_at_call 26; refine (Head.head_any A1 c1 rest _ (Kd.V_reads' HV2.out).2.2 HR.out.1 HR.out.2).mono ?_; rintro e w3 ⟨rfl, hb⟩; have HB3 := Lib.hid (HB2.out.trans (hb.mono HB2.out.size)); clear hb)
        | (go_at_call 5; refine (HF.out ⟨(Sp.head (views rest)).toArray⟩ _ (by have := HL.out; simpa [ByteArray.size] using this) HB3.out).mono ?_; rintro e w4 ⟨v4, b4, rfl, ho, hv, hb⟩; have HO4 := Lib.hid (And.intro ho hv); have HB4 := Lib.hid (HB3.out.trans (hb.mono HB3.out.size)); clear hb ho hv))
      · go_ret2
        exact ⟨v4, b4, rfl, by rw [← HO4.out.1]; simp [Sp.putS, HS.out, HL2.out], HO4.out.2, HB4.out⟩
      · go_wp2
        go_ret2
        exact ⟨_, true, rfl, by simp [Sp.putS, HS.out, HL2.out], (fun h => nomatch h), HB2.out⟩

end Put
end Go.Proofs.YtdjifjnophcnlaaDoor
