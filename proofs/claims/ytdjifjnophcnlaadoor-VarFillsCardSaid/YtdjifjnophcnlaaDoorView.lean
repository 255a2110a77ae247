/-
  Tokens in memory as tokens of the plain model: the list that a slice of structs holds, seen through 'view'. No conditions: definitions and small lemmas.
-/
import Derived.Test.YtdjifjnophcnlaaDoorSp
import Derived.Test.YtdjifjnophcnlaaDoorPVarFillsx0
namespace Go.Proofs.YtdjifjnophcnlaaDoor
open Go.RowKit Go.Proofs.YtdjifjnophcnlaaDoorW.PrintWords Go.Proofs.YtdjifjnophcnlaaDoorW.PrintLast Go.Proofs.YtdjifjnophcnlaaDoorW.PrintMore
open PVarFills (S37 S28 k37 k28)

def view (x : S37) : Sp.T := ⟨x.f0, x.f1.data.toList, x.f2.data.toList⟩
def views (xs : List S37) : List Sp.T := xs.map view

/-- A slice of tokens of the call's own: what it holds, and that it is at base or above. -/
def Toks (w : World) (base : Nat) (v : Value) (xs : List S37) : Prop := Kd.R k37 37 w base (fun _ => True) v xs

theorem Toks.below {w w1 : World} {base : Nat} {v : Value} {xs : List S37} (h : Toks w base v xs) (hb : Below w.heap.size w w1) : Toks w1 base v xs := Kd.R_below h hb
theorem Toks.lower {w : World} {base base' : Nat} {v : Value} {xs : List S37} (h : Toks w base v xs) (hb : base' ≤ base) : Toks w base' v xs := Kd.R_lower h hb
theorem Toks.reads {w : World} {base : Nat} {v : Value} {xs : List S37} (h : Toks w base v xs) : ∃ A c, v = .slice A xs.length c ∧ xs.length ≤ c ∧ Kd.C k37 w A xs.length xs := Kd.R_reads h
theorem Toks.nil (w : World) (base : Nat) : Toks w base (.slice none 0 0) [] := ⟨fun _ _ => trivial, (Kd.R_nil k37 37 w base (fun _ => True)).2⟩

/-- A slice of tokens comes back; what was there stays. -/
def ToksPost (l : List Sp.T) (w : World) (e : Ending) (w' : World) : Prop :=
  ∃ (v : Value) (xs : List S37), e = .returned v ∧ Toks w' w.heap.size v xs ∧ views xs = l ∧ Below w.heap.size w w'

end Go.Proofs.YtdjifjnophcnlaaDoor
