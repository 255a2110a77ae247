/-
  What it means that a Go function hands back a token of the plain model, and how such a struct is read out of memory. No conditions: definitions and lemmas on memory.
-/
import Derived.Test.YtdjifjnophcnlaaDoorSp
import Derived.Test.YtdjifjnophcnlaaDoorProg
import Derived.Lib.Strings
import Derived.Lib.Hide
import Derived.WalkKit
import Derived.KernelRfl
import Derived.Below
import Derived.Laws.Rows
namespace Go.Proofs.YtdjifjnophcnlaaDoor
open Go.RowKit

/-- A token comes back, with some number; what was there stays. -/
def TokPost (t : Sp.T) (w : World) (e : Ending) (w' : World) : Prop :=
  ∃ n : Int, e = .returned (.agg #[.int .i64 t.k, .string ⟨t.raw.toArray⟩, .string ⟨t.val.toArray⟩, .int .i64 n]) ∧ Below w.heap.size w w'

namespace Tok

/-- Four cells of a token at a block. -/
def At (w : World) (b : Nat) (c0 c1 c2 c3 : Value) : Prop := w.heap[b]? = some (.cells #[c0, c1, c2, c3] 37 (0, 0))

theorem At.cells {w : World} {b : Nat} {c0 c1 c2 c3 : Value} (h : At w b c0 c1 c2 c3) :
    (w.cell? ⟨b, 0, none⟩ = some c0 ∧ w.cell? ⟨b, 1, none⟩ = some c1 ∧ w.cell? ⟨b, 2, none⟩ = some c2 ∧ w.cell? ⟨b, 3, none⟩ = some c3) ∧
    (w.frozen? ⟨b, 0, none⟩ = false ∧ w.frozen? ⟨b, 1, none⟩ = false ∧ w.frozen? ⟨b, 2, none⟩ = false ∧ w.frozen? ⟨b, 3, none⟩ = false) := by
  unfold At at h; simp [World.cell?, World.frozen?, h]

theorem At.lt {w : World} {b : Nat} {c0 c1 c2 c3 : Value} (h : At w b c0 c1 c2 c3) : b < w.heap.size := (Array.getElem?_eq_some_iff.1 h).1

theorem set_heap {w : World} {b : Nat} {cs : Array Value} {t : TypeId} {fr : Nat × Nat} (h : w.heap[b]? = some (.cells cs t fr)) (j : Nat) (v : Value) :
    (w.setCell ⟨b, j, none⟩ v).heap[b]? = some (.cells (cs.setIfInBounds j v) t fr) := by
  simp [World.setCell, Array.getElem?_modify, h]

theorem At.set0 {w : World} {b : Nat} {c0 c1 c2 c3 : Value} (h : At w b c0 c1 c2 c3) (v : Value) : At (w.setCell ⟨b, 0, none⟩ v) b v c1 c2 c3 := set_heap h 0 v
theorem At.set1 {w : World} {b : Nat} {c0 c1 c2 c3 : Value} (h : At w b c0 c1 c2 c3) (v : Value) : At (w.setCell ⟨b, 1, none⟩ v) b c0 v c2 c3 := set_heap h 1 v
theorem At.set2 {w : World} {b : Nat} {c0 c1 c2 c3 : Value} (h : At w b c0 c1 c2 c3) (v : Value) : At (w.setCell ⟨b, 2, none⟩ v) b c0 c1 v c3 := set_heap h 2 v
theorem At.set3 {w : World} {b : Nat} {c0 c1 c2 c3 : Value} (h : At w b c0 c1 c2 c3) (v : Value) : At (w.setCell ⟨b, 3, none⟩ v) b c0 c1 c2 v := set_heap h 3 v
theorem At.far {w : World} {b : Nat} {c0 c1 c2 c3 : Value} (h : At w b c0 c1 c2 c3) {p : Addr} (hp : b ≠ p.block) (v : Value) : At (w.setCell p v) b c0 c1 c2 c3 := (Below.heap_setCell w p v b hp).trans h
theorem At.drew {w : World} {b : Nat} {c0 c1 c2 c3 : Value} (h : At w b c0 c1 c2 c3) : At w.drew b c0 c1 c2 c3 := h
theorem At.below {w w' : World} {B b : Nat} {c0 c1 c2 c3 : Value} (h : At w b c0 c1 c2 c3) (hb : Below B w w') (hB : b < B) : At w' b c0 c1 c2 c3 := (hb.block b hB).trans h
theorem At.alloc {w : World} {b : Nat} {c0 c1 c2 c3 : Value} (h : At w b c0 c1 c2 c3) (o : Obj) : At (w.alloc o) b c0 c1 c2 c3 := (heap_alloc_old w o h.lt).trans h
theorem At.new (w : World) (c0 c1 c2 c3 : Value) : At (w.alloc (.cells #[c0, c1, c2, c3] 37)) w.heap.size c0 c1 c2 c3 := heap_alloc_new w _

theorem size37 : (Tryd.prog.info? 37).map (·.size) = some 4 := by kernel_rfl

theorem ret {fn : Func} {p : Tmp} (h : fn.results = #[.cell p 37]) {a : Act} {W : World} {g : Nat} {c0 c1 c2 c3 : Value} {R : Ending → World → Prop}
    (hp : a.tmps.getD p undef = .pointer (some ⟨g, 0, none⟩)) (hg : At W g c0 c1 c2 c3) (hd : a.defers = []) (hR : R (.returned (.agg #[c0, c1, c2, c3])) W) : bodyPost Tryd.prog fn R .ret a W :=
  bodyPost_ret (results_cell_row h _ _ g 37 _ (0, 0) _ hp hg Tryd.underlying37 rfl size37) hd hR

end Tok
end Go.Proofs.YtdjifjnophcnlaaDoor
