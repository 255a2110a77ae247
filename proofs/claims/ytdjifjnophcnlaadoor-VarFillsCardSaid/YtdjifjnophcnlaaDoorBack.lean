/-
  slices.Backward over a slice of (name, value) pairs, and vars.last, which ranges over it: last answers what ..Sp's 'look' says. Conditions: the slice reads as the pairs.
-/
import Derived.RangeFuncNested
import Derived.RangeFuncBound
import Derived.RangeFuncCalls
import Derived.RangeFuncLeaves
import Derived.Shelf.Abstract
import Derived.Shelf.RegionOpen
import Derived.OwnWalkIn
import Derived.TacticsInMore
import Derived.LoopNIn
import Derived.LoopIn
import Derived.Test.YtdjifjnophcnlaaDoorView
set_option linter.unusedVariables false
set_option linter.unusedSimpArgs false
namespace Go.Proofs.YtdjifjnophcnlaaDoor
open Go.RowKit Go.Shelf Go.Proofs.YtdjifjnophcnlaaDoorW.PrintWords Go.Proofs.YtdjifjnophcnlaaDoorW.PrintLast Go.Proofs.YtdjifjnophcnlaaDoorW.PrintMore
open PVarFills (S37 S28 k37 k28 z28)

attribute [local go_sem] Oper.semAt_some

namespace Back

/-- What has come when k rounds are over. -/
def upto (xs : List S28) (k : Nat) : List (Int × S28) := (List.range k).map fun j : Nat => ((xs.length : Int) - 1 - (j : Int), PVarFills.rd_T28 xs ((xs.length : Int) - 1 - (j : Int)))
theorem upto_succ (xs : List S28) (k : Nat) : upto xs (k + 1) = upto xs k ++ [((xs.length : Int) - 1 - k, PVarFills.rd_T28 xs ((xs.length : Int) - 1 - k))] := by simp [upto, List.range_succ]
theorem upto_length (xs : List S28) (k : Nat) : (upto xs k).length = k := by simp [upto]

abbrev encs (x : Int × S28) : Array Value := #[Value.int .i64 x.1, .agg #[.string x.2.f0, .string x.2.f1]]

set_option maxRecDepth 100000 in
set_option maxHeartbeats 4000000 in
/-- The closure of slices.Backward, for every body that keeps what lay below n₀. -/
theorem iter_in (F : Fence) (n : Nat) (h76 : F.fn 76) (hro : F.round = none) (hn : 1 ≤ n) (l Bs n₀ : Nat) (w : World) (A : Option Addr) (c : Nat) (xs : List S28) (hr : Kd.C k28 w A xs.length xs) (hw : w.heap.size ≤ n₀) (hBn : Bs < n₀) (J Jx : List (Int × S28) → World → Prop)
    (hY : ∀ pre x W, J pre W → pre.length < xs.length → YieldAt F (n - 1) Tryd.prog l (encs x) W fun e W' =>
      (e = .returned (.bool true) ∧ J (pre ++ [x]) W' ∧ Below n₀ W W') ∨ (e = .returned (.bool false) ∧ Jx (pre ++ [x]) W'))
    (W : World) (hBs : W.cell? ⟨Bs, 0, none⟩ = some (.slice A xs.length c)) (hB : Below w.heap.size w W) (h0 : J [] W) :
    CallsIn F n Tryd.prog 76 #[.func (.yield l) #[] #[], .pointer (some ⟨Bs, 0, none⟩)] W fun e W' => (∃ v, e = .returned v) ∧
      ((∃ ys, ys = upto xs xs.length ∧ J ys W') ∨ (∃ pre, (∃ k, k ≤ xs.length ∧ pre = upto xs k) ∧ Jx pre W')) := by
  have hmax := hr.2.1
  have hwrap : wrap64 ((xs.length : Int) - 1) = (xs.length : Int) - 1 := IntWalk.wrap64_in _ (by omega)
  refine callsIn_of_wp Tryd.func76 rfl h76 ?_ hro
  simp only [Tryd.ntmps76, List.size_toArray, List.length_cons, List.length_nil, Nat.reduceAdd, Nat.reduceSub, Array.replicate_succ, Array.replicate_zero, List.push_toArray, List.append_toArray, List.nil_append, List.cons_append]
  gi_wp2
  gi_loopw [3] (fun i wr => ∃ k : Nat, k ≤ xs.length ∧ i = .int .i64 ((xs.length : Int) - 1 - k) ∧ J (upto xs k) wr ∧ Below n₀ W wr)
    (fun i _ => (intOf i + 1).toNat)
  case atStart => exact ⟨0, Nat.zero_le _, by simp [hwrap], h0, Below.refl _ _⟩
  case round =>
    obtain ⟨k, hk, rfl, hJs, hnx⟩ := hrel
    have hbx : wr.cell? ⟨Bs, 0, none⟩ = some (.slice A xs.length c) := (hnx.cell (p := ⟨Bs, 0, none⟩) hBn).trans hBs
    have hrr : Kd.C k28 wr A xs.length xs := Kd.C_below hr (hB.trans (hnx.mono hw))
    by_cases hlt : k < xs.length
    · have hge : decide ((xs.length : Int) - 1 - k ≥ 0) = true := by simp; omega
      have p0 : (0 : Int) ≤ (xs.length : Int) - 1 - k := by omega
      have p1 : (xs.length : Int) - 1 - k < (xs.length : Int) := by omega
      obtain ⟨ad, rfl, hx0, hx1⟩ := PVarFills.at_T28 hrr ((xs.length : Int) - 1 - k) p0 p1
      obtain ⟨fn, tmps, assign, body, hy, hR⟩ := hY _ ((xs.length : Int) - 1 - k, PVarFills.rd_T28 xs ((xs.length : Int) - 1 - k)) wr hJs (by rw [upto_length]; exact hlt)
      dsimp only [encs] at hy
      have hwr : wrap64 ((xs.length : Int) - 1 - k - 1) = (xs.length : Int) - 1 - k - 1 := IntWalk.wrap64_in _ (by omega)
      obtain ⟨I, hI⟩ : ∃ I : Int, (xs.length : Int) - 1 - k = I := ⟨_, rfl⟩
      rw [hI] at hge p0 p1 hx0 hx1 hy hR hwr ⊢
      gi_wp2
      refine hR.mono ?_
      rintro e W3 (⟨rfl, hJ3, hk3⟩ | ⟨rfl, hJx3⟩)
      · gi_wp2
        go_roundw
        case rel => exact ⟨k + 1, by omega, by congr 1; push_cast; omega, by rw [upto_succ, hI]; exact hJ3, hnx.trans hk3⟩
        case measure => simp [intOf, hwr]; omega
      · gi_wp2
        refine bodyPost_ret (results_none rfl _ _ _) rfl ?_
        exact ⟨⟨_, rfl⟩, .inr ⟨_, ⟨k + 1, by omega, by rw [upto_succ, hI]⟩, hJx3⟩⟩
    · obtain rfl : k = xs.length := by omega
      have hge : decide ((xs.length : Int) - 1 - xs.length ≥ 0) = false := by simp; omega
      gi_wp2
      go_end0
      exact ⟨⟨_, rfl⟩, .inl ⟨_, rfl, hJs⟩⟩

theorem upto_snd (xs : List S28) : (upto xs xs.length).map (·.2) = xs.reverse := by
  apply List.ext_getElem
  · simp [upto]
  · intro i h1 h2
    have hi : i < xs.length := by simpa using h2
    simp only [upto, List.map_map, List.getElem_map, List.getElem_range, Function.comp, List.getElem_reverse, PVarFills.rd_T28]
    rw [show ((xs.length : Int) - 1 - (i : Int)).toNat = xs.length - 1 - i by omega, List.getD_eq_getElem?_getD, List.getElem?_eq_getElem (by omega)]
    rfl
theorem upto_pre (xs : List S28) {k : Nat} (hk : k ≤ xs.length) : ∃ r, upto xs xs.length = upto xs k ++ r := by
  obtain ⟨d, hd⟩ : ∃ d, xs.length = k + d := ⟨xs.length - k, by omega⟩
  refine ⟨((List.range d).map (k + ·)).map fun j : Nat => ((xs.length : Int) - 1 - (j : Int), PVarFills.rd_T28 xs ((xs.length : Int) - 1 - (j : Int))), ?_⟩
  simp only [upto]
  rw [show List.range xs.length = List.range (k + d) by rw [hd], List.range_add, List.map_append]

/-- The pairs as the plain model has them. -/
def envOf (xs : List S28) : List (Sp.By × Sp.By) := xs.map fun x => (x.f0.data.toList, x.f1.data.toList)

theorem bytes_ne {a b : ByteArray} (h : a ≠ b) : a.data.toList ≠ b.data.toList := fun e => h (by cases a; cases b; simp only [Array.toList_inj] at e; subst e; rfl)

theorem eq_bytes {a b : ByteArray} (h : a.data.toList = b.data.toList) : a = b := by cases a; cases b; simp only [Array.toList_inj] at h; subst h; rfl
theorem eqB {a b : ByteArray} (h : (a.toList == b.toList) = true) : a = b := by rw [ByteArray.toList_eq, ByteArray.toList_eq] at h; exact eq_bytes (eq_of_beq h)
theorem neB {a b : ByteArray} (h : (a.toList == b.toList) = false) : a ≠ b := fun e => by rw [e] at h; simp at h

theorem look_none (xs : List S28) (name : ByteArray) (h : ∀ y ∈ upto xs xs.length, y.2.f0 ≠ name) : Sp.look (envOf xs) name.data.toList = none := by
  have hx : ∀ x ∈ xs, x.f0 ≠ name := fun x hx => by
    have : x ∈ (upto xs xs.length).map (·.2) := by rw [upto_snd]; exact List.mem_reverse.2 hx
    obtain ⟨y, hy, rfl⟩ := List.mem_map.1 this
    exact h y hy
  simp only [Sp.look, Option.map_eq_none_iff, List.find?_eq_none, List.mem_reverse, envOf, List.mem_map]
  rintro _ ⟨x, hm, rfl⟩ e
  exact bytes_ne (hx x hm) (eq_of_beq e)
theorem look_some (xs : List S28) (name : ByteArray) (k : Nat) (hk : k ≤ xs.length) (p0 : List (Int × S28)) (x : Int × S28) (he : upto xs k = p0 ++ [x]) (h : ∀ y ∈ p0, y.2.f0 ≠ name) (hx : x.2.f0 = name) : Sp.look (envOf xs) name.data.toList = some x.2.f1.data.toList := by
  obtain ⟨r, hr⟩ := upto_pre xs hk
  have hrev : (envOf xs).reverse = ((upto xs xs.length).map (·.2)).map fun x => (x.f0.data.toList, x.f1.data.toList) := by rw [upto_snd, List.map_reverse, envOf]
  rw [Sp.look, hrev, hr, he]
  simp only [List.map_append, List.append_assoc, List.map_cons, List.map_nil, List.find?_append]
  rw [show List.find? _ _ = none from List.find?_eq_none.2 ?_]
  · simp [hx]
  · intro y hy e
    simp only [List.map_map, List.mem_map, Function.comp] at hy
    obtain ⟨z, hz, rfl⟩ := hy
    exact bytes_ne (h z hz) (eq_of_beq e)

set_option maxHeartbeats 1000000 in
theorem back_in (F : Fence) (n : Nat) (h5 : F.fn 47) (hro : F.round = none) (a : Option Addr) (len cap : Nat) (w : World) :
    CallsIn F n Tryd.prog 47 #[.slice a len cap] w fun e w' => e = .returned (.func (.func 76) #[] #[.pointer (some ⟨w.heap.size, 0, none⟩)]) ∧ w' = w.alloc (.cells #[.slice a len cap] 22) := by
  refine callsIn_of_wp Tryd.func47 rfl h5 ?_ hro
  simp only [Tryd.ntmps47, List.size_toArray, List.length_cons, List.length_nil, Nat.reduceAdd, Nat.reduceSub, Array.replicate_succ, Array.replicate_zero, List.push_toArray, List.append_toArray, List.nil_append, List.cons_append]
  gi_wp2
  go_ret
  exact ⟨rfl, rfl⟩

theorem stops (F : Fence) (n : Nat) (h76 : F.fn 76) (hro : F.round = none) (hn : 1 ≤ n) (Bs : Nat) (w W0 : World) (A : Option Addr) (c : Nat) (xs : List S28) (hr : Kd.C k28 w A xs.length xs) (hB : Below w.heap.size w W0) (hBn : Bs < W0.heap.size)
    (hc : W0.cell? ⟨Bs, 0, none⟩ = some (.slice A xs.length c)) :
    SeqStopsK F n Tryd.prog 76 #[.pointer (some ⟨Bs, 0, none⟩)] encs (Below W0.heap.size) (fun ys => ys = upto xs xs.length)
      (fun pre => ∃ k, k ≤ xs.length ∧ pre = upto xs k) xs.length W0 := fun l J Jx W hW _ _ hY h0 =>
  iter_in F n h76 hro hn l Bs W0.heap.size w A c xs hr hB.size hBn J Jx hY W ((hW.cell (p := ⟨Bs, 0, none⟩) hBn).trans hc) (hB.trans (hW.mono hB.size)) h0

set_option maxRecDepth 100000 in
set_option maxHeartbeats 4000000 in
theorem last_in (F : Fence) (n : Nat) (h25 : F.fn 25) (h47 : F.fn 47) (h76 : F.fn 76) (hro : F.round = none) (hn : 3 ≤ n) (A : Option Addr) (c : Nat) (xs : List S28) (name : ByteArray) (w : World) (hr : Kd.C k28 w A xs.length xs) :
    CallsIn F n Tryd.prog 25 #[.slice A xs.length c, .string name] w fun e w' => ∃ (v : ByteArray) (b : Bool), e = .returned (.tuple #[.string v, .bool b]) ∧ Sp.look (envOf xs) name.data.toList = (if b then some v.data.toList else none) ∧ Below w.heap.size w w' := by
  have h1 : 1 ≤ n := by omega
  refine callsIn_of_wp_marks Tryd.func25 rfl h25 ?_ hro
  simp only [Tryd.ntmps25, List.size_toArray, List.length_cons, List.length_nil, Nat.reduceAdd, Nat.reduceSub, Array.replicate_succ, Array.replicate_zero, List.push_toArray, List.append_toArray, List.nil_append, List.cons_append]
  gi_wp2_with (gi_at_call 47; refine (back_in F (n - 1) h47 hro _ _ _ _).mono ?_; rintro e w' ⟨rfl, rfl⟩)
  have bN := (((Boxed.new w 9 (.string name)).alloc (.cells #[.string ⟨#[]⟩] 9)).alloc (.cells #[.bool false] 4)).alloc (.cells #[.slice A xs.length c] 22)
  have bV := ((Boxed.new (w.alloc (.cells #[.string name] 9)) 9 (.string ⟨#[]⟩)).alloc (.cells #[.bool false] 4)).alloc (.cells #[.slice A xs.length c] 22)
  have bR := (Boxed.new ((w.alloc (.cells #[.string name] 9)).alloc (.cells #[.string ⟨#[]⟩] 9)) 4 (.bool false)).alloc (.cells #[.slice A xs.length c] 22)
  have bA := Boxed.new (((w.alloc (.cells #[.string name] 9)).alloc (.cells #[.string ⟨#[]⟩] 9)).alloc (.cells #[.bool false] 4)) 22 (.slice A xs.length c)
  simp only [World.size_alloc] at bV bR bA
  have hB0 : Below w.heap.size w ((((w.alloc (.cells #[.string name] 9)).alloc (.cells #[.string ⟨#[]⟩] 9)).alloc (.cells #[.bool false] 4)).alloc (.cells #[.slice A xs.length c] 22)) := ((((Below.refl _ w).alloc (Nat.le_refl _) _).alloc (by simp) _).alloc (by simp; omega) _).alloc (by simp; omega) _
  have hsz : ((((w.alloc (.cells #[.string name] 9)).alloc (.cells #[.string ⟨#[]⟩] 9)).alloc (.cells #[.bool false] 4)).alloc (.cells #[.slice A xs.length c] 22)).heap.size = w.heap.size + 4 := by simp
  obtain ⟨W0, hW0⟩ : ∃ W0, ((((w.alloc (.cells #[.string name] 9)).alloc (.cells #[.string ⟨#[]⟩] 9)).alloc (.cells #[.bool false] 4)).alloc (.cells #[.slice A xs.length c] 22)) = W0 := ⟨_, rfl⟩
  rw [hW0] at bN bV bR bA hB0 hsz ⊢
  clear hW0
  refine wpIn_rangeFunc_ownH hro h1 (gf := 76) (lb := #[.pointer (some ⟨w.heap.size + 1 + 1 + 1, 0, none⟩)]) rfl h76 (enters_of Tryd.func76 (by kernel_rfl) rfl)
    (stops F (n - 1) h76 hro (by omega) (w.heap.size + 1 + 1 + 1) w W0 A c xs hr hB0 (by omega) bA.cell) belowK_t (belowK_b (Nat.le_refl _)) (Below.refl _ _) (fun _ => rfl)
    (fun pre W => ((((∀ y ∈ pre, y.2.f0 ≠ name) ∧ Boxed W (w.heap.size + 1) 9 (.string ⟨#[]⟩)) ∧ Boxed W (w.heap.size + 1 + 1) 4 (.bool false)) ∧ Boxed W w.heap.size 9 (.string name)) ∧ (Below w.heap.size w W ∧ Below W0.heap.size W0 W))
    (fun cc pre W => (∃ p0 x, (((cc = .ret ∧ pre = p0 ++ [x] ∧ (∀ y ∈ p0, y.2.f0 ≠ name) ∧ x.2.f0 = name) ∧ Boxed W (w.heap.size + 1) 9 (.string x.2.f1)) ∧ Boxed W (w.heap.size + 1 + 1) 4 (.bool true))) ∧ Below w.heap.size w W)
    (OwnFrom.and (OwnFrom.and (OwnFrom.and (OwnFrom.and (ownFrom_pure _ _) (Own.from (boxed_own _ _ (fun _ => _)) _)) (Own.from (boxed_own _ _ (fun _ => _)) _)) (Own.from (boxed_own _ _ (fun _ => _)) _)) (OwnFrom.and (ownFrom_below (Nat.le_refl _) (by omega)) (ownFrom_below (Nat.le_refl _) (by omega))))
    (fun cc => OwnFrom.and (fun s X Y row hs hg hr => by obtain ⟨p0, x, ⟨e1, e2⟩, e3⟩ := hs; exact ⟨p0, x, ⟨e1, (boxed_own _ _ (fun (_ : Unit) => _)) () X Y row e2 hg (fun r e => (hr r e).2)⟩, (boxed_own _ _ (fun (_ : Unit) => _)) () X Y row e3 hg (fun r e => (hr r e).2)⟩) (ownFrom_below (Nat.le_refl _) (by omega)))
    ⟨⟨⟨⟨by simp, bV⟩, bR⟩, bN⟩, hB0, Below.refl _ _⟩
    (fun x a' W => ∃ Bx, W.heap[Bx]? = some (.cells #[.string x.2.f0, .string x.2.f1] 28 (0, 0)) ∧ a' = { tmps := #[.slice A xs.length c, .string name, undef, .pointer (some ⟨w.heap.size, 0, none⟩), .pointer (some ⟨w.heap.size + 1, 0, none⟩), .pointer (some ⟨w.heap.size + 1 + 1, 0, none⟩), undef, .pointer (some ⟨Bx, 0, none⟩), .slice A xs.length c, .func (.func 76) #[] #[.pointer (some ⟨w.heap.size + 1 + 1 + 1, 0, none⟩)], .int .i64 x.1, .agg #[.string x.2.f0, .string x.2.f1], undef, undef, undef, undef, undef, undef], defers := [] })
    (fun x a' _ X Y row hs hg hr => by
      obtain ⟨Bx, e1, e2⟩ := hs
      have hl := (Array.getElem?_eq_some_iff.1 e1).1
      exact ⟨Bx, (hg.block Bx hl (fun e' => by obtain ⟨_, o, ho, hcc⟩ := hr Bx e'.symm; rw [e1] at ho; cases ho; cases hcc)).trans e1, e2⟩)
    ?assign ?body ?done ?stop
  case assign =>
    rintro l pre x W K ⟨⟨⟨⟨hp, bV1⟩, bR1⟩, bN1⟩, hB1, hB2⟩ hK
    gi_wp2
    exact hK _ _ ((KeepsOthers.alloc _ _).from _) ((Below.refl _ W).alloc (by have := hB2.size; omega) _) ⟨⟨⟨⟨hp, bV1.alloc _⟩, bR1.alloc _⟩, bN1.alloc _⟩, hB1.alloc hB1.size _, hB2.alloc hB2.size _⟩ ⟨W.heap.size, World.alloc_heap_new W _, rfl⟩
  case body =>
    rintro l pre x a' W hl ⟨r, hlr⟩ ⟨⟨⟨⟨hp, bV1⟩, bR1⟩, bN1⟩, hB1, hB2⟩ ⟨Bx, eX, rfl⟩ hlt
    have cN := bN1.cell
    have cV := bV1.cell
    have cR := bR1.cell
    have fV := bV1.frozen
    have fR := bR1.frozen
    have cX0 : W.cell? ⟨Bx, 0, none⟩ = some (.string x.2.f0) := by simp [World.cell?, eX]
    have cX1 : W.cell? ⟨Bx, 1, none⟩ = some (.string x.2.f1) := by simp [World.cell?, eX]
    gi_wp2
    · rename_i hx
      refine ⟨((KeepsOthers.setCell _ _ _).trans (KeepsOthers.setCell _ _ _)).from _, ⟨pre, x, ⟨⟨rfl, rfl, hp, eqB hx⟩, (bV1.set _).other (by omega) _⟩, (bR1.other (by omega) _).set _⟩, (hB1.setCell (p := ⟨w.heap.size + 1, 0, none⟩) (by simp) _).setCell (p := ⟨w.heap.size + 1 + 1, 0, none⟩) (by simp; omega) _⟩
    · rename_i hx
      exact ⟨KeepsFrom.refl _ _, Below.refl _ _, ⟨⟨⟨fun y hy => (List.mem_append.1 hy).elim (hp y) (fun e => by rw [List.mem_singleton] at e; subst e; exact neB hx), bV1⟩, bR1⟩, bN1⟩, hB1, hB2⟩
  case done =>
    rintro D ys W hD rfl ⟨⟨⟨⟨hp, bV1⟩, bR1⟩, bN1⟩, hB1, hB2⟩ hK
    have cV := bV1.cell
    have cR := bR1.cell
    have fV := bV1.frozen
    have fR := bR1.frozen
    gi_wp2
    have hK' := (KeepsOthers.setCell _ ⟨w.heap.size + 1 + 1, 0, none⟩ (.bool false)).same D _ ((KeepsOthers.setCell W ⟨w.heap.size + 1, 0, none⟩ (.string ⟨#[]⟩)).same D _ hK rfl) rfl
    refine ⟨by simp, .inl ⟨_, _, rfl, run_takeDeferred hK', ?_⟩⟩
    have hc4 := cell_kept ((bV1.set (.string ⟨#[]⟩)).other (B' := w.heap.size + 1 + 1) (by omega) (.bool false)).cell (grownBy_putObj' _ D (.deferred none)) (fun r e => by cases e; exact ⟨_, hK', rfl⟩)
    have hc5 := cell_kept ((bR1.other (B' := w.heap.size + 1) (by omega) (.string ⟨#[]⟩)).set (.bool false)).cell (grownBy_putObj' _ D (.deferred none)) (fun r e => by cases e; exact ⟨_, hK', rfl⟩)
    refine ⟨.tuple #[.string ⟨#[]⟩, .bool false], ?_, _, _, rfl, by rw [look_none xs name hp]; rfl, ((hB1.setCell (p := ⟨w.heap.size + 1, 0, none⟩) (by simp) _).setCell (p := ⟨w.heap.size + 1 + 1, 0, none⟩) (by simp; omega) _).trans (belowK_b (w := w) (Nat.le_refl _) _ D _ _ (by omega) hK' rfl rfl)⟩
    simp [results, Tryd.f25, go_sem, hc4, hc5]
  case stop =>
    rintro D cc pre W hD ⟨k, hk, hpre⟩ ⟨⟨p0, x, ⟨⟨rfl, he, hne, hxn⟩, bV1⟩, bR1⟩, hB1⟩ hK
    gi_wp2
    refine ⟨by simp, .inl ⟨_, _, rfl, run_takeDeferred hK, ?_⟩⟩
    have hc4 := cell_kept bV1.cell (grownBy_putObj' _ D (.deferred none)) (fun r e => by cases e; exact ⟨_, hK, rfl⟩)
    have hc5 := cell_kept bR1.cell (grownBy_putObj' _ D (.deferred none)) (fun r e => by cases e; exact ⟨_, hK, rfl⟩)
    refine ⟨.tuple #[.string x.2.f1, .bool true], ?_, _, _, rfl, by rw [look_some xs name k hk p0 x (hpre.symm.trans he) hne hxn]; rfl, hB1.trans (belowK_b (w := w) (Nat.le_refl _) W D _ _ (by omega) hK rfl rfl)⟩
    simp [results, Tryd.f25, go_sem, hc4, hc5]

/-- vars.last. -/
theorem last_any (A : Option Addr) (c : Nat) (xs : List S28) (name : ByteArray) (w : World) (hr : Kd.C k28 w A xs.length xs) :
    Calls Tryd.prog 25 #[.slice A xs.length c, .string name] w fun e w' => ∃ (v : ByteArray) (b : Bool), e = .returned (.tuple #[.string v, .bool b]) ∧ Sp.look (envOf xs) name.data.toList = (if b then some v.data.toList else none) ∧ Below w.heap.size w w' :=
  (callsIn_wide (n := 10)).1 (last_in Fence.wide 10 trivial trivial trivial rfl (by omega) A c xs name w hr)

end Back
end Go.Proofs.YtdjifjnophcnlaaDoor
