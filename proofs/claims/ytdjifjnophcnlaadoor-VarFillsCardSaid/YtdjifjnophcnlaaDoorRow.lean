/-
  The row of VarFills: whatever string and whatever slice of pairs come in, it returns true, and both read as before; and its tied card. Conditions: those of the row: the library's listed tables hold what the program's text lays.
-/
import Derived.Test.YtdjifjnophcnlaaDoorLaw
import Derived.Test.YtdjifjnophcnlaaDoorCards
import Derived.Test.YtdjifjnophcnlaaDoorTie
import Derived.ProofKit
import Derived.OpenShut
import Derived.ShutString
import Derived.ChangeOld
import Derived.Below
import Derived.SizedLaws
import Derived.Deep.SlicePairs
import Derived.Deep.DeepHandedRow
import Derived.Lib.LaidTab
import Derived.Lay
import Derived.Stop.LaidErr
import Derived.Stop.Joined
import Derived.Shelf.Vars
set_option linter.unusedVariables false
set_option linter.unusedSimpArgs false
set_option maxRecDepth 100000
namespace Go.Proofs.YtdjifjnophcnlaaDoor
open Go.ChangeShapes Go.WideShapes Go.ChangeAt Go.RowKit Go.Proofs.YtdjifjnophcnlaaDoorW.PrintWords
open Go.ChangeMaps (open_string shut_string)
open PVarFills (S28 k28)
namespace Card

theorem own : ownKnob Tryd.prog.godebug = none := by kernel_rfl
theorem laidOut : laidOutB Tryd.prog = true := by kernel_rfl

/-! ### The listed tables -/
theorem gFold : Tryd.prog.globalNamed "unicode.asciiFold" = some 0 := by kernel_rfl
theorem gFoldType : (Tryd.prog.globals[0]?).map (·.type) = some 92 := by kernel_rfl
theorem cells92 : Tryd.prog.cellsOf 92 = 128 := by kernel_rfl
theorem cells91 : Tryd.prog.cellsOf 91 = 1 := by kernel_rfl
def foldZ : List Int := [0, 1, 2, 3, 4, 5, 6, 7, 8, 9, 10, 11, 12, 13, 14, 15, 16, 17, 18, 19, 20, 21, 22, 23, 24, 25, 26, 27, 28, 29, 30, 31, 32, 33, 34, 35, 36, 37, 38, 39, 40, 41, 42, 43, 44, 45, 46, 47, 48, 49, 50, 51, 52, 53, 54, 55, 56, 57, 58, 59, 60, 61, 62, 63, 64, 97, 98, 99, 100, 101, 102, 103, 104, 105, 106, 107, 108, 109, 110, 111, 112, 113, 114, 115, 116, 117, 118, 119, 120, 121, 122, 91, 92, 93, 94, 95, 96, 65, 66, 67, 68, 69, 70, 71, 72, 73, 74, 8490, 76, 77, 78, 79, 80, 81, 82, 383, 84, 85, 86, 87, 88, 89, 90, 123, 124, 125, 126, 127]
def restL : List (String × DataW Unit) := [("unicode.caseOrbit", Rows.laid_unicode_caseOrbit), ("unicode.CaseRanges", Rows.laid_unicode_CaseRanges), ("unicode/utf8.first", Rows.laid_unicode_utf8_first)]
theorem laid_is : Rows.varFillsRow.laid = ("unicode/utf8.acceptRanges", Rows.laid_unicode_utf8_acceptRanges) :: ("unicode.asciiFold", Lib.tabData .u16 foldZ) :: restL := rfl
theorem no_handle : (Rows.varFillsRow.laid.all fun x => x.2.handleName?.isNone) = true := by kernel_rfl
theorem table {W : World} (h : laidMetH Tryd.prog Rows.varFillsRow.laid W) : Lib.TabIs Tryd.prog W "unicode.asciiFold" .u16 foldZ := by
  rw [MakeChecks.laidMetH_plain _ _ _ no_handle, laid_is] at h
  exact Lib.tabIs_of_head gFold gFoldType Tryd.underlying92 Tryd.underlying91 cells91 cells92 h.tail
theorem foldTab {W : World} (h : laidMetH Tryd.prog Rows.varFillsRow.laid W) : FoldTab W := by
  have hT := table h
  exact ⟨⟨hT.cell gFold 118 (by decide), hT.cell gFold 86 (by decide)⟩, ⟨hT.cell gFold 97 (by decide), hT.cell gFold 65 (by decide)⟩, hT.cell gFold 114 (by decide), hT.cell gFold 82 (by decide)⟩
theorem glob {W : World} (h : W.ShapedOpen Tryd.prog) : Glob W :=
  cell_of_shapedOpen_int (P := Tryd.prog) (g := 3) (t := 3) (zero := #[.int .i64 0]) h (of_decide_eq_true (by kernel_rfl)) (by kernel_rfl) rfl (by kernel_rfl) (by kernel_rfl) Tryd.underlying3

/-! ### The slice of pairs -/
theorem weightsAll_mem {H : Type} {P : Program} {e : TypeId} : ∀ {l : List (DataW H)} {d : DataW H}, d ∈ l → ∀ n ∈ d.weights P e, n ∈ DataW.weightsAll P e l
  | x :: l, d, hd, n, hn => by
    simp only [DataW.weightsAll, List.mem_append]
    rcases List.mem_cons.1 hd with rfl | hd
    · exact .inl hn
    · exact .inr (weightsAll_mem hd n hn)

theorem cells28 : Tryd.prog.cellsOf 28 = 2 := by kernel_rfl
theorem cells9 : Tryd.prog.cellsOf 9 = 1 := by kernel_rfl
instance : Inhabited S28 := ⟨⟨⟨#[]⟩, ⟨#[]⟩⟩⟩

/-- A slice of pairs that came in: the pairs that it reads as. -/
theorem pairs_in {H : Type} {enc : TypeId × Value → H} {W : World} {a : Option Addr} {len cap : Nat} {d : DataW H} {ps : List MemPlace} (h : DataW.Trod enc Tryd.prog W 0 (fun _ => true) true 22 (.slice a len cap) d ps)
    (hw : ∀ n ∈ d.weights Tryd.prog 22, n ≤ reachBytes) :
    ∃ env : List S28, env.length = len ∧ len ≤ cap ∧ len ≤ 9223372036854775807 ∧ (∀ x ∈ env, x.f1.size ≤ 140737488351232) ∧ Kd.C k28 W a len env := by
  obtain ⟨fuel, hf⟩ := h
  rcases Deep.open_slice_pairs Tryd.underlying22 Tryd.underlying28 cells28 rfl rfl cells9 cells9 hf with ⟨hcs, _⟩ | ⟨a', l, c, m, n, V0, V1, D0, D1, P0, P1, hcs, hb, hl, hm, hmm, hx, hi⟩
  · simp [Value.cells] at hcs
    obtain ⟨rfl, rfl, rfl⟩ := hcs
    exact ⟨[], rfl, Nat.le_refl _, by omega, (fun x hx => by cases hx), rfl, by omega, fun h => absurd h (by omega)⟩
  · simp [Value.cells] at hcs
    obtain ⟨rfl, rfl, rfl⟩ := hcs
    have hlm : len ≤ m := by rw [hmm]; split <;> omega
    have hmx : len ≤ 9223372036854775807 := Nat.le_trans (Nat.le_trans hl hm) (by decide)
    have each : ∀ i, i < len → ∃ q : S28, W.cell? (a'.add (i * 2)) = some (.string q.f0) ∧ W.cell? (a'.add (i * 2 + 1)) = some (.string q.f1) ∧ D1 i = .lit (.string q.f1.data.toList) := fun i hlt => by
      obtain ⟨g0, g1, t0, t1⟩ := hi i (by omega)
      obtain ⟨s0, e0, x0, _⟩ := DataW.trod_string Tryd.underlying9 t0
      obtain ⟨s1, e1, x1, _⟩ := DataW.trod_string Tryd.underlying9 t1
      refine ⟨⟨s0, s1⟩, ?_, ?_, (Prod.mk.inj x1).1⟩
      · rw [g0, List.singleton_inj.1 e0]
      · rw [g1, List.singleton_inj.1 e1]
    obtain ⟨q, hq⟩ := Deep.choose_lt each
    have hd := (Prod.mk.inj hx).1
    refine ⟨(List.range len).map q, by simp, hl, hmx, fun x hxm => ?_, by simp, hmx, fun h0 => ⟨a', rfl, fun j p hj => ?_⟩⟩
    · obtain ⟨i, him, rfl⟩ := List.mem_map.1 hxm
      have hil := List.mem_range.1 him
      have h3 := (hq i hil).2.2
      rw [Lib.size_eq]
      refine hw _ ?_
      rw [hd]
      simp only [DataW.weights, Tryd.underlying22, List.mem_cons, List.mem_append]
      refine .inr (.inl (weightsAll_mem (List.mem_map.2 ⟨i, him, rfl⟩) _ ?_))
      simp only [DataW.weights, Tryd.underlying28, DataW.weightsEach, List.mem_append, h3, List.map_cons]
      simp
    · obtain ⟨hjl, hjp⟩ := List.getElem?_eq_some_iff.1 hj
      have hjl' : j < len := by simpa using hjl
      obtain rfl : q j = p := by simpa using hjp
      obtain ⟨g0, g1, _⟩ := hq j hjl'
      refine ⟨_, rfl, PVarFills.k28_mk _ (q j), fun i u hu => ?_⟩
      rcases i with _ | _ | i
      · obtain rfl : Value.string (q j).f0 = u := by simpa using hu
        exact g0
      · obtain rfl : Value.string (q j).f1 = u := by simpa using hu
        exact g1
      · simp at hu

/-! ### The row -/
set_option maxRecDepth 100000 in
theorem contract (H : Type) (enc : TypeId × Value → H) (W : World) (base : Nat) (args : Array Value) (ds gs : List (DataW H)) (before : List MemPlace)
    (hval : ∀ (j : Nat) t v, Tryd.f3.params[j]? = some t → args[j]? = some v → Value.okWide Tryd.prog W .any base t v)
    (hW : DataW.Whole enc Tryd.prog Tryd.f3.params.toList Rows.varFillsSpec.vars false W args.toList ds gs before)
    (hsz : (DataW.weightsEach Tryd.prog (Tryd.f3.params.toList ++ (OpenSpec.ofChange Rows.varFillsSpec).bare.plain.varTypes Tryd.prog) (ds ++ gs)).all (· ≤ reachBytes) = true)
    (hL : laidMetH Tryd.prog Rows.varFillsRow.laid W) (hsh : W.ShapedOpen Tryd.prog) :
    Calls Tryd.prog 3 args W fun e W' => ∃ v, e = .returned v ∧ Rows.varFillsSpec.post enc Tryd.prog Tryd.f3 false true false false W args v W' := by
  have hW' := hW
  obtain ⟨p, q, hA0, hV, rfl, hfz, hnd⟩ := hW
  have hA : DataW.TrodAll enc Tryd.prog W 0 (fun _ => true) true Tryd.f3.params.toList args.toList ds p := hA0
  rw [Tryd.params3] at hA hval hsz
  obtain ⟨v0, vs0, d0, ds0, p0, q0, hargs, rfl, rfl, h0, r0⟩ := trodAll_cons hA
  obtain ⟨v1, vs1, d1, ds1, p1, q1, rfl, rfl, rfl, h1, r1⟩ := trodAll_cons r0
  obtain ⟨rfl, rfl, rfl⟩ := trodAll_nil r1
  obtain rfl : args = #[v0, v1] := by cases args; simp_all
  obtain ⟨rfl, rfl⟩ := trodVars_none hV
  obtain ⟨s, rfl, rfl, rfl, ws⟩ := open_string Tryd.underlying9 (hval 0 9 v0 rfl rfl) h0
  obtain ⟨a, len, cap, rfl⟩ := okWide_slice Tryd.underlying22 (hval 1 22 v1 rfl rfl)
  have k1 := h1
  have lt1 : ∀ x ∈ p1, x.block < W.heap.size := by obtain ⟨m, hm⟩ := k1; exact DataW.trod_lt m _ _ _ hm
  obtain ⟨env, rfl, hcv, hel, hbig, hE⟩ := pairs_in h1 (fun n hn => of_decide_eq_true (List.all_eq_true.1 hsz _ (DataW.weights_mem_each (j := 1) (t := 22) rfl rfl n hn)))
  clear hA0 hsz
  refine (Law.varFills_law a cap env hcv hel hbig s W ⟨glob hsh, foldTab hL⟩ hE).mono fun e W' ⟨he, bel⟩ => ?_
  subst he
  exact ⟨_, rfl, _, _, _, [], _, [], hW', trodAll_mk1 (shut_bool Tryd.underlying4 _), (trodAll_cons_mk (shut_string Tryd.underlying9 ws) (trodAll_cons_mk (Below.trod laidOut (by kernel_rfl) (of_decide_eq_true (by kernel_rfl)) k1 bel lt1) trodAll_mk0)), rfl, bel.frame _, fun h => by cases h⟩

/-- A start for the witness: the listed tables laid. -/
noncomputable def laidWorld (os : Os) : World := World.laidAll Tryd.prog os Rows.varFillsRow.laid
noncomputable def inW (os : Os) : World := (laidWorld os).forCall (fun _ _ => 0) ⟨#[], #[.string ByteArray.empty, .slice none 0 0], []⟩
theorem laid_met (os : Os) : laidMetH Tryd.prog Rows.varFillsRow.laid (inW os).memory := by
  rw [MakeChecks.laidMetH_plain _ _ _ no_handle]
  exact laidMet_laidAll _ (by kernel_rfl) (by kernel_rfl)
theorem shaped (os : Os) : (inW os).Shaped Tryd.prog := World.shaped_of_ZipB (by kernel_rfl) (by kernel_rfl)
theorem reads (os : Os) {H : Type} (enc : TypeId × Value → H) : ∃ places, DataW.whole enc Tryd.prog (inW os).memory Tryd.f3.params.toList Rows.varFillsSpec.vars false #[Value.string ByteArray.empty, Value.slice none 0 0].toList 8 = some ([.lit (.string []), .nil], [], places) :=
  ⟨[], by kernel_rfl⟩
theorem okIn (os : Os) : Input.okWideB Tryd.prog (inW os) 3 ⟨#[], #[.string ByteArray.empty, .slice none 0 0], []⟩ = true := by kernel_rfl

set_option maxRecDepth 100000 in
theorem lifted (os : Os) (started : os.Started) (H : Type) (enc : TypeId × Value → H) (F : Stop.Interp) :
    ReturnsInHanded {} Tryd.checked os 3 .any ((OpenSpec.ofChange Rows.varFillsSpec).preRow enc Tryd.prog Tryd.f3 Rows.varFillsRow.domain false Rows.varFillsRow.laid) (((OpenSpec.ofChange Rows.varFillsSpec).at F).post enc Tryd.prog Tryd.f3 false true false false) := by
  obtain ⟨places, hx⟩ := reads os enc
  have hrow : (OpenSpec.ofChange Rows.varFillsSpec).preRow enc Tryd.prog Tryd.f3 Rows.varFillsRow.domain false Rows.varFillsRow.laid (inW os).memory #[.string ByteArray.empty, .slice none 0 0] :=
    OpenSpec.preRow_of_cond 8 hx (by kernel_rfl) (fun k hk => by cases hk) (by kernel_rfl) (laid_met os)
  refine returnsInHanded_of_row (C := Tryd.checked) (s := OpenSpec.ofChange Rows.varFillsSpec) own started (by kernel_rfl) Tryd.func3
    ⟨laidWorld os, fun _ _ => 0, ⟨#[], #[.string ByteArray.empty, .slice none 0 0], []⟩, World.laidAll_os _ _ _, shaped os, (Input.okWide_of_okWideB (base := 0) (okIn os)).1, (Input.okWide_of_okWideB (okIn os)).2, hrow, by
      simp only [Assume.holds]
      exact ⟨by simp, by simp, fun _ => Modest.zero, by simp, by simp⟩⟩ ?_
  intro W base args ds gs before hval hW _ _ hsz hL hsh _
  exact contract H enc W base args ds gs before hval hW hsz hL hsh

theorem said : Rows.VarFillsSaid :=
  OpenClaim.holds_of_cond 3 Tryd.f3 rfl rfl rfl rfl rfl rfl rfl ⟨rfl, rfl, rfl, rfl, rfl⟩ rfl rfl rfl rfl rfl (by kernel_rfl) Tryd.func3 (by kernel_rfl)
    (of_decide_eq_true (by kernel_rfl)) (by unfold Func.isWrapper; first | (rw [if_pos (by decide +kernel)]; kernel_rfl) | (rw [if_neg (by decide +kernel)]; exact ⟨rfl, rfl⟩))
    (fun os started H enc _ F => by rw [OpenClaim.pre_eq_preRow]; exact lifted os started H enc F)

/-- No parameter wants a stand-in; the program's own looks are off: what the card asks. -/
theorem plain (f : FuncId) (fn : Func) (hf : Tryd.pinned.checked.prog.funcNamed "clerestory/clerestorylaw2.VarFills" = some f) (hfn : Tryd.pinned.checked.prog.funcs[f]? = some fn) :
    false = Tryd.pinned.checked.prog.looks [] ∧ ∀ (j : Nat) t, fn.params[j]? = some t → Tryd.pinned.checked.prog.wantsStandIn t = false := by
  obtain rfl : f = 3 := Option.some.inj ((show Tryd.prog.funcNamed "clerestory/clerestorylaw2.VarFills" = some 3 by kernel_rfl).symm.trans hf) |>.symm
  obtain rfl : fn = Tryd.f3 := (Option.some.inj (Tryd.func3.symm.trans hfn)).symm
  refine ⟨by kernel_rfl, fun j t ht => ?_⟩
  rw [Tryd.params3] at ht
  have hm : t ∈ [9, 22] := by simpa using Array.mem_of_getElem? ht
  have hall : ([9, 22].all fun u => !Tryd.prog.wantsStandIn u) = true := by kernel_rfl
  exact (show Tryd.prog.wantsStandIn t = false by simpa using List.all_eq_true.1 hall t hm)

theorem card : Rows.VarFillsCardSaid :=
  Claim7.holds_tied_plain_at .later [] _ _ _ _ said (fun _ h => by cases h) (by kernel_rfl) (fun _ h => by cases h) varFills_row_tie rfl ⟨rfl, rfl⟩ (by kernel_rfl) rfl plain (by kernel_rfl)

end Card
theorem varFills_card : Rows.VarFillsCardSaid := Card.card
#print axioms varFills_card
end Go.Proofs.YtdjifjnophcnlaaDoor
