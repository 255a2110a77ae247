/-
  csstok.Number hands back some number and, as its second result, how many bytes the number has that begins the text (Sp.numLen), for strings of at most 400 bytes; what was there in memory stays.
  csstok.number hands back the token of a number with its unit (Sp.numTok), for strings of at most 400 bytes; what was there in memory stays.
-/
import Derived.Test.YtdjifjnophcnlaaDoorNamed
import Derived.Deep.DeepCutAuto
import Derived.Deep.CutBlock
import Derived.OneCell
set_option linter.unusedVariables false
set_option linter.unusedSimpArgs false

namespace Go.Proofs.YtdjifjnophcnlaaDoor.Number
open Go.RowKit

/-- A captured int at block B; all below stays. -/
def NInv (B : Nat) (w wr : World) : Prop := (∃ n : Int, wr.heap[B]? = some (.cells #[.int .i64 n] 3 (0, 0))) ∧ Below B w wr

theorem NInv.set {B : Nat} {w wr : World} (h : NInv B w wr) (n : Int) : NInv B w (wr.setCell ⟨B, 0, none⟩ (.int .i64 n)) := by
  obtain ⟨⟨m, hm⟩, hb⟩ := h
  exact ⟨⟨n, one_setCell hm⟩, hb.setCell (Nat.le_refl _) _⟩

/-- The closure writes the captured number. -/
theorem add_any (B : Nat) (c : UInt8) (n : Int) (w : World) (hc : w.cell? ⟨B, 0, none⟩ = some (.int .i64 n)) (hf : w.frozen? ⟨B, 0, none⟩ = false) :
    Calls Tryd.prog 70 #[.int .u8 (c.toNat : Int), .pointer (some ⟨B, 0, none⟩)] w fun e w' => ∃ m : Int, e = .returned (.tuple #[]) ∧ w' = w.setCell ⟨B, 0, none⟩ (.int .i64 m) := by
  go_enter Tryd.func70, Tryd.ntmps70
  go_wp2
  go_end0
  exact ⟨_, rfl, rfl⟩

/-- In the first loop: the captured int, and the row of digits behind it. -/
def J (B : Nat) (u : Sp.By) (w wr : World) : Prop := NInv B w wr ∧ Named.Row (B + 1) u wr

theorem row_far {b : Nat} {l : Sp.By} {w : World} (h : Named.Row b l w) {p : Addr} (hp : b ≠ p.block) (v : Value) : Named.Row b l (w.setCell p v) := by
  obtain ⟨cs, n, m, hh, r⟩ := h
  exact ⟨cs, n, m, (Below.heap_setCell w p v b hp).trans hh, r⟩

theorem J.start (w : World) (s : ByteArray) : J w.heap.size s.data.toList w (Lib.bytesWorld (w.alloc (.cells #[.int .i64 0] 3)) 5 s) := by
  have hs : (w.alloc (.cells #[.int .i64 0] 3)).heap.size = w.heap.size + 1 := by simp
  have hr := Named.Row.fresh (w.alloc (.cells #[.int .i64 0] 3)) s
  rw [hs] at hr
  refine ⟨⟨⟨0, ?_⟩, ?_⟩, hr⟩
  · rw [Lib.bytesWorld_at_old _ _ _ _ (by rw [hs]; omega)]; exact heap_alloc_new w _
  · refine ((Below.refl _ _).alloc (Nat.le_refl _) _).trans ⟨rfl, rfl, rfl, by rw [Lib.bytesWorld_size]; omega, fun i hi => Lib.bytesWorld_at_old _ _ _ _ (by rw [hs]; omega)⟩

theorem J.set {B : Nat} {u : Sp.By} {w wr : World} (h : J B u w wr) (n : Int) : J B u w (wr.setCell ⟨B, 0, none⟩ (.int .i64 n)) :=
  ⟨h.1.set n, row_far h.2 (by simp) _⟩

theorem add_J (B : Nat) (u : Sp.By) (w wr : World) (c : UInt8) (h : J B u w wr) :
    Calls Tryd.prog 70 #[.int .u8 (c.toNat : Int), .pointer (some ⟨B, 0, none⟩)] wr fun e w' => e = .returned (.tuple #[]) ∧ J B u w w' := by
  obtain ⟨⟨n, hn⟩, hb⟩ := h.1
  refine (add_any B c n wr (cell_of_one hn) (free_of_one hn)).mono ?_
  rintro e w' ⟨m, rfl, rfl⟩
  exact ⟨rfl, h.set m⟩
theorem add_N (B : Nat) (w wr : World) (c : UInt8) (h : NInv B w wr) :
    Calls Tryd.prog 70 #[.int .u8 (c.toNat : Int), .pointer (some ⟨B, 0, none⟩)] wr fun e w' => e = .returned (.tuple #[]) ∧ NInv B w w' := by
  obtain ⟨⟨n, hn⟩, hb⟩ := h
  refine (add_any B c n wr (cell_of_one hn) (free_of_one hn)).mono ?_
  rintro e w' ⟨m, rfl, rfl⟩
  exact ⟨rfl, NInv.set ⟨⟨n, hn⟩, hb⟩ m⟩

theorem add_N0 (B : Nat) (w wr : World) (h : NInv B w wr) :
    Calls Tryd.prog 70 #[.int .u8 48, .pointer (some ⟨B, 0, none⟩)] wr fun e w' => e = .returned (.tuple #[]) ∧ NInv B w w' := add_N B w wr 48 h

def Post (l : Sp.By) (w : World) (e : Ending) (w' : World) : Prop :=
  ∃ n : Int, e = .returned (.tuple #[.int .i64 n, .int .i64 (Sp.numLen l : Nat)]) ∧ Below w.heap.size w w'

theorem from_nil {s : ByteArray} (h : s.size = 0) : Sp.from_ s.data.toList = 0 := by
  have : s.data.toList = [] := List.eq_nil_of_length_eq_zero (by rw [← Lib.size_eq]; exact h)
  rw [this]; rfl
theorem from_cons {s : ByteArray} {a : UInt8} {r : Sp.By} (h : s.data.toList = a :: r) : Sp.from_ s.data.toList = if a.toNat = 43 ∨ a.toNat = 45 then 1 else 0 := by
  rw [h, Sp.from_]
  have : (a == 43 || a == 45) = decide (a.toNat = 43 ∨ a.toNat = 45) := by rw [Bool.eq_iff_iff]; simp [← UInt8.toNat_inj]
  rw [this]; simp
theorem from_le (s : ByteArray) : Sp.from_ s.data.toList ≤ 1 ∧ Sp.from_ s.data.toList ≤ s.size := by
  rw [Lib.size_eq]
  cases s.data.toList with
  | nil => simp [Sp.from_]
  | cons a r => simp only [Sp.from_, List.length_cons]; split <;> omega
theorem digs_le (l : Sp.By) : Sp.digs l ≤ l.length := by
  unfold Sp.digs; exact List.Sublist.length_le (List.takeWhile_sublist _)

/-- A dot begins a text, and what is behind it. -/
theorem dots_eq (l : Sp.By) : Sp.dots l = if Lib.hasPrefix l [46] then Sp.digs (l.drop 1) else 0 := by
  cases l with
  | nil => simp [Sp.dots, Lib.hasPrefix]
  | cons a r =>
    simp only [Sp.dots, Lib.hasPrefix, List.isPrefixOf, Bool.and_true, List.drop_succ_cons, List.drop_zero]
    by_cases h : a = 46
    · subst h; rfl
    · have h1 : (a == 46) = false := by simpa using h
      have h2 : ((46 : UInt8) == a) = false := by simpa using fun e => h e.symm
      rw [h1, h2]
theorem dots_le (l : Sp.By) : Sp.dots l ≤ l.length - 1 := by
  cases l with
  | nil => simp [Sp.dots]
  | cons a r => simp only [Sp.dots, List.length_cons]; split <;> (have := digs_le r; omega)

set_option maxHeartbeats 2000000 in
set_option maxRecDepth 100000 in
theorem number_any (s : ByteArray) (w : World) (hm : s.size ≤ 400) : Calls Tryd.prog 40 #[.string s] w (Post s.data.toList w) := by
  go_enter Tryd.func40, Tryd.ntmps40
  go_upto_region 2 with (fail)
  go_cut [26] (fun v26 wc => v26 = .bool (decide (Sp.from_ s.data.toList = 1)) ∧ w = wc)
  case first =>
    by_cases h0 : 0 < s.size
    · obtain ⟨a, r, ha, hl⟩ := Leaf.first_of s h0
      have HF := Lib.hid (from_cons hl)
      have he := Leaf.nonempty s h0
      have hne : (!s.toList.isEmpty) = true := by rw [he]; rfl
      clear hl
      by_cases h1 : a.toNat = 43
      · have hb1 : ((a.toNat : Int) == 43) = true := beq_iff_eq.2 (by omega)
        have H1 := Lib.hid h1
        clear h1
        go_wp2
        go_meet
        exact ⟨by rw [HF.out, if_pos (.inl H1.out)]; rfl, rfl⟩
      · have hb1 : ((a.toNat : Int) == 43) = false := beq_eq_false_iff_ne.2 (by omega)
        by_cases h2 : a.toNat = 45
        · have hb2 : ((a.toNat : Int) == 45) = true := beq_iff_eq.2 (by omega)
          have H2 := Lib.hid h2
          clear h2
          go_wp2
          go_meet
          exact ⟨by rw [HF.out, if_pos (.inr H2.out)]; rfl, rfl⟩
        · have hb2 : ((a.toNat : Int) == 45) = false := beq_eq_false_iff_ne.2 (by omega)
          go_wp2
          go_meet
          exact ⟨by rw [HF.out, if_neg (by omega)]; rfl, rfl⟩
    · have hl : s.data.toList = [] := List.eq_nil_of_length_eq_zero (by rw [← Lib.size_eq]; omega)
      have he : s.toList.isEmpty = true := by rw [Lib.toList_data, hl]; rfl
      have hne : (!s.toList.isEmpty) = false := by rw [he]; rfl
      have HF := Lib.hid (from_nil (s := s) (by omega))
      clear hl
      go_wp2
      go_meet
      exact ⟨by rw [HF.out]; rfl, rfl⟩
  case rest =>
    obtain ⟨rfl, rfl⟩ := hcut
    obtain ⟨hf1, hf2⟩ := from_le s
    obtain ⟨f, hf⟩ : ∃ f, Sp.from_ s.data.toList = f := ⟨_, rfl⟩
    have HF := Lib.hid hf
    rw [hf] at hf1 hf2 ⊢
    clear hf
    go_upto_if 26 with (fail)
    go_cut [4] (fun v4 wc => v4 = .int .i64 (f : Int) ∧ w = wc)
    case first =>
      by_cases h : f = 1
      · subst h
        go_wp2
        go_meet
        exact ⟨rfl, rfl⟩
      · obtain rfl : f = 0 := by omega
        go_wp2
        go_meet
        exact ⟨rfl, rfl⟩
    case rest =>
      obtain ⟨rfl, rfl⟩ := hcut
      have hx : (s.extract f s.size).data.toList = s.data.toList.drop f := Lib.extract_to_end s f
      have hxs : (s.extract f s.size).size ≤ 400 := by rw [Lib.size_eq, hx, List.length_drop, ← Lib.size_eq]; omega
      have hW : Sp.digs (s.data.toList.drop f) = Sp.whole s.data.toList := by rw [Sp.whole, HF.out]
      have C1 := Lib.hid (fun w => (hx ▸ Named.digits_any (s.extract f s.size) w hxs : Calls Tryd.prog 69 #[.string (s.extract f s.size)] w fun e w' => e = .returned (.int .i64 (Sp.digs (s.data.toList.drop f) : Nat)) ∧ Below w.heap.size w w'))
      rw [hW] at C1
      have hWle : Sp.whole s.data.toList ≤ s.size - f := by
        rw [← hW]; have := digs_le (s.data.toList.drop f); rw [List.length_drop, ← Lib.size_eq] at this; exact this
      obtain ⟨W, hWW⟩ : ∃ W, Sp.whole s.data.toList = W := ⟨_, rfl⟩
      rw [hWW] at C1 hWle
      have HW := Lib.hid hWW
      clear hW hWW hx hxs
      have hfW : f + W ≤ s.size := by omega
      have hy : (s.extract (f + W) s.size).data.toList = s.data.toList.drop (f + W) := Lib.extract_to_end s (f + W)
      have hys : (s.extract (f + W) s.size).size = s.size - (f + W) := by rw [Lib.size_eq, hy, List.length_drop, ← Lib.size_eq]
      have HY := Lib.hid hy
      obtain ⟨hd, hhd⟩ : ∃ hd, Lib.hasPrefix (s.data.toList.drop (f + W)) [46] = hd := ⟨_, rfl⟩
      have C2 := Lib.hid (fun w => (Tryd.strings_HasPrefix (s.extract (f + W) s.size) ⟨#[46]⟩ w))
      simp only [] at C2
      rw [hy, hhd] at C2
      obtain ⟨t, ht⟩ : ∃ t, s.extract (f + W) s.size = t := ⟨_, rfl⟩
      have HHD := Lib.hid hhd
      rw [ht] at hys C2 HY
      have HYS := Lib.hid hys
      have htz : t.size ≤ 400 := by omega
      clear hy hhd hys
      go_upto_if 37 with (first
        | (go_at_call 69; refine (C1.out _).mono ?_; rintro e w1 ⟨rfl, hb⟩; have HB1 := Lib.hid hb; clear hb)
        | (go_at_call 42; refine (C2.out _).mono ?_; rintro e w' ⟨rfl, rfl⟩))
      have hBle : Sp.behind s.data.toList ≤ s.size - (f + W) - 1 := by
        unfold Sp.behind
        rw [HF.out, HW.out]
        have := dots_le (s.data.toList.drop (f + W)); rw [List.length_drop, ← Lib.size_eq] at this; exact this
      have hBz : hd = true → 1 ≤ t.size := by
        intro h
        have := HHD.out
        rw [h] at this
        rw [HYS.out]
        rcases Nat.lt_or_ge (f + W) s.size with h1 | h1
        · omega
        · rw [List.drop_eq_nil_of_le (by rw [← Lib.size_eq]; exact h1)] at this; simp [Lib.hasPrefix] at this
      have hBd : Sp.behind s.data.toList = if hd then Sp.digs ((s.data.toList.drop (f + W)).drop 1) else 0 := by
        unfold Sp.behind
        rw [HF.out, HW.out, dots_eq, HHD.out]
      obtain ⟨D, hDD⟩ : ∃ D, Sp.behind s.data.toList = D := ⟨_, rfl⟩
      rw [hDD] at hBle hBd
      have HD := Lib.hid hDD
      clear hDD
      have HBz := Lib.hid hBz
      have HBd := Lib.hid hBd
      clear hBz hBd
      go_cut [6] (fun v6 wc => v6 = .int .i64 (D : Int) ∧ Hid (Below w.heap.size w wc))
      case first =>
        cases hd with
        | false =>
          go_wp2
          go_meet
          exact ⟨by rw [show D = 0 from HBd.out]; rfl, HB1⟩
        | true =>
          have h1 : 1 ≤ t.size := HBz.out rfl
          have hz : (t.extract 1 t.size).data.toList = (s.data.toList.drop (f + W)).drop 1 := by rw [Lib.extract_to_end, HY.out]
          have hzs : (t.extract 1 t.size).size ≤ 400 := by rw [Lib.size_eq, Lib.extract_to_end, List.length_drop, ← Lib.size_eq]; omega
          have C3 := Lib.hid (fun w => Named.digits_any (t.extract 1 t.size) w hzs)
          have hDq : D = Sp.digs ((s.data.toList.drop (f + W)).drop 1) := HBd.out
          rw [hz, ← hDq] at C3
          clear hz hzs hDq
          go_wp2_with (first
            | (go_at_call 69; refine (C3.out _).mono ?_; rintro e w2 ⟨rfl, hb⟩; have HB2 := Lib.hid (HB1.out.trans (hb.mono HB1.out.size)); clear hb))
          go_meet
          exact ⟨rfl, HB2⟩
      case rest =>
        clear HB1 HBd HBz C1 C2 HHD
        obtain ⟨rfl, HB2⟩ := hcut
        obtain ⟨w6, rfl⟩ : ∃ w6 : World, w6 = wc := ⟨_, rfl⟩
        by_cases hz : W + D = 0
        · have hb : (((W : Int) + (D : Int)) == 0) = true := beq_iff_eq.2 (by omega)
          have HN := Lib.hid (show Sp.numLen s.data.toList = 0 by unfold Sp.numLen; rw [HW.out, HD.out, if_pos hz])
          clear hz
          go_wp2
          go_ret2
          exact ⟨0, by rw [HN.out]; rfl, HB2.out⟩
        · have hb : (((W : Int) + (D : Int)) == 0) = false := beq_eq_false_iff_ne.2 (by omega)
          have HN := Lib.hid (show Sp.numLen s.data.toList = f + W + (if 0 < D then 1 + D else 0) by unfold Sp.numLen; rw [HW.out, HD.out, HF.out, if_neg hz])
          have h0 : 0 < s.size := by omega
          obtain ⟨n, hn⟩ : ∃ n, Sp.numLen s.data.toList = n := ⟨_, rfl⟩
          rw [hn] at HN
          have HNN := Lib.hid hn
          clear hz hn
          have kb := fun (W : World) (u : ByteArray) => Lib.run_convert_string_bytes (P := Tryd.prog) W 9 32 5 u Tryd.underlying9 Tryd.underlying32 Tryd.underlying5
          obtain ⟨B, hB⟩ : ∃ B, w6.heap.size = B := ⟨_, rfl⟩
          obtain ⟨u, hu⟩ : ∃ u, s.extract f (f + W) = u := ⟨_, rfl⟩
          have hus : u.size = W := by rw [← hu, Lib.size_eq, Lib.extract_data, List.length_take, List.length_drop, ← Lib.size_eq]; omega
          have hS := Lib.hid (J.start w6 u)
          rw [hB] at hS
          go_wp2
          have HBB := Lib.hid hB
          clear kb hB ht
          go_loopw [54] (fun i wr => ∃ (k : Nat), k ≤ W ∧ i = .int .i64 k ∧ Hid (J B u.data.toList w6 wr)) (fun i _ => W - (intOf i).toNat)
          case atStart => exact ⟨0, by omega, rfl, hS⟩
          case round =>
            clear hS
            obtain ⟨k, hk, rfl, HJ⟩ := hrel
            by_cases hlt : k < W
            · have hku : k < u.data.toList.length := by rw [← Lib.size_eq, hus]; exact hlt
              obtain ⟨c, hc⟩ : ∃ c : UInt8, u.data.toList[k] = c := ⟨_, rfl⟩
              have g0 := (HJ.out.2.cell k hku).1
              rw [hc] at g0
              clear hc
              have HUS := Lib.hid hus
              clear hus hu
              go_wp2_with (first
                | (go_at_call 70; refine (add_J _ _ _ _ c HJ.out).mono ?_; rintro e w2 ⟨rfl, hj⟩; have HJ2 := Lib.hid hj; clear hj))
              go_roundw
              case rel => exact ⟨k + 1, by omega, by go_num, HJ2⟩
              case measure => simp [intOf]; omega
            · obtain rfl : k = W := by omega
              clear hus hu
              have HNI := Lib.hid HJ.out.1
              go_upto_if 66 with (fail)
              clear HJ
              go_cut [12, 13] (fun v12 v13 wx => ∃ fr : ByteArray, v12 = .int .i64 (n : Int) ∧ v13 = .string fr ∧ fr.size ≤ 400 ∧ wx = wr)
              case first =>
                by_cases hD : 0 < D
                · have hn := HN.out
                  rw [if_pos hD] at hn
                  have hle : f + k + 1 + D ≤ s.size := by omega
                  have hfr : (s.extract (f + k + 1) (f + k + 1 + D)).size ≤ 400 := by rw [Lib.size_eq, Lib.extract_data, List.length_take]; omega
                  have hdb : decide (0 < D) = true := decide_eq_true hD
                  have HFR := Lib.hid hfr
                  have HNQ := Lib.hid hn
                  clear hfr hn
                  go_wp2
                  go_meet
                  exact ⟨_, by rw [HNQ.out]; go_num, rfl, HFR.out, rfl⟩
                · have hn := HN.out
                  rw [if_neg hD] at hn
                  have hdb : decide (0 < D) = false := decide_eq_false hD
                  have HNQ := Lib.hid hn
                  clear hn
                  go_wp2
                  go_meet
                  exact ⟨_, by rw [HNQ.out]; go_num, rfl, by decide, rfl⟩
              case rest =>
                obtain ⟨fr, rfl, rfl, hfr, rfl⟩ := hcut
                go_wp2
                go_loopw [79] (fun i wx => ∃ (j : Nat), j ≤ 3 ∧ i = .int .i64 j ∧ Hid (NInv B w6 wx)) (fun i _ => 3 - (intOf i).toNat)
                case atStart => exact ⟨0, by omega, rfl, HNI⟩
                case round =>
                  clear HNI
                  obtain ⟨j, hj, rfl, HNI⟩ := hrel
                  by_cases hj3 : j < 3
                  · by_cases hjf : j < fr.size
                    · obtain ⟨c, hc⟩ : ∃ c : UInt8, fr[j]'hjf = c := ⟨_, rfl⟩
                      have hd1 : decide ((j : Int) < (fr.size : Int)) = true := decide_eq_true (by omega)
                      go_wp2_with (first
                        | (go_at_call 70; refine (add_N _ _ _ c HNI.out).mono ?_; rintro e w2 ⟨rfl, hj⟩; have HJ2 := Lib.hid hj; clear hj))
                      go_roundw
                      case rel => exact ⟨j + 1, by omega, by go_num, HJ2⟩
                      case measure => simp [intOf]; omega
                    · have hd1 : decide ((j : Int) < (fr.size : Int)) = false := decide_eq_false (by omega)
                      go_wp2_with (first
                        | (go_at_call 70; refine (add_N0 _ _ _ HNI.out).mono ?_; rintro e w2 ⟨rfl, hj⟩; have HJ2 := Lib.hid hj; clear hj))
                      go_roundw
                      case rel => exact ⟨j + 1, by omega, by go_num, HJ2⟩
                      case measure => simp [intOf]; omega
                  · obtain rfl : j = 3 := by omega
                    obtain ⟨⟨n0, hn0⟩, hb0⟩ := HNI.out
                    have g0 := cell_of_one hn0
                    have g1 := free_of_one hn0
                    have HN0 := Lib.hid hn0
                    have HB0 := Lib.hid hb0
                    obtain ⟨a, r, ha, hl⟩ := Leaf.first_of s h0
                    clear hn0 hb0 hl
                    by_cases h45 : a.toNat = 45
                    · have hb45 : ((a.toNat : Int) == 45) = true := beq_iff_eq.2 (by omega)
                      clear h45
                      go_wp2
                      go_ret2
                      exact ⟨_, by rw [HNN.out]; rfl, HB2.out.trans (((HB0.out).mono (by rw [← HBB.out]; exact HB2.out.size)).setCell (by rw [← HBB.out]; exact HB2.out.size) _)⟩
                    · have hb45 : ((a.toNat : Int) == 45) = false := beq_eq_false_iff_ne.2 (by omega)
                      go_wp2
                      go_ret2
                      exact ⟨_, by rw [HNN.out]; rfl, HB2.out.trans ((HB0.out).mono (by rw [← HBB.out]; exact HB2.out.size))⟩

end Go.Proofs.YtdjifjnophcnlaaDoor.Number

namespace Go.Proofs.YtdjifjnophcnlaaDoor.Num
open Go.RowKit

/-- The token of a number of n bytes, with its unit. -/
def numTokN (l : Sp.By) (n : Nat) : Sp.T :=
  if (l.drop n).head? = some 37 then ⟨7, l.take (n + 1), [37]⟩
  else if Sp.beg (l.drop n) then ⟨7, l.take (n + (Sp.nam (l.drop n)).2), Sp.low (Sp.nam (l.drop n)).1⟩
  else ⟨7, l.take n, []⟩
theorem numTok_eq (l : Sp.By) : Sp.numTok l = numTokN l (Sp.numLen l) := rfl

theorem pct (l : Sp.By) : Lib.hasPrefix l [37] = decide (l.head? = some 37) := by
  cases l with
  | nil => simp [Lib.hasPrefix]
  | cons a r =>
    simp only [Lib.hasPrefix, List.isPrefixOf, Bool.and_true, List.head?_cons, Option.some.injEq]
    rw [Bool.eq_iff_iff]; simp; exact eq_comm

set_option maxHeartbeats 2000000 in
set_option maxRecDepth 100000 in
theorem number_any (s : ByteArray) (num : Int) (n : Nat) (w : World) (hm : s.size ≤ 400) (hn : n ≤ s.size) :
    Calls Tryd.prog 41 #[.string s, .int .i64 num, .int .i64 n] w (TokPost (numTokN s.data.toList n) w) := by
  have hy : (s.extract n s.size).data.toList = s.data.toList.drop n := Lib.extract_to_end s n
  have hys : (s.extract n s.size).size = s.size - n := by rw [Lib.size_eq, hy, List.length_drop, ← Lib.size_eq]
  obtain ⟨t, ht⟩ : ∃ t, s.extract n s.size = t := ⟨_, rfl⟩
  rw [ht] at hy hys
  have htz : t.size ≤ 400 := by omega
  have C1 := Lib.hid (fun w => Tryd.strings_HasPrefix t ⟨#[37]⟩ w)
  simp only [] at C1
  rw [hy, pct] at C1
  by_cases hp : (s.data.toList.drop n).head? = some 37
  · rw [decide_eq_true hp] at C1
    have hlt : n < s.size := by
      rcases Nat.lt_or_ge n s.size with h | h
      · exact h
      · rw [List.drop_eq_nil_of_le (by rw [← Lib.size_eq]; exact h)] at hp; simp at hp
    have HR := Lib.hid (show numTokN s.data.toList n = ⟨7, s.data.toList.take (n + 1), [37]⟩ by unfold numTokN; rw [if_pos hp])
    clear hp hy hys
    go_enter Tryd.func41, Tryd.ntmps41
    go_wp2_with (first
      | (go_at_call 42; refine (C1.out _).mono ?_; rintro e w' ⟨rfl, rfl⟩))
    refine Tok.ret rfl rfl ((Tok.At.new w _ _ _ _).alloc _) rfl ⟨num, ?_, ?_⟩
    · rw [HR.out, Lib.extract_upto]
    · exact ((Below.refl _ _).alloc (Nat.le_refl _) _).alloc (by simp) _
  · rw [decide_eq_false hp] at C1
    rcases hb : Sp.beg (s.data.toList.drop n) with _ | _
    · have HR := Lib.hid (show numTokN s.data.toList n = ⟨7, s.data.toList.take n, []⟩ by unfold numTokN; rw [if_neg hp, if_neg (by simp [hb])])
      have C2 := Lib.hid (fun w => Leaf.begins_of t w (by omega) ((congrArg Sp.beg hy).trans hb))
      clear hp hy hys hb
      go_enter Tryd.func41, Tryd.ntmps41
      go_wp2_with (first
        | (go_at_call 42; refine (C1.out _).mono ?_; rintro e w' ⟨rfl, rfl⟩)
        | (go_at_call 39; refine (C2.out _).mono ?_; rintro e w' ⟨rfl, rfl⟩))
      refine Tok.ret rfl rfl ((Tok.At.new w _ _ _ _).alloc _) rfl ⟨num, ?_, ?_⟩
      · rw [HR.out, Lib.extract_upto]
      · exact ((Below.refl _ _).alloc (Nat.le_refl _) _).alloc (by simp) _

    · have hc := fun w => Name.name_any t w htz
      rw [hy] at hc
      have hle : (Sp.nam (s.data.toList.drop n)).2 ≤ s.size - n := by
        have := (Named.nam_le (s.data.toList.drop n)).1; rw [List.length_drop, ← Lib.size_eq] at this; exact this
      have hle1 : (Sp.nam (s.data.toList.drop n)).1.length ≤ s.size - n := by
        have := (Named.nam_le (s.data.toList.drop n)).2; rw [List.length_drop, ← Lib.size_eq] at this; exact this
      have HR := Lib.hid (show numTokN s.data.toList n = ⟨7, s.data.toList.take (n + (Sp.nam (s.data.toList.drop n)).2), Sp.low (Sp.nam (s.data.toList.drop n)).1⟩ by unfold numTokN; rw [if_neg hp, if_pos hb])
      have C2 := Lib.hid (fun w => Leaf.begins_of t w (by omega) ((congrArg Sp.beg hy).trans hb))
      obtain ⟨p, hpp⟩ : ∃ p, Sp.nam (s.data.toList.drop n) = p := ⟨_, rfl⟩
      unfold Name.Post at hc
      rw [hpp] at hc hle hle1 HR
      have HC := Lib.hid hc
      obtain ⟨m, v⟩ := p
      simp only at hle hle1
      have C4 := Lib.hid (fun w => Named.lower_any (⟨m.toArray⟩ : ByteArray) w (by rw [Lib.size_eq]; show m.length ≤ 400; omega))
      simp only [] at C4 HR
      have hle2 : n + v ≤ s.size := by omega
      have hx1 : (n : Int) + (v : Int) ≤ (s.size : Int) := by omega
      have hw1 : IntKind.i64.wrap ((n : Int) + (v : Int)) = (n : Int) + (v : Int) := IntWalk.i64_in _ (by omega)
      have hw2 : (0 : Int) ≤ (n : Int) + (v : Int) := by omega
      have hw3 : ((n : Int) + (v : Int)).toNat = n + v := by omega
      clear hp hy hys hb hpp hc
      go_enter Tryd.func41, Tryd.ntmps41
      go_upto_region 7 with (first
        | (go_at_call 42; refine (C1.out _).mono ?_; rintro e w' ⟨rfl, rfl⟩)
        | (go_at_call 39; refine (C2.out _).mono ?_; rintro e w' ⟨rfl, rfl⟩)
        | (go_at_call 68; refine (HC.out _).mono ?_; rintro e w1 ⟨rfl, hb⟩; have HB1 := Lib.hid hb; have hA := (Tok.At.new (w.alloc _) _ _ _ _).below hb (by simp); rw [show ∀ o, (w.alloc o).heap.size = w.heap.size + 1 from fun o => by simp] at hA; have HA := Lib.hid hA; clear hA; have HA0 := Lib.hid (((Tok.At.new w _ _ _ _).alloc _).below hb (by simp; omega)); clear hb))
      obtain ⟨⟨g0, g1, g2, g3⟩, f0, f1, f2, f3⟩ := HA.out.cells
      have hbs : w.heap.size + 1 < w1.heap.size := by have := HA.out.lt; exact this
      go_region_with (first
        | (go_at_call 71; refine (C4.out _).mono ?_; rintro e w2 ⟨rfl, hb⟩; have HB2 := Lib.hid hb; have HAA := Lib.hid (Tok.At.below HA.out.drew hb HA.out.drew.lt); clear hb; clear g0 g1 g2 g3 f0 f1 f2 f3; obtain ⟨⟨g0, g1, g2, g3⟩, f0, f1, f2, f3⟩ := HAA.out.cells))
      have HR0 := Lib.hid (Tok.At.below HA0.out.drew HB2.out HA0.out.drew.lt)
      obtain ⟨⟨r0, r1, r2, r3⟩, q0, q1, q2, q3⟩ := HR0.out.cells
      go_wp2
      refine Tok.ret rfl rfl (((((((HR0.out.far (by simp) _).far (by simp) _).set0 _).set1 _).set2 _).set3 _)) rfl ⟨num, ?_, ?_⟩
      · rw [HR.out, Lib.extract_upto]
      · have hb0 := ((((Below.refl w.heap.size w).alloc (Nat.le_refl _) _).alloc (by simp) _).trans (HB1.out.mono (by simp; omega))).drew.trans (HB2.out.mono (by have := HB1.out.size; simp at this ⊢; omega))
        exact (((((hb0.setCell (by simp) _).setCell (by simp) _).setCell (Nat.le_refl _) _).setCell (Nat.le_refl _) _).setCell (Nat.le_refl _) _).setCell (Nat.le_refl _) _

end Go.Proofs.YtdjifjnophcnlaaDoor.Num
