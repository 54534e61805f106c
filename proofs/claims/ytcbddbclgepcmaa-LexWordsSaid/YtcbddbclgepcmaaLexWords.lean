/- LexWords: what it comes to. -/
import Derived.Test.YtcbddbclgepcmaaLexKn
import Derived.Test.YtcbddbclgepcmaaWordsPlain
import Derived.Test.YtcbddbclgepcmaaOpen
import Derived.Deep.QuietTactic
import Derived.BigQuiet
import Derived.Test.YtcbddbclgepcmaaTable
import Derived.Deep.Cut
import Derived.Deep.WholeRow
namespace Go.Proofs.Ytcbddbclgepcmaa
open Go.RowKit Go.Tap
set_option linter.unusedVariables false

theorem Try.infoI : (Try.prog.info? 3).map (fun i => (i.zero, i.size, i.bytes)) = some (some (.int .i64 0), 1, 8) := by kernel_rfl
def iv (l : List Nat) : List Value := l.map fun (k : Nat) => .int .i64 (k : Int)
def tabW : Array Value := #[.string ⟨#[111, 114]⟩, .string ⟨#[97, 110, 100]⟩, .string ⟨#[110, 111, 116]⟩, .string ⟨#[109, 105, 110, 117, 115]⟩, .string ⟨#[111, 114, 98]⟩, .string ⟨#[120, 97, 110, 100]⟩, .string ⟨#[110, 111, 116, 115]⟩, .string ⟨#[77, 105, 110, 117, 115]⟩, .string ⟨#[40]⟩, .string ⟨#[41]⟩, .string ⟨#[44]⟩, .string ⟨#[58, 58]⟩, .string ⟨#[46, 46]⟩, .string ⟨#[43]⟩, .string ⟨#[124]⟩, .string ⟨#[45]⟩, .string ⟨#[38]⟩, .string ⟨#[33]⟩, .string ⟨#[97, 98, 49, 50]⟩, .string ⟨#[95]⟩]
def tabK : Array Value := #[.int .i64 7, .int .i64 9, .int .i64 10, .int .i64 8, .int .i64 1, .int .i64 1, .int .i64 1, .int .i64 1, .int .i64 2, .int .i64 3, .int .i64 4, .int .i64 5, .int .i64 6, .int .i64 7, .int .i64 7, .int .i64 8, .int .i64 9, .int .i64 10, .int .i64 1, .int .i64 1]
theorem str_app (a b : List UInt8) : str a ++ str b = str (a ++ b) := by
  apply ByteArray.ext; simp [str]
theorem iv_length (l : List Nat) : (iv l).length = l.length := by simp [iv]
theorem iv_snoc (l : List Nat) (k : Nat) : iv (l ++ [k]) = iv l ++ [.int .i64 (k : Int)] := by simp [iv]
theorem tabW_get (k : Nat) (h : k < 20) : tabW[k]? = some (.string (str (Lx.wrd k))) := by
  rcases (show k = 0 ∨ k = 1 ∨ k = 2 ∨ k = 3 ∨ k = 4 ∨ k = 5 ∨ k = 6 ∨ k = 7 ∨ k = 8 ∨ k = 9 ∨ k = 10 ∨ k = 11 ∨ k = 12 ∨ k = 13 ∨ k = 14 ∨ k = 15 ∨ k = 16 ∨ k = 17 ∨ k = 18 ∨ k = 19 by omega) with
    rfl | rfl | rfl | rfl | rfl | rfl | rfl | rfl | rfl | rfl | rfl | rfl | rfl | rfl | rfl | rfl | rfl | rfl | rfl | rfl <;> rfl
theorem tabK_get (k : Nat) (h : k < 20) : tabK[k]? = some (.int .i64 (Lx.knd k : Int)) := by
  rcases (show k = 0 ∨ k = 1 ∨ k = 2 ∨ k = 3 ∨ k = 4 ∨ k = 5 ∨ k = 6 ∨ k = 7 ∨ k = 8 ∨ k = 9 ∨ k = 10 ∨ k = 11 ∨ k = 12 ∨ k = 13 ∨ k = 14 ∨ k = 15 ∨ k = 16 ∨ k = 17 ∨ k = 18 ∨ k = 19 by omega) with
    rfl | rfl | rfl | rfl | rfl | rfl | rfl | rfl | rfl | rfl | rfl | rfl | rfl | rfl | rfl | rfl | rfl | rfl | rfl | rfl <;> rfl
theorem wdy_ways (k : Nat) : (decide ((k : Int) < 8) = true ∧ Hid (Lx.wdy k = true)) ∨ (decide ((k : Int) < 8) = false ∧ decide ((17 : Int) < (k : Int)) = true ∧ Hid (Lx.wdy k = true)) ∨ (decide ((k : Int) < 8) = false ∧ decide ((17 : Int) < (k : Int)) = false ∧ Hid (Lx.wdy k = false)) := by
  unfold Lx.wdy
  by_cases h1 : k < 8
  · exact .inl ⟨decide_eq_true (by omega), by simp [Hid, h1]⟩
  · by_cases h2 : 17 < k
    · exact .inr (.inl ⟨decide_eq_false (by omega), decide_eq_true (by omega), by simp [Hid, h2]⟩)
    · exact .inr (.inr ⟨decide_eq_false (by omega), decide_eq_false (by omega), by simp [Hid, h1, h2]⟩)
theorem its_step (n i : Nat) (xs gs : List Int) (x : Int) (hx : xs[i]? = some x) : Lx.its (n + 1) (xs.drop i) (gs.drop i) = ((x % 20).toNat, match gs[i]? with | none => false | some y => decide (y % 2 = 0)) :: Lx.its n (xs.drop (i + 1)) (gs.drop (i + 1)) := by
  obtain ⟨h, rfl⟩ := List.getElem?_eq_some_iff.1 hx
  rw [List.drop_eq_getElem_cons h]
  have e : (gs.drop i).tail = gs.drop (i + 1) := by rw [List.tail_drop]
  cases hg : gs[i]? with
  | none =>
    have : gs.drop i = [] := List.drop_eq_nil_of_le (by simpa using hg)
    have h2 : gs.drop (i + 1) = [] := List.drop_eq_nil_of_le (by have : gs.length ≤ i := by simpa using hg
                                                                 omega)
    simp only [Lx.its, this, h2, List.tail_nil]
  | some y =>
    obtain ⟨h', rfl⟩ := List.getElem?_eq_some_iff.1 hg
    have e2 := List.drop_eq_getElem_cons h'
    simp only [Lx.its, e]
    rw [e2]
theorem glue_ways (w : World) (a1 : Option Addr) (n1 c1 : Nat) (gs : List Int) (i : Nat) (hl1 : gs.length = n1)
    (H1 : 0 < n1 → ∃ b o, a1 = some ⟨b, o, none⟩ ∧ ∀ (i : Nat) (x : Int), gs[i]? = some x → w.cell? ⟨b, o + i * 1, none⟩ = some (.int .i64 x) ∧ -9223372036854775808 ≤ x ∧ x ≤ 9223372036854775807) :
    ∃ gl, Hid ((match gs[i]? with | none => false | some y => decide (y % 2 = 0)) = gl) ∧ ((decide ((i : Int) < (n1 : Int)) = false ∧ decide (i < n1) = false ∧ Hid (gl = false)) ∨ ∃ b o y, a1 = some ⟨b, o, none⟩ ∧ decide ((i : Int) < (n1 : Int)) = true ∧ decide (i < n1) = true ∧ w.cell? ⟨b, o + i, none⟩ = some (.int .i64 y) ∧ ((y.tmod 2 == 0) = true ∧ Hid (gl = true) ∨ (y.tmod 2 == 0) = false ∧ Hid (gl = false))) := by
  by_cases h : i < n1
  · obtain ⟨b, o, rfl, hx⟩ := H1 (by omega)
    obtain ⟨y, hy⟩ : ∃ y, gs[i]? = some y := ⟨_, List.getElem?_eq_getElem (by omega)⟩
    have := (hx i y hy).1
    rw [Nat.mul_one] at this
    refine ⟨decide (y % 2 = 0), by rw [hy]; rfl, .inr ⟨b, o, y, rfl, decide_eq_true (by omega), decide_eq_true h, this, ?_⟩⟩
    have e : (y.tmod 2 = 0) ↔ y % 2 = 0 := by rw [← Int.dvd_iff_tmod_eq_zero, Int.dvd_iff_emod_eq_zero]
    by_cases h2 : y % 2 = 0
    · exact .inl ⟨by simpa using e.2 h2, by simp [Hid, h2]⟩
    · exact .inr ⟨by simpa using fun h => h2 (e.1 h), by simp [Hid, h2]⟩
  · exact ⟨false, by rw [List.getElem?_eq_none (by omega)]; rfl, .inl ⟨decide_eq_false (by omega), decide_eq_false h, rfl⟩⟩
theorem build_cons (last k : Nat) (gl : Bool) (r : List (Nat × Bool)) : Lx.build last ((k, gl) :: r) = ((if Lx.gap last (k, gl) = true then [32] else []) ++ Lx.wrd k) ++ Lx.build k r := by simp [Lx.build]
theorem its_end (n : Nat) (gs : List Int) : Lx.its n [] gs = [] := by cases n <;> rfl
set_option maxHeartbeats 2000000 in
set_option maxRecDepth 100000 in
theorem lexWords_walk (w : World) (a0 : Option Addr) (n0 c0 : Nat) (xs : List Int) (g0 : ArgI 140737488351232 w a0 n0 c0 xs) (a1 : Option Addr) (n1 c1 : Nat) (gs : List Int) (g1 : ArgI 140737488351232 w a1 n1 c1 gs) :
    Calls Try.prog 6 #[.slice a0 n0 c0, .slice a1 n1 c1] w fun e w' => e = .returned (.bool true) ∧ Below w.heap.size w w' := by
  go_enter Try.func6, Try.ntmps6
  have ia : (Try.prog.info? 50).map (fun i => (i.zero, i.size)) = some (some (.agg (Array.replicate 20 (.string ⟨#[]⟩))), tabW.size) := by kernel_rfl
  have ib : (Try.prog.info? 51).map (fun i => (i.zero, i.size)) = some (some (.agg (Array.replicate 20 (.int .i64 0))), tabK.size) := by kernel_rfl
  go_upto_region 1 with (fail)
  refine wp_region_lit ?_
  refine wpList_tab 50 _ 16 5 tabW _ rfl rfl rfl rfl rfl rfl rfl rfl rfl (by kernel_rfl) ia rfl (by kernel_rfl) (by decide) (Nat.le_of_ble_eq_true rfl) (Nat.le_of_ble_eq_true rfl) ?_
  go_upto_region 2 with (fail)
  refine wp_region_lit ?_
  refine wpList_tab 51 _ 17 6 tabK _ rfl rfl rfl rfl rfl rfl rfl rfl rfl (by kernel_rfl) ib rfl (by kernel_rfl) (by decide) (Nat.le_of_ble_eq_true rfl) (Nat.le_of_ble_eq_true rfl) ?_
  obtain ⟨tot, htot⟩ : ∃ tot, tot = Lx.its 60 xs gs := ⟨_, rfl⟩
  have hT1 : ((w.alloc (.cells tabW 50)).alloc (.cells tabK 51)).heap[w.heap.size]? = some (.cells tabW 50 (0, 0)) := (Below.heap_alloc _ _ _ (by simp)).trans (heap_alloc_new _ _)
  have hT2 : ((w.alloc (.cells tabW 50)).alloc (.cells tabK 51)).heap[w.heap.size + 1]? = some (.cells tabK 51 (0, 0)) := by
    have := heap_alloc_new (w.alloc (.cells tabW 50)) (.cells tabK 51)
    rwa [World.size_alloc] at this
  have hB0 : Below w.heap.size w ((w.alloc (.cells tabW 50)).alloc (.cells tabK 51)) := ((Below.refl _ _).alloc (Nat.le_refl _) _).alloc (by simp) _
  have hS1 : ((w.alloc (.cells tabW 50)).alloc (.cells tabK 51)).heap.size = w.heap.size + 2 := by simp
  rw [World.size_alloc]
  generalize ((w.alloc (.cells tabW 50)).alloc (.cells tabK 51)) = w1 at hT1 hT2 hB0 hS1 ⊢
  obtain ⟨ii, hii, hi0, hi1, hi2⟩ := info_parts Try.infoI
  have hl0 := g0.len
  have hl1 := g1.len
  have hc0 := g0.reach
  have hc1 := g1.reach
  have hle0 := g0.le
  have hle1 := g1.le
  have H0 := Lib.hid g0.at_
  have H1 := Lib.hid g1.at_
  clear g0 g1 ia ib
  have HT := Lib.hid htot
  clear htot
  go_wp2
  go_loopw [7, 8, 9, 10, 11, 12] (fun s v la t _ _ wr => ∃ (i : Nat) (b : List UInt8) (ks : List Nat) (last : Nat), i ≤ n0 ∧ i ≤ 60 ∧ ks.length = i ∧ last < 20 ∧ b.length ≤ 6 * i ∧ s = .string (str b) ∧ la = .int .i64 (last : Int) ∧ t = .int .i64 (i : Int) ∧ wr.ownsRow w1.heap.size 3 1 v ks.length (iv ks) ∧
    Hid (Lx.build 8 tot = b ++ Lx.build last (Lx.its (60 - i) (xs.drop i) (gs.drop i))) ∧ Hid (tot.map (fun x => Lx.knd x.1) = ks ++ (Lx.its (60 - i) (xs.drop i) (gs.drop i)).map (fun x => Lx.knd x.1)) ∧ Below w1.heap.size w1 wr) (fun _ _ _ t _ _ _ => 60 - (intOf t).toNat)
  case atStart => exact ⟨0, [], [], 8, Nat.zero_le _, Nat.zero_le _, rfl, by omega, Nat.zero_le _, rfl, rfl, rfl, World.ownsRow_nil _ _ _ _, by rw [HT.out]; simp [Hid], by rw [HT.out]; simp [Hid], Below.refl _ _⟩
  case round =>
    obtain ⟨i, b, ks, last, hin, hi60, hkl, hlast, hbl, rfl, rfl, rfl, hown, HB, HK, hb⟩ := hrel
    by_cases hlt : i < n0 ∧ i < 60
    · obtain ⟨hlt1, hlt2⟩ := hlt
      have d1 : decide ((i : Int) < (n0 : Int)) = true := decide_eq_true (by omega)
      have d2 : decide ((i : Int) < 60) = true := decide_eq_true (by omega)
      obtain ⟨bk, o, rfl, hx⟩ := H0.out (by omega)
      obtain ⟨x, hxs⟩ : ∃ x, xs[i]? = some x := ⟨_, List.getElem?_eq_getElem (by omega)⟩
      obtain ⟨hcx, hx0, hx1⟩ := hx i x hxs
      rw [Nat.mul_one] at hcx
      have hlt0 := block_lt_of_cell hcx
      have hb1 : Below w.heap.size w wr := hB0.trans (hb.mono hB0.size)
      have hcw : wr.cell? ⟨bk, o + i, none⟩ = some (.int .i64 x) := (hb1.cell hlt0).trans hcx
      obtain ⟨k, hk⟩ : ∃ k : Nat, x % 20 = (k : Int) := Int.eq_ofNat_of_zero_le (Int.emod_nonneg _ (by omega))
      have hk20 : k < 20 := by have := Int.emod_lt_of_pos x (show (0 : Int) < 20 by omega); omega
      obtain ⟨gl, HG, hglue⟩ := glue_ways wr a1 n1 c1 gs i hl1 (fun h => by
        obtain ⟨b, o, e, hy⟩ := H1.out h
        exact ⟨b, o, e, fun i y hi => ⟨(hb1.cell (block_lt_of_cell (hy i y hi).1)).trans (hy i y hi).1, (hy i y hi).2⟩⟩)
      have hsp := its_step (59 - i) i xs gs x hxs
      rw [show 59 - i + 1 = 60 - i by omega, HG.out, hk, Int.toNat_natCast] at hsp
      rw [hsp] at HB HK
      have HK1 := Lib.hid hk
      have hcW := blk_cell ((hb.block _ (by omega)).trans hT1) (tabW_get k hk20)
      have hcK := blk_cell ((hb.block _ (by omega)).trans hT2) (tabK_get k hk20)
      have hdk : decide ((k : Int) < 20) = true := decide_eq_true (by omega)
      clear hcx hx hk hsp HG
      have hsb : (str b).size = b.length := rfl
      have hsb2 : (str b ++ ⟨#[32]⟩).size = b.length + 1 := by rw [show (⟨#[32]⟩ : ByteArray) = str [32] from rfl, str_app]; simp [str, ByteArray.size]
      have hsw : (str (Lx.wrd k)).size = (Lx.wrd k).length := rfl
      have hwl := (Lx.wrd_len k).2
      have hbl2 : b.length ≤ 360 := by omega
      go_wp2_with fail
      refine (pick_any _ x 20 hx0 hx1 (by omega) (by omega)).mono ?_
      rw [HK1.out]
      rintro e w' ⟨rfl, rfl⟩
      rcases wdy_ways k with ⟨e1, f1⟩ | ⟨e1, e2, f1⟩ | ⟨e1, e2, f1⟩
      · rcases wdy_ways last with ⟨e3, f3⟩ | ⟨e3, e4, f3⟩ | ⟨e3, e4, f3⟩
        · have hgap := Lib.hid (show Lx.gap last (k, gl) = true by simp [Lx.gap, f1.out, f3.out])
          go_wp2_with (at_builtin; refine wpList_append_one _ rfl (.tmp 69) (.tmp 73) 39 rfl w1.heap.size 3 ii _ 1 8 Try.underlying39 hii hi0 hi1 hi2 rfl (by decide) _ ks.length (iv ks) rfl (hown.alloc _) _ 1 _ _ rfl (heap_alloc_new _ _) rfl (by intro u hu; simp at hu; rcases hu with rfl; rfl) (by omega) (by omega) (by have := hb.size; simp; omega) ?_)
          intro v' w3 hown3 hg
          go_wp2
          go_roundw
          case rel =>
            refine ⟨i + 1, b ++ ((if Lx.gap last (k, gl) = true then [32] else []) ++ Lx.wrd k), ks ++ [Lx.knd k], k, by omega, by omega, by simp [hkl], hk20, by rw [hgap.out]; simp; omega, ?_, rfl, by go_num, ?_, ?_, ?_, (hb.alloc hb.size _).grown hg (by have := hb.size; simp; omega) (by intro j hj; exact (hown.lt j hj).1)⟩
            · rw [hgap.out, show (⟨#[32]⟩ : ByteArray) = str [32] from rfl, str_app, str_app]; simp
            · rw [iv_snoc, List.length_append]; simpa [hkl, hS1] using hown3
            · rw [show 60 - (i + 1) = 59 - i by omega]; show _ = _; rw [HB.out, build_cons]; simp only [List.append_assoc]
            · rw [show 60 - (i + 1) = 59 - i by omega]; show _ = _; rw [HK.out, List.map_cons, List.append_assoc]; rfl
          case measure => first | (simp [intOf]; done) | (simp [intOf]; omega)
        · have hgap := Lib.hid (show Lx.gap last (k, gl) = true by simp [Lx.gap, f1.out, f3.out])
          go_wp2_with (at_builtin; refine wpList_append_one _ rfl (.tmp 69) (.tmp 73) 39 rfl w1.heap.size 3 ii _ 1 8 Try.underlying39 hii hi0 hi1 hi2 rfl (by decide) _ ks.length (iv ks) rfl (hown.alloc _) _ 1 _ _ rfl (heap_alloc_new _ _) rfl (by intro u hu; simp at hu; rcases hu with rfl; rfl) (by omega) (by omega) (by have := hb.size; simp; omega) ?_)
          intro v' w3 hown3 hg
          go_wp2
          go_roundw
          case rel =>
            refine ⟨i + 1, b ++ ((if Lx.gap last (k, gl) = true then [32] else []) ++ Lx.wrd k), ks ++ [Lx.knd k], k, by omega, by omega, by simp [hkl], hk20, by rw [hgap.out]; simp; omega, ?_, rfl, by go_num, ?_, ?_, ?_, (hb.alloc hb.size _).grown hg (by have := hb.size; simp; omega) (by intro j hj; exact (hown.lt j hj).1)⟩
            · rw [hgap.out, show (⟨#[32]⟩ : ByteArray) = str [32] from rfl, str_app, str_app]; simp
            · rw [iv_snoc, List.length_append]; simpa [hkl, hS1] using hown3
            · rw [show 60 - (i + 1) = 59 - i by omega]; show _ = _; rw [HB.out, build_cons]; simp only [List.append_assoc]
            · rw [show 60 - (i + 1) = 59 - i by omega]; show _ = _; rw [HK.out, List.map_cons, List.append_assoc]; rfl
          case measure => first | (simp [intOf]; done) | (simp [intOf]; omega)
        · rcases hglue with ⟨e5, e6, f5⟩ | ⟨b1, o1, y, rfl, e5, e6, hcy, ⟨e7, f5⟩ | ⟨e7, f5⟩⟩
          · have hgap := Lib.hid (show Lx.gap last (k, gl) = false by simp [Lx.gap, f1.out, f3.out, f5.out])
            go_wp2_with (at_builtin; refine wpList_append_one _ rfl (.tmp 69) (.tmp 73) 39 rfl w1.heap.size 3 ii _ 1 8 Try.underlying39 hii hi0 hi1 hi2 rfl (by decide) _ ks.length (iv ks) rfl (hown.alloc _) _ 1 _ _ rfl (heap_alloc_new _ _) rfl (by intro u hu; simp at hu; rcases hu with rfl; rfl) (by omega) (by omega) (by have := hb.size; simp; omega) ?_)
            intro v' w3 hown3 hg
            go_wp2
            go_roundw
            case rel =>
              refine ⟨i + 1, b ++ ((if Lx.gap last (k, gl) = true then [32] else []) ++ Lx.wrd k), ks ++ [Lx.knd k], k, by omega, by omega, by simp [hkl], hk20, by rw [hgap.out]; simp; omega, ?_, rfl, by go_num, ?_, ?_, ?_, (hb.alloc hb.size _).grown hg (by have := hb.size; simp; omega) (by intro j hj; exact (hown.lt j hj).1)⟩
              · rw [hgap.out, str_app]; simp
              · rw [iv_snoc, List.length_append]; simpa [hkl, hS1] using hown3
              · rw [show 60 - (i + 1) = 59 - i by omega]; show _ = _; rw [HB.out, build_cons]; simp only [List.append_assoc]
              · rw [show 60 - (i + 1) = 59 - i by omega]; show _ = _; rw [HK.out, List.map_cons, List.append_assoc]; rfl
            case measure => first | (simp [intOf]; done) | (simp [intOf]; omega)
          · have e8 : i < n1 := of_decide_eq_true e6
            have hgap := Lib.hid (show Lx.gap last (k, gl) = true by simp [Lx.gap, f1.out, f3.out, f5.out])
            go_wp2_with (at_builtin; refine wpList_append_one _ rfl (.tmp 69) (.tmp 73) 39 rfl w1.heap.size 3 ii _ 1 8 Try.underlying39 hii hi0 hi1 hi2 rfl (by decide) _ ks.length (iv ks) rfl (hown.alloc _) _ 1 _ _ rfl (heap_alloc_new _ _) rfl (by intro u hu; simp at hu; rcases hu with rfl; rfl) (by omega) (by omega) (by have := hb.size; simp; omega) ?_)
            intro v' w3 hown3 hg
            go_wp2
            go_roundw
            case rel =>
              refine ⟨i + 1, b ++ ((if Lx.gap last (k, gl) = true then [32] else []) ++ Lx.wrd k), ks ++ [Lx.knd k], k, by omega, by omega, by simp [hkl], hk20, by rw [hgap.out]; simp; omega, ?_, rfl, by go_num, ?_, ?_, ?_, (hb.alloc hb.size _).grown hg (by have := hb.size; simp; omega) (by intro j hj; exact (hown.lt j hj).1)⟩
              · rw [hgap.out, show (⟨#[32]⟩ : ByteArray) = str [32] from rfl, str_app, str_app]; simp
              · rw [iv_snoc, List.length_append]; simpa [hkl, hS1] using hown3
              · rw [show 60 - (i + 1) = 59 - i by omega]; show _ = _; rw [HB.out, build_cons]; simp only [List.append_assoc]
              · rw [show 60 - (i + 1) = 59 - i by omega]; show _ = _; rw [HK.out, List.map_cons, List.append_assoc]; rfl
            case measure => first | (simp [intOf]; done) | (simp [intOf]; omega)
          · have e8 : i < n1 := of_decide_eq_true e6
            have hgap := Lib.hid (show Lx.gap last (k, gl) = false by simp [Lx.gap, f1.out, f3.out, f5.out])
            go_wp2_with (at_builtin; refine wpList_append_one _ rfl (.tmp 69) (.tmp 73) 39 rfl w1.heap.size 3 ii _ 1 8 Try.underlying39 hii hi0 hi1 hi2 rfl (by decide) _ ks.length (iv ks) rfl (hown.alloc _) _ 1 _ _ rfl (heap_alloc_new _ _) rfl (by intro u hu; simp at hu; rcases hu with rfl; rfl) (by omega) (by omega) (by have := hb.size; simp; omega) ?_)
            intro v' w3 hown3 hg
            go_wp2
            go_roundw
            case rel =>
              refine ⟨i + 1, b ++ ((if Lx.gap last (k, gl) = true then [32] else []) ++ Lx.wrd k), ks ++ [Lx.knd k], k, by omega, by omega, by simp [hkl], hk20, by rw [hgap.out]; simp; omega, ?_, rfl, by go_num, ?_, ?_, ?_, (hb.alloc hb.size _).grown hg (by have := hb.size; simp; omega) (by intro j hj; exact (hown.lt j hj).1)⟩
              · rw [hgap.out, str_app]; simp
              · rw [iv_snoc, List.length_append]; simpa [hkl, hS1] using hown3
              · rw [show 60 - (i + 1) = 59 - i by omega]; show _ = _; rw [HB.out, build_cons]; simp only [List.append_assoc]
              · rw [show 60 - (i + 1) = 59 - i by omega]; show _ = _; rw [HK.out, List.map_cons, List.append_assoc]; rfl
            case measure => first | (simp [intOf]; done) | (simp [intOf]; omega)
      · rcases wdy_ways last with ⟨e3, f3⟩ | ⟨e3, e4, f3⟩ | ⟨e3, e4, f3⟩
        · have hgap := Lib.hid (show Lx.gap last (k, gl) = true by simp [Lx.gap, f1.out, f3.out])
          go_wp2_with (at_builtin; refine wpList_append_one _ rfl (.tmp 69) (.tmp 73) 39 rfl w1.heap.size 3 ii _ 1 8 Try.underlying39 hii hi0 hi1 hi2 rfl (by decide) _ ks.length (iv ks) rfl (hown.alloc _) _ 1 _ _ rfl (heap_alloc_new _ _) rfl (by intro u hu; simp at hu; rcases hu with rfl; rfl) (by omega) (by omega) (by have := hb.size; simp; omega) ?_)
          intro v' w3 hown3 hg
          go_wp2
          go_roundw
          case rel =>
            refine ⟨i + 1, b ++ ((if Lx.gap last (k, gl) = true then [32] else []) ++ Lx.wrd k), ks ++ [Lx.knd k], k, by omega, by omega, by simp [hkl], hk20, by rw [hgap.out]; simp; omega, ?_, rfl, by go_num, ?_, ?_, ?_, (hb.alloc hb.size _).grown hg (by have := hb.size; simp; omega) (by intro j hj; exact (hown.lt j hj).1)⟩
            · rw [hgap.out, show (⟨#[32]⟩ : ByteArray) = str [32] from rfl, str_app, str_app]; simp
            · rw [iv_snoc, List.length_append]; simpa [hkl, hS1] using hown3
            · rw [show 60 - (i + 1) = 59 - i by omega]; show _ = _; rw [HB.out, build_cons]; simp only [List.append_assoc]
            · rw [show 60 - (i + 1) = 59 - i by omega]; show _ = _; rw [HK.out, List.map_cons, List.append_assoc]; rfl
          case measure => first | (simp [intOf]; done) | (simp [intOf]; omega)
        · have hgap := Lib.hid (show Lx.gap last (k, gl) = true by simp [Lx.gap, f1.out, f3.out])
          go_wp2_with (at_builtin; refine wpList_append_one _ rfl (.tmp 69) (.tmp 73) 39 rfl w1.heap.size 3 ii _ 1 8 Try.underlying39 hii hi0 hi1 hi2 rfl (by decide) _ ks.length (iv ks) rfl (hown.alloc _) _ 1 _ _ rfl (heap_alloc_new _ _) rfl (by intro u hu; simp at hu; rcases hu with rfl; rfl) (by omega) (by omega) (by have := hb.size; simp; omega) ?_)
          intro v' w3 hown3 hg
          go_wp2
          go_roundw
          case rel =>
            refine ⟨i + 1, b ++ ((if Lx.gap last (k, gl) = true then [32] else []) ++ Lx.wrd k), ks ++ [Lx.knd k], k, by omega, by omega, by simp [hkl], hk20, by rw [hgap.out]; simp; omega, ?_, rfl, by go_num, ?_, ?_, ?_, (hb.alloc hb.size _).grown hg (by have := hb.size; simp; omega) (by intro j hj; exact (hown.lt j hj).1)⟩
            · rw [hgap.out, show (⟨#[32]⟩ : ByteArray) = str [32] from rfl, str_app, str_app]; simp
            · rw [iv_snoc, List.length_append]; simpa [hkl, hS1] using hown3
            · rw [show 60 - (i + 1) = 59 - i by omega]; show _ = _; rw [HB.out, build_cons]; simp only [List.append_assoc]
            · rw [show 60 - (i + 1) = 59 - i by omega]; show _ = _; rw [HK.out, List.map_cons, List.append_assoc]; rfl
          case measure => first | (simp [intOf]; done) | (simp [intOf]; omega)
        · rcases hglue with ⟨e5, e6, f5⟩ | ⟨b1, o1, y, rfl, e5, e6, hcy, ⟨e7, f5⟩ | ⟨e7, f5⟩⟩
          · have hgap := Lib.hid (show Lx.gap last (k, gl) = false by simp [Lx.gap, f1.out, f3.out, f5.out])
            go_wp2_with (at_builtin; refine wpList_append_one _ rfl (.tmp 69) (.tmp 73) 39 rfl w1.heap.size 3 ii _ 1 8 Try.underlying39 hii hi0 hi1 hi2 rfl (by decide) _ ks.length (iv ks) rfl (hown.alloc _) _ 1 _ _ rfl (heap_alloc_new _ _) rfl (by intro u hu; simp at hu; rcases hu with rfl; rfl) (by omega) (by omega) (by have := hb.size; simp; omega) ?_)
            intro v' w3 hown3 hg
            go_wp2
            go_roundw
            case rel =>
              refine ⟨i + 1, b ++ ((if Lx.gap last (k, gl) = true then [32] else []) ++ Lx.wrd k), ks ++ [Lx.knd k], k, by omega, by omega, by simp [hkl], hk20, by rw [hgap.out]; simp; omega, ?_, rfl, by go_num, ?_, ?_, ?_, (hb.alloc hb.size _).grown hg (by have := hb.size; simp; omega) (by intro j hj; exact (hown.lt j hj).1)⟩
              · rw [hgap.out, str_app]; simp
              · rw [iv_snoc, List.length_append]; simpa [hkl, hS1] using hown3
              · rw [show 60 - (i + 1) = 59 - i by omega]; show _ = _; rw [HB.out, build_cons]; simp only [List.append_assoc]
              · rw [show 60 - (i + 1) = 59 - i by omega]; show _ = _; rw [HK.out, List.map_cons, List.append_assoc]; rfl
            case measure => first | (simp [intOf]; done) | (simp [intOf]; omega)
          · have e8 : i < n1 := of_decide_eq_true e6
            have hgap := Lib.hid (show Lx.gap last (k, gl) = true by simp [Lx.gap, f1.out, f3.out, f5.out])
            go_wp2_with (at_builtin; refine wpList_append_one _ rfl (.tmp 69) (.tmp 73) 39 rfl w1.heap.size 3 ii _ 1 8 Try.underlying39 hii hi0 hi1 hi2 rfl (by decide) _ ks.length (iv ks) rfl (hown.alloc _) _ 1 _ _ rfl (heap_alloc_new _ _) rfl (by intro u hu; simp at hu; rcases hu with rfl; rfl) (by omega) (by omega) (by have := hb.size; simp; omega) ?_)
            intro v' w3 hown3 hg
            go_wp2
            go_roundw
            case rel =>
              refine ⟨i + 1, b ++ ((if Lx.gap last (k, gl) = true then [32] else []) ++ Lx.wrd k), ks ++ [Lx.knd k], k, by omega, by omega, by simp [hkl], hk20, by rw [hgap.out]; simp; omega, ?_, rfl, by go_num, ?_, ?_, ?_, (hb.alloc hb.size _).grown hg (by have := hb.size; simp; omega) (by intro j hj; exact (hown.lt j hj).1)⟩
              · rw [hgap.out, show (⟨#[32]⟩ : ByteArray) = str [32] from rfl, str_app, str_app]; simp
              · rw [iv_snoc, List.length_append]; simpa [hkl, hS1] using hown3
              · rw [show 60 - (i + 1) = 59 - i by omega]; show _ = _; rw [HB.out, build_cons]; simp only [List.append_assoc]
              · rw [show 60 - (i + 1) = 59 - i by omega]; show _ = _; rw [HK.out, List.map_cons, List.append_assoc]; rfl
            case measure => first | (simp [intOf]; done) | (simp [intOf]; omega)
          · have e8 : i < n1 := of_decide_eq_true e6
            have hgap := Lib.hid (show Lx.gap last (k, gl) = false by simp [Lx.gap, f1.out, f3.out, f5.out])
            go_wp2_with (at_builtin; refine wpList_append_one _ rfl (.tmp 69) (.tmp 73) 39 rfl w1.heap.size 3 ii _ 1 8 Try.underlying39 hii hi0 hi1 hi2 rfl (by decide) _ ks.length (iv ks) rfl (hown.alloc _) _ 1 _ _ rfl (heap_alloc_new _ _) rfl (by intro u hu; simp at hu; rcases hu with rfl; rfl) (by omega) (by omega) (by have := hb.size; simp; omega) ?_)
            intro v' w3 hown3 hg
            go_wp2
            go_roundw
            case rel =>
              refine ⟨i + 1, b ++ ((if Lx.gap last (k, gl) = true then [32] else []) ++ Lx.wrd k), ks ++ [Lx.knd k], k, by omega, by omega, by simp [hkl], hk20, by rw [hgap.out]; simp; omega, ?_, rfl, by go_num, ?_, ?_, ?_, (hb.alloc hb.size _).grown hg (by have := hb.size; simp; omega) (by intro j hj; exact (hown.lt j hj).1)⟩
              · rw [hgap.out, str_app]; simp
              · rw [iv_snoc, List.length_append]; simpa [hkl, hS1] using hown3
              · rw [show 60 - (i + 1) = 59 - i by omega]; show _ = _; rw [HB.out, build_cons]; simp only [List.append_assoc]
              · rw [show 60 - (i + 1) = 59 - i by omega]; show _ = _; rw [HK.out, List.map_cons, List.append_assoc]; rfl
            case measure => first | (simp [intOf]; done) | (simp [intOf]; omega)
      · rcases hglue with ⟨e5, e6, f5⟩ | ⟨b1, o1, y, rfl, e5, e6, hcy, ⟨e7, f5⟩ | ⟨e7, f5⟩⟩
        · have hgap := Lib.hid (show Lx.gap last (k, gl) = false by simp [Lx.gap, f1.out, f5.out])
          go_wp2_with (at_builtin; refine wpList_append_one _ rfl (.tmp 69) (.tmp 73) 39 rfl w1.heap.size 3 ii _ 1 8 Try.underlying39 hii hi0 hi1 hi2 rfl (by decide) _ ks.length (iv ks) rfl (hown.alloc _) _ 1 _ _ rfl (heap_alloc_new _ _) rfl (by intro u hu; simp at hu; rcases hu with rfl; rfl) (by omega) (by omega) (by have := hb.size; simp; omega) ?_)
          intro v' w3 hown3 hg
          go_wp2
          go_roundw
          case rel =>
            refine ⟨i + 1, b ++ ((if Lx.gap last (k, gl) = true then [32] else []) ++ Lx.wrd k), ks ++ [Lx.knd k], k, by omega, by omega, by simp [hkl], hk20, by rw [hgap.out]; simp; omega, ?_, rfl, by go_num, ?_, ?_, ?_, (hb.alloc hb.size _).grown hg (by have := hb.size; simp; omega) (by intro j hj; exact (hown.lt j hj).1)⟩
            · rw [hgap.out, str_app]; simp
            · rw [iv_snoc, List.length_append]; simpa [hkl, hS1] using hown3
            · rw [show 60 - (i + 1) = 59 - i by omega]; show _ = _; rw [HB.out, build_cons]; simp only [List.append_assoc]
            · rw [show 60 - (i + 1) = 59 - i by omega]; show _ = _; rw [HK.out, List.map_cons, List.append_assoc]; rfl
          case measure => first | (simp [intOf]; done) | (simp [intOf]; omega)
        · have e8 : i < n1 := of_decide_eq_true e6
          have hgap := Lib.hid (show Lx.gap last (k, gl) = true by simp [Lx.gap, f1.out, f5.out])
          go_wp2_with (at_builtin; refine wpList_append_one _ rfl (.tmp 69) (.tmp 73) 39 rfl w1.heap.size 3 ii _ 1 8 Try.underlying39 hii hi0 hi1 hi2 rfl (by decide) _ ks.length (iv ks) rfl (hown.alloc _) _ 1 _ _ rfl (heap_alloc_new _ _) rfl (by intro u hu; simp at hu; rcases hu with rfl; rfl) (by omega) (by omega) (by have := hb.size; simp; omega) ?_)
          intro v' w3 hown3 hg
          go_wp2
          go_roundw
          case rel =>
            refine ⟨i + 1, b ++ ((if Lx.gap last (k, gl) = true then [32] else []) ++ Lx.wrd k), ks ++ [Lx.knd k], k, by omega, by omega, by simp [hkl], hk20, by rw [hgap.out]; simp; omega, ?_, rfl, by go_num, ?_, ?_, ?_, (hb.alloc hb.size _).grown hg (by have := hb.size; simp; omega) (by intro j hj; exact (hown.lt j hj).1)⟩
            · rw [hgap.out, show (⟨#[32]⟩ : ByteArray) = str [32] from rfl, str_app, str_app]; simp
            · rw [iv_snoc, List.length_append]; simpa [hkl, hS1] using hown3
            · rw [show 60 - (i + 1) = 59 - i by omega]; show _ = _; rw [HB.out, build_cons]; simp only [List.append_assoc]
            · rw [show 60 - (i + 1) = 59 - i by omega]; show _ = _; rw [HK.out, List.map_cons, List.append_assoc]; rfl
          case measure => first | (simp [intOf]; done) | (simp [intOf]; omega)
        · have e8 : i < n1 := of_decide_eq_true e6
          have hgap := Lib.hid (show Lx.gap last (k, gl) = false by simp [Lx.gap, f1.out, f5.out])
          go_wp2_with (at_builtin; refine wpList_append_one _ rfl (.tmp 69) (.tmp 73) 39 rfl w1.heap.size 3 ii _ 1 8 Try.underlying39 hii hi0 hi1 hi2 rfl (by decide) _ ks.length (iv ks) rfl (hown.alloc _) _ 1 _ _ rfl (heap_alloc_new _ _) rfl (by intro u hu; simp at hu; rcases hu with rfl; rfl) (by omega) (by omega) (by have := hb.size; simp; omega) ?_)
          intro v' w3 hown3 hg
          go_wp2
          go_roundw
          case rel =>
            refine ⟨i + 1, b ++ ((if Lx.gap last (k, gl) = true then [32] else []) ++ Lx.wrd k), ks ++ [Lx.knd k], k, by omega, by omega, by simp [hkl], hk20, by rw [hgap.out]; simp; omega, ?_, rfl, by go_num, ?_, ?_, ?_, (hb.alloc hb.size _).grown hg (by have := hb.size; simp; omega) (by intro j hj; exact (hown.lt j hj).1)⟩
            · rw [hgap.out, str_app]; simp
            · rw [iv_snoc, List.length_append]; simpa [hkl, hS1] using hown3
            · rw [show 60 - (i + 1) = 59 - i by omega]; show _ = _; rw [HB.out, build_cons]; simp only [List.append_assoc]
            · rw [show 60 - (i + 1) = 59 - i by omega]; show _ = _; rw [HK.out, List.map_cons, List.append_assoc]; rfl
          case measure => first | (simp [intOf]; done) | (simp [intOf]; omega)
    · have hend : Lx.its (60 - i) (xs.drop i) (gs.drop i) = [] := by
        by_cases h : i < n0
        · rw [show 60 - i = 0 by omega]; rfl
        · rw [List.drop_eq_nil_of_le (by omega)]; exact its_end _ _
      have hex : (decide ((i : Int) < (n0 : Int)) = false ∧ decide (i < n0) = false) ∨ (decide ((i : Int) < (n0 : Int)) = true ∧ decide (i < n0) = true ∧ decide ((i : Int) < 60) = false) := by
        by_cases h : i < n0
        · exact .inr ⟨decide_eq_true (by omega), decide_eq_true h, decide_eq_false (by omega)⟩
        · exact .inl ⟨decide_eq_false (by omega), decide_eq_false h⟩
      have HB1 := Lib.hid (show Lx.build 8 tot = b by rw [HB.out, hend]; simp [Lx.build])
      have HK1 := Lib.hid (show tot.map (fun x => Lx.knd x.1) = ks by rw [HK.out, hend]; simp)
      clear HB HK hend hlt
      obtain ⟨toks, htk, hkinds⟩ := Lx.lex_build tot 8 b.length 0 (by rw [HB1.out]; exact Nat.le_refl _)
      rw [HB1.out] at htk
      rw [HK1.out] at hkinds
      have HL := Lib.hid (show Lx.lex b = .ok toks from htk)
      have htl : toks.length = i + 1 := by have := congrArg List.length hkinds; simp at this; omega
      have HKK := Lib.hid hkinds
      clear htk hkinds
      have hsb : (str b).size = b.length := rfl
      have hd6 : decide ((600 : Int) < (b.length : Int)) = false := decide_eq_false (by omega)
      obtain ⟨av, cv, rfl, _⟩ := ownsRow_slice hown
      rcases hex with ⟨e1, e2⟩ | ⟨e1, e2, e3⟩
      · go_wp2_with fail
        refine (lex_any wr b (by omega)).mono ?_
        rw [HL.out]
        rintro e w2 ⟨hb2, v2, rfl, hrow⟩
        rw [htl] at hrow
        obtain ⟨a2, c2, rfl, _⟩ := ownsRow_slice hrow
        obtain ⟨g2, rfl, hg1, hg2⟩ := own_head hrow (by omega)
        go_wp2_with fail
        refine (known17 _).mono ?_
        rintro e w3 ⟨rfl, hb3⟩
        have hrow3 : w3.ownsRow wr.heap.size 48 3 (.slice (some ⟨g2, 0, none⟩) (i + 1) c2) (i + 1) (tv toks) := ownsRow_stay hrow (TStay.of_below hb3 (fun _ => False)) (fun _ _ h => h)
        have hown3 : w3.ownsRow w1.heap.size 3 1 (.slice av i cv) i (iv ks) := by
          have h2 := ownsRow_stay hown (TStay.of_below (hb2.trans (hb3.mono hb2.size)) (fun _ => False)) (fun _ _ h => h)
          rwa [hkl] at h2
        have HT3 := Lib.hid (show ∀ (j k : Nat), (ks ++ [11])[j]? = some k → w3.cell? ⟨g2, j * 3, none⟩ = some (.int .i64 (k : Int)) from fun j k hj => by
          rw [← HKK.out, List.getElem?_map] at hj
          obtain ⟨t, ht, rfl⟩ := Option.map_eq_some_iff.1 hj
          exact (tok_cell hrow3 ht).1)
        have HO3 := Lib.hid hown3
        have b3 : Below w.heap.size w w3 := by
          have q1 := hB0.trans (hb.mono hB0.size)
          have q2 := q1.trans (hb2.mono q1.size)
          exact q2.trans (hb3.mono q2.size)
        clear hown hrow hrow3 hown3 hb2 hb3
        have hne : ((((i + 1 : Nat) : Int)) == (i : Int) + 1) = true := by simp
        go_wp2
        go_loopw [15] (fun t wr => ∃ j, j ≤ i ∧ t = .int .i64 (j : Int) ∧ Hid (∀ p, wr.cell? p = w3.cell? p) ∧ Below w.heap.size w wr) (fun t _ => i - (intOf t).toNat)
        case atStart => exact ⟨0, Nat.zero_le _, rfl, fun _ => rfl, b3⟩
        case round =>
          obtain ⟨j, hj, rfl, HC, hbw⟩ := hrel
          by_cases hji : j < i
          · have dj : decide ((j : Int) < (i : Int)) = true := decide_eq_true (by omega)
            have dj2 : decide (j < i) = true := decide_eq_true hji
            obtain ⟨kj, hkj⟩ : ∃ kj, ks[j]? = some kj := ⟨_, List.getElem?_eq_getElem (by omega)⟩
            obtain ⟨gw, rfl, _, _⟩ := own_head HO3.out (by omega)
            have q1 : wr.cell? ⟨g2, j * 3, none⟩ = some (.int .i64 (kj : Int)) := (HC.out _).trans (HT3.out j kj (by rw [List.getElem?_append_left (by omega)]; exact hkj))
            have q2 : wr.cell? ⟨gw, j, none⟩ = some (.int .i64 (kj : Int)) := (HC.out _).trans ((HO3.out.cellAt j (by omega)).trans (by simp [iv, hkj]))
            have q3 : j < i + 1 := by omega
            go_wp2
            go_quiet (fail)
            go_wp2
            go_roundw
            case rel => exact ⟨j + 1, by omega, by go_num, fun p => HC.out p, bel_drewN hbw nq⟩
            case measure => first | (simp [intOf]; done) | (simp [intOf]; omega)
          · obtain rfl : j = i := by omega
            have dj : decide ((j : Int) < (j : Int)) = false := decide_eq_false (by omega)
            have q1 : wr.cell? ⟨g2, j * 3, none⟩ = some (.int .i64 11) := (HC.out _).trans (HT3.out j 11 (by rw [List.getElem?_append_right (by omega), hkl, Nat.sub_self]; rfl))
            have q3 : j < j + 1 := by omega
            go_wp2
            go_ret
            exact ⟨rfl, hbw⟩
      · go_wp2_with fail
        refine (lex_any wr b (by omega)).mono ?_
        rw [HL.out]
        rintro e w2 ⟨hb2, v2, rfl, hrow⟩
        rw [htl] at hrow
        obtain ⟨a2, c2, rfl, _⟩ := ownsRow_slice hrow
        obtain ⟨g2, rfl, hg1, hg2⟩ := own_head hrow (by omega)
        go_wp2_with fail
        refine (known17 _).mono ?_
        rintro e w3 ⟨rfl, hb3⟩
        have hrow3 : w3.ownsRow wr.heap.size 48 3 (.slice (some ⟨g2, 0, none⟩) (i + 1) c2) (i + 1) (tv toks) := ownsRow_stay hrow (TStay.of_below hb3 (fun _ => False)) (fun _ _ h => h)
        have hown3 : w3.ownsRow w1.heap.size 3 1 (.slice av i cv) i (iv ks) := by
          have h2 := ownsRow_stay hown (TStay.of_below (hb2.trans (hb3.mono hb2.size)) (fun _ => False)) (fun _ _ h => h)
          rwa [hkl] at h2
        have HT3 := Lib.hid (show ∀ (j k : Nat), (ks ++ [11])[j]? = some k → w3.cell? ⟨g2, j * 3, none⟩ = some (.int .i64 (k : Int)) from fun j k hj => by
          rw [← HKK.out, List.getElem?_map] at hj
          obtain ⟨t, ht, rfl⟩ := Option.map_eq_some_iff.1 hj
          exact (tok_cell hrow3 ht).1)
        have HO3 := Lib.hid hown3
        have b3 : Below w.heap.size w w3 := by
          have q1 := hB0.trans (hb.mono hB0.size)
          have q2 := q1.trans (hb2.mono q1.size)
          exact q2.trans (hb3.mono q2.size)
        clear hown hrow hrow3 hown3 hb2 hb3
        have hne : ((((i + 1 : Nat) : Int)) == (i : Int) + 1) = true := by simp
        go_wp2
        go_loopw [15] (fun t wr => ∃ j, j ≤ i ∧ t = .int .i64 (j : Int) ∧ Hid (∀ p, wr.cell? p = w3.cell? p) ∧ Below w.heap.size w wr) (fun t _ => i - (intOf t).toNat)
        case atStart => exact ⟨0, Nat.zero_le _, rfl, fun _ => rfl, b3⟩
        case round =>
          obtain ⟨j, hj, rfl, HC, hbw⟩ := hrel
          by_cases hji : j < i
          · have dj : decide ((j : Int) < (i : Int)) = true := decide_eq_true (by omega)
            have dj2 : decide (j < i) = true := decide_eq_true hji
            obtain ⟨kj, hkj⟩ : ∃ kj, ks[j]? = some kj := ⟨_, List.getElem?_eq_getElem (by omega)⟩
            obtain ⟨gw, rfl, _, _⟩ := own_head HO3.out (by omega)
            have q1 : wr.cell? ⟨g2, j * 3, none⟩ = some (.int .i64 (kj : Int)) := (HC.out _).trans (HT3.out j kj (by rw [List.getElem?_append_left (by omega)]; exact hkj))
            have q2 : wr.cell? ⟨gw, j, none⟩ = some (.int .i64 (kj : Int)) := (HC.out _).trans ((HO3.out.cellAt j (by omega)).trans (by simp [iv, hkj]))
            have q3 : j < i + 1 := by omega
            go_wp2
            go_quiet (fail)
            go_wp2
            go_roundw
            case rel => exact ⟨j + 1, by omega, by go_num, fun p => HC.out p, bel_drewN hbw nq⟩
            case measure => first | (simp [intOf]; done) | (simp [intOf]; omega)
          · obtain rfl : j = i := by omega
            have dj : decide ((j : Int) < (j : Int)) = false := decide_eq_false (by omega)
            have q1 : wr.cell? ⟨g2, j * 3, none⟩ = some (.int .i64 11) := (HC.out _).trans (HT3.out j 11 (by rw [List.getElem?_append_right (by omega), hkl, Nat.sub_self]; rfl))
            have q3 : j < j + 1 := by omega
            go_wp2
            go_ret
            exact ⟨rfl, hbw⟩
end Go.Proofs.Ytcbddbclgepcmaa
