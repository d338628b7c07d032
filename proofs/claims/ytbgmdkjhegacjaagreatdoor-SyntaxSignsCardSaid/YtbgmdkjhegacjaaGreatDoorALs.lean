/-
  The walk of the law SyntaxSigns (chapter 15).
-/
import Derived.Test.YtbgmdkjhegacjaaGreatDoorPSynLa
import Derived.Maps.Own
import Derived.Maps.OwnOps
import Derived.Maps.Views
import Derived.Laws.AppendOwn
import Derived.Laws.OwnMore
import Derived.Laws.NewBlocks
import Derived.Lib.Hide
import Derived.Lib.OthersKept
import Derived.WalkKit
import Derived.WalkSpells
import Derived.WalkLawsBesides
import Derived.Handy
import Derived.StillTailTactics
import Derived.Deep.QuietTactic
import Derived.BigQuiet
import Derived.Deep.RegionHeld3
import Derived.Deep.RegionLaw
import Derived.Deep.Draws
import Derived.Deep.MidRow
import Derived.Maps.AppendAt
import Derived.LoopTactic
import Derived.Deep.DeepCutAuto
import Derived.OrdersHeld
import Derived.Deep.RegionHeld
namespace Go.Proofs.YtbgmdkjhegacjaaGreatDoor
def sgn (a : Nat) : List UInt8 := ([[47, 47], [111, 114], [97, 110, 100], [61, 61], [43], [45], [42], [47], [37]] : List (List UInt8)).getD a []
def sgnS (a : Nat) : Nat := ([0, 2, 3, 4, 5, 5, 6, 6, 6] : List Nat).getD a 0
/-- 1 a 2 b 3 -/
def sgnT (a b : Nat) : List UInt8 := [49, 32] ++ sgn a ++ [32, 50, 32] ++ sgn b ++ [32, 51]
def sgnLeft (a b : Nat) : Bool := decide (sgnS b < sgnS a) || (sgnS a == sgnS b && !(a == 0))
def num1 : Nd := .mk 3 [49] []
def num2 : Nd := .mk 3 [50] []
def num3 : Nd := .mk 3 [51] []
/-- the tree that is read -/
def sgnN (a b : Nat) : Nd := if sgnLeft a b then .mk 17 (sgn b) [.mk 17 (sgn a) [num1, num2], num3] else .mk 17 (sgn a) [num1, .mk 17 (sgn b) [num2, num3]]
mutual
def eqNd : Nd → Nd → Bool
  | .mk k t ks, .mk k' t' ks' => k == k' && t == t' && eqNds ks ks'
def eqNds : List Nd → List Nd → Bool
  | [], [] => true
  | a :: r, b :: s => eqNd a b && eqNds r s
  | _, _ => false
end
mutual
theorem eqNd_eq : ∀ (a b : Nd), eqNd a b = true → a = b
  | .mk k t ks, .mk k' t' ks', h => by
    unfold eqNd at h
    simp only [Bool.and_eq_true, beq_iff_eq] at h
    obtain ⟨⟨rfl, rfl⟩, h⟩ := h
    rw [eqNds_eq ks ks' h]
theorem eqNds_eq : ∀ (a b : List Nd), eqNds a b = true → a = b
  | [], [], _ => rfl
  | a :: r, b :: s, h => by
    unfold eqNds at h
    rw [Bool.and_eq_true] at h
    rw [eqNd_eq a b h.1, eqNds_eq r s h.2]
  | [], _ :: _, h => by unfold eqNds at h; cases h
  | _ :: _, [], h => by unfold eqNds at h; cases h
end
def sgnB (a b : Nat) : Bool := let r := parseV numE (sgnT a b); if a = 3 ∧ b = 3 then r.2.2 == 2 else r.2.2 == 0 && eqNd r.1 (sgnN a b)
theorem sgn_all : ∀ a, a < 9 → ∀ b, b < 9 → sgnB a b = true := by decide +kernel
theorem sgn_bad : (parseV numE (sgnT 3 3)).2.2 = 2 := by
  have := sgn_all 3 (by decide) 3 (by decide)
  unfold sgnB at this
  simpa using this
theorem sgn_ok (a b : Nat) (ha : a < 9) (hb : b < 9) (h : ¬ (a = 3 ∧ b = 3)) : (parseV numE (sgnT a b)).2.2 = 0 ∧ (parseV numE (sgnT a b)).1 = sgnN a b := by
  have := sgn_all a ha b hb
  unfold sgnB at this
  simp only [if_neg h, Bool.and_eq_true, beq_iff_eq] at this
  exact ⟨this.1, eqNd_eq _ _ this.2⟩

end Go.Proofs.YtbgmdkjhegacjaaGreatDoor

namespace Go.Proofs.YtbgmdkjhegacjaaGreatDoor
open Go.RowKit
section
variable {F : Nat → Prop} {w w' : World} {g : Nat} {t : Nd} {kv : Value}
theorem NX.alloc (h : NX F w t kv) (o : Obj) : NX F (w.alloc o) t kv := h.kept fun q _ _ hq hh => ⟨(Below.heap_alloc w o q (Array.getElem?_eq_some_iff.1 hh).1).trans hh, hq⟩
end
end Go.Proofs.YtbgmdkjhegacjaaGreatDoor

namespace Go.Proofs.YtbgmdkjhegacjaaGreatDoor
open Go.RowKit
def sgCells : List Value := (List.range 9).map fun a => .string ⟨(sgn a).toArray⟩
def stCells : List Value := (List.range 9).map fun a => .int .i64 (sgnS a : Int)
theorem sg_at {w : World} {q : Nat} {T : TypeId} (h : w.heap[q]? = some (.cells sgCells.toArray T (0, 0))) {a : Nat} (ha : a < 9) : w.cell? ⟨q, a, none⟩ = some (.string ⟨(sgn a).toArray⟩) := by
  rw [Lib.cell_of_heap h]
  simp [sgCells, ha]
theorem st_at {w : World} {q : Nat} {T : TypeId} (h : w.heap[q]? = some (.cells stCells.toArray T (0, 0))) {a : Nat} (ha : a < 9) : w.cell? ⟨q, a, none⟩ = some (.int .i64 (sgnS a : Int)) := by
  rw [Lib.cell_of_heap h]
  simp [stCells, ha]
theorem sg_size : ∀ a, a < 9 → (sgn a).length ≤ 3 := by decide
theorem sg_text : ∀ a, a < 9 → ∀ b, b < 9 → ((⟨#[49, 32]⟩ : ByteArray) ++ ⟨(sgn a).toArray⟩ ++ ⟨#[32, 50, 32]⟩ ++ ⟨(sgn b).toArray⟩ ++ ⟨#[32, 51]⟩).data.toList = sgnT a b := by
  intro a _ b _
  simp [ByteArray.data_append, sgnT]
/-- the two rows of the law -/
structure SgH (w W : World) (q : Nat) : Prop where
  below : Below w.heap.size w W
  h1 : W.heap[q]? = some (.cells sgCells.toArray 9 (0, 0))
  h2 : W.heap[q + 1]? = some (.cells stCells.toArray 3 (0, 0))
theorem SgH.call {w W W' : World} {q : Nat} (H : SgH w W q) (hb : Below W.heap.size W W') : SgH w W' q :=
  ⟨H.below.trans (hb.mono H.below.size), (hb.block _ (Array.getElem?_eq_some_iff.1 H.h1).1).trans H.h1, (hb.block _ (Array.getElem?_eq_some_iff.1 H.h2).1).trans H.h2⟩
theorem SgH.sg {w W : World} {q a : Nat} {s : ByteArray} (H : SgH w W q) (ha : a < 9) (hs : s = ⟨(sgn a).toArray⟩) : W.cell? ⟨q, a, none⟩ = some (.string s) := by rw [hs]; exact sg_at H.h1 ha
theorem SgH.st {w W : World} {q a : Nat} (H : SgH w W q) (ha : a < 9) : W.cell? ⟨q + 1, a, none⟩ = some (.int .i64 (sgnS a : Int)) := st_at H.h2 ha
theorem y_one (t : Ny) (A : Option Addr) (n c : Nat) : ∀ v ∈ yCells t (.slice A n c), v.oneCell' = true := fun v h => by
  simp only [yCells, List.mem_cons, List.not_mem_nil, or_false] at h
  rcases h with rfl | rfl | rfl <;> rfl
theorem below_setCells {B p : Nat} {w : World} (hp : B ≤ p) : ∀ (vs : List Value) (o : Nat) (U : World), Below B w U → Below B w (U.setCells p o vs)
  | [], _, _, h => h
  | v :: r, o, U, h => by
    rw [World.setCells]
    exact below_setCells hp r (o + 1) _ (h.setCell (p := ⟨p, o, none⟩) hp v)
/-- the tree that was read is stored in its variable -/
theorem SgH.put {w U : World} {q p : Nat} {X : Ny} {A : Option Addr} {c : Nat} (H : SgH w U q) (hz : U.heap[p]? = some (.cells zN.toArray TN (0, 0))) (hp : w.heap.size ≤ p) (h1 : q ≠ p) (h2 : q + 1 ≠ p) (hk : YX (fun k => k ≠ p) U X (.slice A X.kids.length c)) :
    SgH w (U.setCells p 0 (yCells X (.slice A X.kids.length c))) q ∧ YP (U.setCells p 0 (yCells X (.slice A X.kids.length c))) p X A c :=
  ⟨⟨below_setCells hp _ _ _ H.below, (setCells_far p _ 0 U q h1).trans H.h1, (setCells_far p _ 0 U (q + 1) h2).trans H.h2⟩,
    ⟨setCells_whole hz rfl, hk.kept fun k _ _ _ hk hh => ⟨(setCells_far p _ 0 U k hk).trans hh, trivial⟩⟩⟩
set_option maxHeartbeats 4000000 in
set_option maxRecDepth 100000 in
theorem syntaxSigns_walk (i j : Nat) (w : World) (hi : i < 256) (hj : j < 256) (hT : Tabs w) (h10 : Tab10 w) : Calls Tryz.prog 6 #[.int .u8 (i : Int), .int .u8 (j : Int)] w fun e w' => e = .returned (.bool true) ∧ Below w.heap.size w w' := by
  have KS := Lib.hid (fun W (hb : Below w.heap.size w W) => syShown_any W (hT.below hb (Nat.le_refl _)) (h10.below hb))
  have hb0 := Below.refl w.heap.size w
  obtain ⟨a, ha⟩ : ∃ a, a = i % 9 := ⟨_, rfl⟩
  obtain ⟨b, hb⟩ : ∃ b, b = j % 9 := ⟨_, rfl⟩
  have ia : (i : Int) % 9 = (a : Int) := by omega
  have ib : (j : Int) % 9 = (b : Int) := by omega
  have a9 : a < 9 := by omega
  have b9 : b < 9 := by omega
  have it : (i : Int).tmod 9 = (a : Int) := by rw [Int.tmod_eq_emod_of_nonneg (by omega)]; exact ia
  have jt : (j : Int).tmod 9 = (b : Int) := by rw [Int.tmod_eq_emod_of_nonneg (by omega)]; exact ib
  have wa : IntKind.i64.wrap (a : Int) = (a : Int) := IntWalk.i64_in _ (by omega)
  have wb : IntKind.i64.wrap (b : Int) = (b : Int) := IntWalk.i64_in _ (by omega)
  have wi : IntKind.i64.wrap (i : Int) = (i : Int) := IntWalk.i64_in _ (by omega)
  have wj : IntKind.i64.wrap (j : Int) = (j : Int) := IntWalk.i64_in _ (by omega)
  clear ha hb ia ib
  go_enter Tryz.func6, Tryz.ntmps6
  go_wp2_with (go_at_call 7; with_reducible refine (KS.out _ hb0).mono ?_)
  rintro x w0 ⟨rfl, hb1⟩
  go_upto_region 6 with fail
  obtain ⟨W1, hW1⟩ : ∃ W1, W1 = (w0.alloc (.cells sgCells.toArray 9)).alloc (.cells stCells.toArray 3) := ⟨_, rfl⟩
  have eW1 : W1 = (w0.alloc (.cells #[.string ⟨#[47, 47]⟩, .string ⟨#[111, 114]⟩, .string ⟨#[97, 110, 100]⟩, .string ⟨#[61, 61]⟩, .string ⟨#[43]⟩, .string ⟨#[45]⟩, .string ⟨#[42]⟩, .string ⟨#[47]⟩, .string ⟨#[37]⟩] 9)).alloc (.cells #[.int .i64 0, .int .i64 2, .int .i64 3, .int .i64 4, .int .i64 5, .int .i64 5, .int .i64 6, .int .i64 6, .int .i64 6] 3) := hW1
  rw [← eW1]
  clear eW1
  have hs0 : (w0.alloc (.cells sgCells.toArray 9)).heap.size = w0.heap.size + 1 := World.size_alloc _ _
  have h1 : W1.heap[w0.heap.size]? = some (.cells sgCells.toArray 9 (0, 0)) := by rw [hW1]; exact (Below.heap_alloc _ _ w0.heap.size (by omega)).trans (Go.heap_alloc_new w0 _)
  have h2 : W1.heap[w0.heap.size + 1]? = some (.cells stCells.toArray 3 (0, 0)) := by rw [hW1, ← hs0]; exact Go.heap_alloc_new _ _
  have hbw : Below w.heap.size w W1 := by rw [hW1]; exact (hb1.alloc hb1.size _).alloc (by rw [hs0]; have := hb1.size; omega) _
  have ca := sg_at h1 a9
  have cb := sg_at h1 b9
  obtain ⟨SA, hsa⟩ : ∃ s : ByteArray, s = ⟨(sgn a).toArray⟩ := ⟨_, rfl⟩
  obtain ⟨SB, hsb⟩ : ∃ s : ByteArray, s = ⟨(sgn b).toArray⟩ := ⟨_, rfl⟩
  have la : SA.size ≤ 3 := by rw [hsa]; exact sg_size a a9
  have lb : SB.size ≤ 3 := by rw [hsb]; exact sg_size b b9
  have hst := sg_text a a9 b b9
  rw [← hsa, ← hsb] at hst
  rw [← hsa] at ca
  rw [← hsb] at cb
  obtain ⟨n, r⟩ : ∃ n, n = parseV numE (sgnT a b) := ⟨_, rfl⟩
  obtain ⟨n, at', e⟩ := n
  have kp := fun W hb => par_ys hT h10 (L := sgnT a b) (by rw [← hst, str_len]; simp only [ByteArray.size_append]; unfold maxLen; have : (⟨#[49, 32]⟩ : ByteArray).size = 2 := rfl; have : (⟨#[32, 50, 32]⟩ : ByteArray).size = 3 := rfl; have : (⟨#[32, 51]⟩ : ByteArray).size = 2 := rfl; omega) r.symm W hb
  rw [← hst, str_back] at kp
  have hg : (¬ (a = 3 ∧ b = 3) → e = 0 ∧ n = sgnN a b) ∧ (a = 3 ∧ b = 3 → e = 2) := by
    refine ⟨fun h => ?_, fun h => ?_⟩
    · have := sgn_ok a b a9 b9 h
      rw [← r] at this
      exact this
    · have := sgn_bad
      obtain ⟨rfl, rfl⟩ := h
      rw [← r] at this
      exact this
  have G := Lib.hid hg
  have z1 : ¬ 9223372036854775807 < 2 + SA.size := by omega
  have z2 : ¬ 9223372036854775807 < 2 + SA.size + 3 := by omega
  have z3 : ¬ 9223372036854775807 < 2 + SA.size + 3 + SB.size := by omega
  have z4 : ¬ 9223372036854775807 < 2 + SA.size + 3 + SB.size + 2 := by omega
  have KP := Lib.hid kp
  obtain ⟨X1, hX⟩ : ∃ X, X = toY n := ⟨_, rfl⟩
  clear hg hst r kp
  have H1 := Lib.hid h1
  have H2 := Lib.hid h2
  have B1 := Lib.hid hbw
  have i0 : (0 : Int) ≤ (a : Int) := by omega
  have i1 : (a : Int) < 9 := by omega
  have j0 : (0 : Int) ≤ (b : Int) := by omega
  have j1 : (b : Int) < 9 := by omega
  clear h1 h2 hbw hW1 hs0 hb0 hb1 hi hj it jt wi wj hT h10 wa wb la lb
  generalize w0.heap.size = q at *
  have HSA := Lib.hid hsa
  have HSB := Lib.hid hsb
  clear hsa hsb
  rw [← hX] at KP
  have HX := Lib.hid hX
  clear hX
  have HH := Lib.hid (show SgH w W1.drew q from ⟨B1.out.drew, H1.out, H2.out⟩)
  clear H1 H2 B1 ca cb
  go_cut [10, 12] (fun v10 v12 wx => ∃ (p : Nat) (A1 : Option Addr) (c1 : Nat), v10 = .pointer (some ⟨p, 0, none⟩) ∧ v12 = .int .i64 (e : Int) ∧ SgH w wx q ∧ YP wx p X1 A1 c1)
  case first =>
    refine wp_region_held_drew (S := (fun Y => SgH w Y q)) (by kernel_rfl) HH.out (fun hS0 => ?_)
    refine wpAnyH_take (i := 0) (v := Value.slice (some ⟨q, 0, none⟩) 9 9) rfl (by kernel_rfl) (by kernel_rfl) (by kernel_rfl) (fun _ _ _ h => h) (.inl ⟨by kernel_rfl, fun _ _ => by go_simp⟩) hS0 ?_
    refine wpAnyH_take (i := 1) (v := Value.int .i64 (a : Int)) rfl (by kernel_rfl) (by kernel_rfl) (by kernel_rfl) (fun _ _ _ h => h) (.inl ⟨by kernel_rfl, fun _ _ => by go_simp⟩) hS0 ?_
    refine wpAnyH_take (i := 2) (v := Value.pointer (some ⟨q, a, none⟩)) rfl (by kernel_rfl) (by kernel_rfl) (by kernel_rfl) (fun _ _ _ h => h) (.inl ⟨by kernel_rfl, fun _ _ => by go_simp⟩) hS0 ?_
    refine wpAnyH_take (i := 3) (v := Value.string SA) rfl (by kernel_rfl) (by kernel_rfl) (by kernel_rfl) (fun _ _ _ h => h) (.inl ⟨by kernel_rfl, fun _ H => by have cX := H.sg a9 HSA.out; go_simp⟩) hS0 ?_
    refine wpAnyH_take (i := 4) (v := Value.string (⟨#[49, 32]⟩ ++ SA)) rfl (by kernel_rfl) (by kernel_rfl) (by kernel_rfl) (fun _ _ _ h => h) (.inl ⟨by kernel_rfl, fun _ _ => by go_simp⟩) hS0 ?_
    refine wpAnyH_take (i := 5) (v := Value.string (⟨#[49, 32]⟩ ++ SA ++ ⟨#[32, 50, 32]⟩)) rfl (by kernel_rfl) (by kernel_rfl) (by kernel_rfl) (fun _ _ _ h => h) (.inl ⟨by kernel_rfl, fun _ _ => by go_simp⟩) hS0 ?_
    refine wpAnyH_take (i := 6) (v := Value.slice (some ⟨q, 0, none⟩) 9 9) rfl (by kernel_rfl) (by kernel_rfl) (by kernel_rfl) (fun _ _ _ h => h) (.inl ⟨by kernel_rfl, fun _ _ => by go_simp⟩) hS0 ?_
    refine wpAnyH_take (i := 7) (v := Value.int .i64 (b : Int)) rfl (by kernel_rfl) (by kernel_rfl) (by kernel_rfl) (fun _ _ _ h => h) (.inl ⟨by kernel_rfl, fun _ _ => by go_simp⟩) hS0 ?_
    refine wpAnyH_take (i := 8) (v := Value.pointer (some ⟨q, b, none⟩)) rfl (by kernel_rfl) (by kernel_rfl) (by kernel_rfl) (fun _ _ _ h => h) (.inl ⟨by kernel_rfl, fun _ _ => by go_simp⟩) hS0 ?_
    refine wpAnyH_take (i := 9) (v := Value.string SB) rfl (by kernel_rfl) (by kernel_rfl) (by kernel_rfl) (fun _ _ _ h => h) (.inl ⟨by kernel_rfl, fun _ H => by have cX := H.sg b9 HSB.out; go_simp⟩) hS0 ?_
    refine wpAnyH_take (i := 10) (v := Value.string (⟨#[49, 32]⟩ ++ SA ++ ⟨#[32, 50, 32]⟩ ++ SB)) rfl (by kernel_rfl) (by kernel_rfl) (by kernel_rfl) (fun _ _ _ h => h) (.inl ⟨by kernel_rfl, fun _ _ => by go_simp⟩) hS0 ?_
    refine wpAnyH_take (i := 11) (v := Value.string (⟨#[49, 32]⟩ ++ SA ++ ⟨#[32, 50, 32]⟩ ++ SB ++ ⟨#[32, 51]⟩)) rfl (by kernel_rfl) (by kernel_rfl) (by kernel_rfl) (fun _ _ _ h => h) (.inl ⟨by kernel_rfl, fun _ _ => by go_simp⟩) hS0 ?_
    refine wpAnyH_ready (rs := [12, 17]) (by kernel_rfl) (by simp) ?_
    refine AllReadyH.cons rfl ?_ (AllReadyH.cons rfl ?_ AllReadyH.nil)
    · intro K hK
      go_simp
      go_at_call 9
      with_reducible refine (KP.out _ hS0.below).mono ?_
      rintro x w1 ⟨⟨A1, c1, rfl, hk1, hb1⟩, hs1⟩
      have HW := Lib.hid (hS0.call hb1)
      try dsimp only
      refine hK.out _ _ HW.out (fun hS0 => ?_)
      clear hK K
      refine wpAnyH_take (i := 13) (v := Value.tuple #[yAgg X1 (.slice A1 X1.kids.length c1), .int .i64 (at' : Int), .int .i64 (e : Int)]) rfl (by kernel_rfl) (by kernel_rfl) (by kernel_rfl) (fun _ _ _ h => h) (.inl ⟨by kernel_rfl, fun _ _ => by go_simp⟩) hS0 ?_
      refine wpAnyH_take (i := 14) (v := yAgg X1 (.slice A1 X1.kids.length c1)) rfl (by kernel_rfl) (by kernel_rfl) (by kernel_rfl) (fun _ _ _ h => h) (.inl ⟨by kernel_rfl, fun _ _ => by go_simp⟩) hS0 ?_
      refine wpAnyH_take (i := 15) (v := Value.int .i64 (at' : Int)) rfl (by kernel_rfl) (by kernel_rfl) (by kernel_rfl) (fun _ _ _ h => h) (.inl ⟨by kernel_rfl, fun _ _ => by go_simp⟩) hS0 ?_
      refine wpAnyH_take (i := 16) (v := Value.int .i64 (e : Int)) rfl (by kernel_rfl) (by kernel_rfl) (by kernel_rfl) (fun _ _ _ h => h) (.inl ⟨by kernel_rfl, fun _ _ => by go_simp⟩) hS0 ?_
      clear hS0
      obtain ⟨U, hU⟩ : ∃ U, U = w1.alloc (.cells zN.toArray TN) := ⟨_, rfl⟩
      have eU : U = w1.alloc (.cells #[.int .i64 0, .string ⟨#[]⟩, .slice none 0 0] TN) := hU
      have bU : Below w1.heap.size w1 U := by rw [hU]; exact (Below.refl _ w1).alloc (Nat.le_refl _) _
      have HZ := Lib.hid (show U.heap[w1.heap.size]? = some (.cells zN.toArray TN (0, 0)) by rw [hU]; exact Go.heap_alloc_new w1 _)
      have HS := Lib.hid (HW.out.call bU)
      have HK := Lib.hid (show YX (fun k => k ≠ w1.heap.size) U X1 (.slice A1 X1.kids.length c1) from hk1.kept fun k _ _ _ _ hh => ⟨(bU.block k (Array.getElem?_eq_some_iff.1 hh).1).trans hh, by have := (Array.getElem?_eq_some_iff.1 hh).1; omega⟩)
      have hq1 := (Array.getElem?_eq_some_iff.1 HW.out.h2).1
      have hpw := HW.out.below.size
      clear hU bU hk1 hb1 HW
      refine wpAnyH_ready (rs := [17]) (by kernel_rfl) (by simp) ?_
      refine AllReadyH.cons rfl ?_ AllReadyH.nil
      intro K hK
      go_simp
      rw [← eU]
      clear eU
      generalize w1.heap.size = p at *
      try dsimp only
      refine hK.out _ _ HS.out (fun hS0 => ?_)
      clear hK K
      clear hS0
      refine wpAnyH_ready (rs := [18]) (by kernel_rfl) (by simp) ?_
      refine AllReadyH.cons rfl ?_ AllReadyH.nil
      intro K hK
      refine wp_store_mid TN (.tmp 10) (.tmp 41) rfl p 0 (yCells X1 (.slice A1 X1.kids.length c1)).toArray rfl rfl (there_of HZ.out rfl) (by rw [sizeN]; rfl) (all_oneCell_toArray (y_one X1 A1 X1.kids.length c1)) ?_
      obtain ⟨hV1, hP1⟩ := HS.out.put HZ.out hpw (by omega) (by omega) HK.out
      have HP1 := Lib.hid hP1
      have HV1 := Lib.hid hV1
      clear hV1 hP1 HS HZ HK hS0
      try dsimp only
      refine hK.out _ _ HV1.out (fun hS0 => ?_)
      clear hK K
      clear hS0
      refine wpAnyH_ready (rs := [19]) (by kernel_rfl) (by simp) ?_
      refine AllReadyH.cons rfl ?_ AllReadyH.nil
      intro K hK
      go_simp
      try dsimp only
      refine hK.out _ _ HV1.out (fun hS0 => ?_)
      clear hK K
      clear hS0
      refine wpAnyH_ready (rs := [20]) (by kernel_rfl) (by simp) ?_
      refine AllReadyH.cons rfl ?_ AllReadyH.nil
      intro K hK
      go_simp
      try dsimp only
      refine hK.out _ _ HV1.out (fun hS0 => ?_)
      clear hK K
      clear hS0
      refine wpAnyH_done (by kernel_rfl) ?_ _
      go_wp2
      go_meet
      exact ⟨p, A1, c1, rfl, rfl, HV1.out, HP1.out⟩
    · intro K hK
      go_simp
      obtain ⟨U, hU⟩ : ∃ U, U = (W1.alloc (.cells zN.toArray TN)).drew := ⟨_, rfl⟩
      have eU : U = (W1.alloc (.cells #[.int .i64 0, .string ⟨#[]⟩, .slice none 0 0] TN)).drew := hU
      have bU : Below W1.heap.size W1.drew U := by rw [hU]; exact (Below.refl _ W1.drew).alloc (Nat.le_refl _) _
      have HZ := Lib.hid (show U.heap[W1.heap.size]? = some (.cells zN.toArray TN (0, 0)) by rw [hU]; exact Go.heap_alloc_new W1 _)
      have HW := Lib.hid (HH.out.call bU)
      have hq1 := (Array.getElem?_eq_some_iff.1 HH.out.h2).1
      have hpw := HH.out.below.size
      rw [← eU]
      clear hU bU eU
      have hq2 : q + 1 < W1.heap.size := hq1
      have hpw2 : w.heap.size ≤ W1.heap.size := hpw
      clear hq1 hpw
      generalize W1.heap.size = p at HZ hq2 hpw2 ⊢
      try dsimp only
      refine hK.out _ _ HW.out (fun hS0 => ?_)
      clear hK K
      clear hS0
      refine wpAnyH_ready (rs := [12]) (by kernel_rfl) (by simp) ?_
      refine AllReadyH.cons rfl ?_ AllReadyH.nil
      intro K hK
      go_simp
      go_at_call 9
      with_reducible refine (KP.out _ HW.out.below).mono ?_
      rintro x w1 ⟨⟨A1, c1, rfl, hk1, hb1⟩, hs1⟩
      have hpl := (Array.getElem?_eq_some_iff.1 HZ.out).1
      have HS := Lib.hid (HW.out.call hb1)
      have HZ := Lib.hid ((hb1.block p hpl).trans HZ.out)
      have HK := Lib.hid (show YX (fun k => k ≠ p) w1 X1 (.slice A1 X1.kids.length c1) from hk1.kept fun k _ _ _ hk hh => ⟨hh, by omega⟩)
      clear hk1 hb1 hpl HW
      try dsimp only
      refine hK.out _ _ HS.out (fun hS0 => ?_)
      clear hK K
      refine wpAnyH_take (i := 13) (v := Value.tuple #[yAgg X1 (.slice A1 X1.kids.length c1), .int .i64 (at' : Int), .int .i64 (e : Int)]) rfl (by kernel_rfl) (by kernel_rfl) (by kernel_rfl) (fun _ _ _ h => h) (.inl ⟨by kernel_rfl, fun _ _ => by go_simp⟩) hS0 ?_
      refine wpAnyH_take (i := 14) (v := yAgg X1 (.slice A1 X1.kids.length c1)) rfl (by kernel_rfl) (by kernel_rfl) (by kernel_rfl) (fun _ _ _ h => h) (.inl ⟨by kernel_rfl, fun _ _ => by go_simp⟩) hS0 ?_
      refine wpAnyH_take (i := 15) (v := Value.int .i64 (at' : Int)) rfl (by kernel_rfl) (by kernel_rfl) (by kernel_rfl) (fun _ _ _ h => h) (.inl ⟨by kernel_rfl, fun _ _ => by go_simp⟩) hS0 ?_
      refine wpAnyH_take (i := 16) (v := Value.int .i64 (e : Int)) rfl (by kernel_rfl) (by kernel_rfl) (by kernel_rfl) (fun _ _ _ h => h) (.inl ⟨by kernel_rfl, fun _ _ => by go_simp⟩) hS0 ?_
      clear hS0
      refine wpAnyH_ready (rs := [18]) (by kernel_rfl) (by simp) ?_
      refine AllReadyH.cons rfl ?_ AllReadyH.nil
      intro K hK
      rw [if_pos (by kernel_rfl)]
      with_reducible refine wp_store_mid TN (.tmp 10) (.tmp 41) ?_ p 0 (yCells X1 (.slice A1 X1.kids.length c1)).toArray ?_ ?_ ?_ ?_ ?_ ?_
      · rfl
      · simp [Act.eval, Act.put]
      · simp [Act.eval, Act.put]
        rfl
      · exact there_of HZ.out rfl
      · rw [sizeN]; rfl
      · exact all_oneCell_toArray (y_one X1 A1 X1.kids.length c1)
      obtain ⟨hV1, hP1⟩ := HS.out.put HZ.out hpw2 (by omega) (by omega) HK.out
      have HP1 := Lib.hid hP1
      have HV1 := Lib.hid hV1
      clear hV1 hP1 HS HZ HK hS0
      try dsimp only
      refine hK.out _ _ HV1.out (fun hS0 => ?_)
      clear hK K
      clear hS0
      refine wpAnyH_ready (rs := [19]) (by kernel_rfl) (by simp) ?_
      refine AllReadyH.cons rfl ?_ AllReadyH.nil
      intro K hK
      go_simp
      try dsimp only
      refine hK.out _ _ HV1.out (fun hS0 => ?_)
      clear hK K
      clear hS0
      refine wpAnyH_ready (rs := [20]) (by kernel_rfl) (by simp) ?_
      refine AllReadyH.cons rfl ?_ AllReadyH.nil
      intro K hK
      go_simp
      try dsimp only
      refine hK.out _ _ HV1.out (fun hS0 => ?_)
      clear hK K
      clear hS0
      refine wpAnyH_done (by kernel_rfl) ?_ _
      go_wp2
      go_meet
      exact ⟨p, A1, c1, rfl, rfl, HV1.out, HP1.out⟩
  case rest =>
    obtain ⟨p, A1, c1, rfl, rfl, hsg, hyp⟩ := hcut
    clear KP HH z1 z2 z3 z4
    generalize wc = U at hsg hyp ⊢
    have HSG := Lib.hid hsg
    have HYP := Lib.hid hyp
    clear hsg hyp
    by_cases hx : a = 3 ∧ b = 3
    · have ha : ((a : Int) == 3) = true := by rw [hx.1]; rfl
      have hb : ((b : Int) == 3) = true := by rw [hx.2]; rfl
      have he := G.out.2 hx
      subst he
      clear hx G
      go_wp2
      go_ret
      exact ⟨rfl, HSG.out.below⟩
    obtain ⟨he, hn⟩ := G.out.1 hx
    subst he
    subst hn
    have NX := Lib.hid hx
    clear hx G
    go_upto_region 7 with fail
    go_cut [49] (fun v wx => v = .bool false ∧ U = wx)
    case first =>
      by_cases h3 : a = 3
      · have hb3 : b ≠ 3 := fun h => NX.out ⟨h3, h⟩
        have za : ((a : Int) == 3) = true := by rw [h3]; rfl
        have zb : ((b : Int) == 3) = false := beq_false_of_ne (by omega)
        have zb1 : ¬ (b : Int) = 3 := by omega
        clear h3 hb3
        go_wp2_with fail
        go_meet
        exact ⟨rfl, rfl⟩
      · have za : ((a : Int) == 3) = false := beq_false_of_ne (by omega)
        have za1 : ¬ (a : Int) = 3 := by omega
        clear h3
        go_wp2_with fail
        go_meet
        exact ⟨rfl, rfl⟩
    case rest =>
      obtain ⟨rfl, rfl⟩ := hcut
      clear NX
      have s0 := HSG.out.st a9
      have s1 := HSG.out.st b9
      have w0 := HSG.out.sg a9 HSA.out
      have w1 := HSG.out.sg b9 HSB.out
      obtain ⟨sa, hsa⟩ : ∃ s, s = sgnS a := ⟨_, rfl⟩
      obtain ⟨sb, hsb⟩ : ∃ s, s = sgnS b := ⟨_, rfl⟩
      rw [← hsa] at s0
      rw [← hsb] at s1
      cases hL : sgnLeft a b with
      | true =>
        have e1 : X1 = .mk 17 (sgn b) [.mk 17 (sgn a) [toY num1, toY num2], toY num3] := by
          rw [HX.out]; unfold sgnN; rw [if_pos hL]; simp [toY, toYs]
        have hl : sb < sa ∨ (sa = sb ∧ a ≠ 0) := by
          unfold sgnLeft at hL
          rw [← hsa, ← hsb] at hL
          simpa using hL
        have HL := Lib.hid hl
        have c2 : U.cell? ⟨p, 2, none⟩ = some (.slice A1 2 c1) := by have := HYP.out.all.2.2; rw [e1] at this; exact this
        have c1' : U.cell? ⟨p, 1, none⟩ = some (.string SB) := by have := HYP.out.all.2.1; rw [e1] at this; rw [HSB.out]; exact this
        obtain ⟨q1, o1, rfl, hv⟩ := HYP.out.kids.kid (by rw [e1]; simp [Ny.kids])
        obtain ⟨_, _, r0, _⟩ := hv 0 (.mk 17 (sgn a) [toY num1, toY num2]) (by rw [e1]; rfl)
        obtain ⟨_, _, r1, _⟩ := hv 1 (toY num3) (by rw [e1]; rfl)
        have d0 : U.cell? ⟨q1, o1 + 1, none⟩ = some (.string SA) := by rw [HSA.out]; exact r0 1 _ rfl
        have d1 : U.cell? ⟨q1, o1 + 4, none⟩ = some (.string ⟨#[51]⟩) := r1 1 _ rfl
        clear hv r0 r1 e1 hl hL hsa hsb
        go_upto_region 11 with fail
        go_cut [13] (fun v wx => v = .bool true ∧ ∃ n, wx = U.drewN n)
        case first =>
          by_cases g1 : sb < sa
          · have z1 : decide (sb < sa) = true := decide_eq_true g1
            clear g1
            go_quiet (fail)
            go_wp2_with fail
            go_meet
            exact ⟨rfl, _, rfl⟩
          · have z1 : decide (sb < sa) = false := decide_eq_false g1
            have z2 : (sa == sb) = true := by have := HL.out; simp; omega
            have z3 : ((sa : Int) == (sb : Int)) = true := by have := HL.out; simp; omega
            have z4 : ((a : Int) == 0) = false := beq_false_of_ne (by have := HL.out; omega)
            have z5 : ¬ (a : Int) = 0 := by have := HL.out; omega
            have z6 : ((a : Int) != 0) = true := by simp; omega
            clear g1
            go_quiet (fail)
            go_wp2_with fail
            go_meet
            exact ⟨by first | rfl | rw [z6], _, rfl⟩
        case rest =>
          obtain ⟨rfl, n, rfl⟩ := hcut
          have HSV := Lib.hid (show Below w.heap.size w (U.drewN n) from HSG.out.below.trans ⟨rfl, rfl, rfl, Nat.le_refl _, fun _ _ => rfl⟩)
          have v1 : (U.drewN n).cell? ⟨q, a, none⟩ = some (.string SA) := w0
          have v2 : (U.drewN n).cell? ⟨q, b, none⟩ = some (.string SB) := w1
          have v3 : (U.drewN n).cell? ⟨p, 1, none⟩ = some (.string SB) := c1'
          have v4 : (U.drewN n).cell? ⟨p, 2, none⟩ = some (.slice (some ⟨q1, o1, none⟩) 2 c1) := c2
          have v5 : (U.drewN n).cell? ⟨q1, o1 + 1, none⟩ = some (.string SA) := d0
          have v6 : (U.drewN n).cell? ⟨q1, o1 + 4, none⟩ = some (.string ⟨#[51]⟩) := d1
          clear w0 w1 c1' c2 d0 d1 s0 s1 HSG HYP HX HL HSA HSB
          generalize U.drewN n = V at HSV v1 v2 v3 v4 v5 v6 ⊢
          go_upto_region 13 with fail
          go_quiet (fail)
          go_wp2_with fail
          go_ret
          exact ⟨rfl, HSV.out.trans ⟨rfl, rfl, rfl, Nat.le_refl _, fun _ _ => rfl⟩⟩
      | false =>
        have e1 : X1 = .mk 17 (sgn a) [toY num1, .mk 17 (sgn b) [toY num2, toY num3]] := by
          rw [HX.out]; unfold sgnN; rw [if_neg (by rw [hL]; decide)]; simp [toY, toYs]
        have hl : ¬ sb < sa ∧ (sa = sb → a = 0) := by
          unfold sgnLeft at hL
          rw [← hsa, ← hsb] at hL
          simpa using hL
        have HL := Lib.hid hl
        have c2 : U.cell? ⟨p, 2, none⟩ = some (.slice A1 2 c1) := by have := HYP.out.all.2.2; rw [e1] at this; exact this
        have c1' : U.cell? ⟨p, 1, none⟩ = some (.string SA) := by have := HYP.out.all.2.1; rw [e1] at this; rw [HSA.out]; exact this
        obtain ⟨q1, o1, rfl, hv⟩ := HYP.out.kids.kid (by rw [e1]; simp [Ny.kids])
        obtain ⟨_, _, r0, _⟩ := hv 0 (toY num1) (by rw [e1]; rfl)
        obtain ⟨_, _, r1, _⟩ := hv 1 (.mk 17 (sgn b) [toY num2, toY num3]) (by rw [e1]; rfl)
        have d0 : U.cell? ⟨q1, o1 + 1, none⟩ = some (.string ⟨#[49]⟩) := r0 1 _ rfl
        have d1 : U.cell? ⟨q1, o1 + 4, none⟩ = some (.string SB) := by rw [HSB.out]; exact r1 1 _ rfl
        clear hv r0 r1 e1 hl hL hsa hsb
        go_upto_region 11 with fail
        go_cut [13] (fun v wx => v = .bool false ∧ ∃ n, wx = U.drewN n)
        case first =>
          have z1 : decide (sb < sa) = false := decide_eq_false HL.out.1
          by_cases g1 : sa = sb
          · have z2 : (sa == sb) = true := by simp [g1]
            have z3 : ((sa : Int) == (sb : Int)) = true := by simp [g1]
            have z4 : ((a : Int) == 0) = true := by have := HL.out.2 g1; simp [this]
            have z5 : ((a : Int) != 0) = false := by have := HL.out.2 g1; simp [this]
            clear g1
            go_quiet (fail)
            go_wp2_with fail
            go_meet
            exact ⟨by first | rfl | rw [z5], _, rfl⟩
          · have z2 : (sa == sb) = false := beq_false_of_ne g1
            have z3 : ((sa : Int) == (sb : Int)) = false := beq_false_of_ne (by omega)
            clear g1
            go_quiet (fail)
            go_wp2_with fail
            go_meet
            exact ⟨rfl, _, rfl⟩
        case rest =>
          obtain ⟨rfl, n, rfl⟩ := hcut
          have HSV := Lib.hid (show Below w.heap.size w (U.drewN n) from HSG.out.below.trans ⟨rfl, rfl, rfl, Nat.le_refl _, fun _ _ => rfl⟩)
          have v1 : (U.drewN n).cell? ⟨q, a, none⟩ = some (.string SA) := w0
          have v2 : (U.drewN n).cell? ⟨q, b, none⟩ = some (.string SB) := w1
          have v3 : (U.drewN n).cell? ⟨p, 1, none⟩ = some (.string SA) := c1'
          have v4 : (U.drewN n).cell? ⟨p, 2, none⟩ = some (.slice (some ⟨q1, o1, none⟩) 2 c1) := c2
          have v5 : (U.drewN n).cell? ⟨q1, o1 + 1, none⟩ = some (.string ⟨#[49]⟩) := d0
          have v6 : (U.drewN n).cell? ⟨q1, o1 + 4, none⟩ = some (.string SB) := d1
          clear w0 w1 c1' c2 d0 d1 s0 s1 HSG HYP HX HL HSA HSB
          generalize U.drewN n = V at HSV v1 v2 v3 v4 v5 v6 ⊢
          go_upto_region 14 with fail
          go_quiet (fail)
          go_wp2_with fail
          go_ret
          exact ⟨rfl, HSV.out.trans ⟨rfl, rfl, rfl, Nat.le_refl _, fun _ _ => rfl⟩⟩

end Go.Proofs.YtbgmdkjhegacjaaGreatDoor
