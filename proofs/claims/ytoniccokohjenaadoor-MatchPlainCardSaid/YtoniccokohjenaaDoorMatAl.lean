/-
  The walk of match's All (chapter 19).
-/
import Derived.Test.YtoniccokohjenaaDoorMatAv
import Derived.Test.YtoniccokohjenaaDoorMatZ
namespace Go.Proofs.YtoniccokohjenaaDoor
open Go.RowKit

theorem run_end {m : Md} {l : List Int} {x : Rx} {b G i e : Nat} {T T' : Nat → Bool} {M : List Int} (hs : Snd x 1 b) (hb : b ≤ G + 1) (hi : i ≤ l.length) (h : runAt m l (stepsOf x) G i T = (some (e, M), T')) : i ≤ e ∧ e ≤ l.length ∧ M.length = 2 * G := by
  have hP : 0 < (stepsOf x).length := by simp [stepsOf]
  have := dfs_inv (i0 := i) hs hb _ _ _ _ _ _ _ h hP hi (Nat.le_refl _) (by rw [(ann_steps hs hb).1]; exact InvM.start i G)
  exact ⟨this.2.1, this.2.2, this.1.len⟩
theorem marks_set {k n : Nat} {M : List Int} (hn : M.length = n) (hk : k < n) : (List.replicate k (-1) ++ M.drop k).set k (-1) = List.replicate (k + 1) (-1) ++ M.drop (k + 1) := by
  rw [List.set_append_right _ _ (by simp), List.length_replicate, Nat.sub_self, List.drop_eq_getElem_cons (by omega), List.set_cons_zero, List.replicate_succ', List.append_assoc]
  rfl

set_option maxHeartbeats 4000000 in
set_option maxRecDepth 100000 in
theorem mtAll_any (p t f : ByteArray) (w : World) (hp : p.size ≤ 1000000) (ht : t.size ≤ 1000) :
    Calls Tryd.prog 7 #[.string p, .string t, .string f] w (IsAll (allV p.data.toList t.data.toList f.data.toList) w) := by
  have KR := Lib.hid (fun W => mtRead_any f W)
  have KP := Lib.hid (fun b W => rxParse_any p b W (by omega))
  have KE := Lib.hid (fun W => utfExplode_any t W (by omega))
  have hll : (explode t.data.toList).length ≤ 1000 := by have := explode_len t.data.toList; have := Lib.size_eq t; omega
  have hpt := explode_pt t.data.toList
  obtain ⟨RS, hRS⟩ : ∃ r, r = allV p.data.toList t.data.toList f.data.toList := ⟨_, rfl⟩
  rw [← hRS]
  unfold allV at hRS
  generalize explode t.data.toList = l at *
  generalize f.data.toList = fl at *
  generalize p.data.toList = pl at *
  have HLL := Lib.hid hll
  have HPT := Lib.hid hpt
  clear hll hpt hp ht
  cases hrd : readF md0 fl with
  | none =>
    rw [hrd] at hRS
    have HRD := Lib.hid hrd
    have HRS := Lib.hid hRS
    clear hrd hRS
    go_enter Tryd.func7, Tryd.ntmps7
    go_wp2_with (go_at_call 10; refine (KR.out _).mono ?_)
    rintro e w1 ⟨m, rfl, hm, hb1⟩
    rw [HRD.out]
    simp only [Option.isSome_none, mdAgg]
    have B1 := Lib.hid (hb1.alloc hb1.size (.cells #[.bool m.all, .bool m.fold, .bool m.free, .bool m.dot, .bool m.some] 40))
    clear hb1 hm
    go_wp2
    go_ret2
    rw [HRS.out]
    exact IsAll.bad B1.out
  | some m =>
    rw [hrd] at hRS
    simp only at hRS
    obtain ⟨r, hr⟩ : ∃ r, r = parseV pl m.free := ⟨_, rfl⟩
    rw [← hr] at hRS
    obtain ⟨x, ns, px, e0⟩ := r
    have kp := KP.out m.free
    rw [← hr] at kp
    have hr' : parseL m.free (explode pl) = (x, ns, px, e0) := hr.symm
    have HGD := Lib.hid (parse_gd x ns px e0 hr')
    have hsm := parse_sm x ns px e0 hr'
    have hsd := parse_sound hr'
    have HSM := Lib.hid hsm
    have HSD := Lib.hid hsd
    have HRD := Lib.hid hrd
    have KP := Lib.hid kp
    simp only at hRS
    have HRS := Lib.hid hRS
    clear hrd hr hr' hsm hsd kp hRS
    go_enter Tryd.func7, Tryd.ntmps7
    go_wp2_with (go_at_call 10; refine (KR.out _).mono ?_)
    rintro e w1 ⟨m', rfl, hm, hb1⟩
    rw [HRD.out]
    obtain rfl := hm m HRD.out
    simp only [Option.isSome_some, mdAgg]
    obtain ⟨V1, hV1⟩ : ∃ V, V = w1.alloc (.cells #[.bool m.all, .bool m.fold, .bool m.free, .bool m.dot, .bool m.some] 40) := ⟨_, rfl⟩
    have h8 : V1.heap[w1.heap.size]? = some (.cells (mdCells m).toArray TMd (0, 0)) := by rw [hV1]; exact Go.heap_alloc_new w1 _
    have B1 := Lib.hid (show Below w.heap.size w V1 by rw [hV1]; exact hb1.alloc hb1.size _)
    have H8 := Lib.hid h8
    have c2 : V1.cell? ⟨w1.heap.size, 2, none⟩ = some (.bool m.free) := by rw [Lib.cell_of_heap h8]; rfl
    clear hb1 hm h8
    go_upto_region 2 with fail
    rw [← hV1]
    clear hV1
    generalize w1.heap.size = b8 at *
    go_wp2_with (go_at_call 11; refine (KP.out _).mono ?_)
    rintro e w2 ⟨kv, nv, rfl, hk2, hn2, hb2⟩
    obtain ⟨XA, Xc, rfl⟩ := hk2.slice
    obtain ⟨V2, hV2⟩ : ∃ V, V = w2.alloc (.cells (rxCells x (.slice XA x.kids.length Xc)).toArray TRx) := ⟨_, rfl⟩
    have hb22 : Below V1.heap.size V1 V2 := by rw [hV2]; exact hb2.alloc hb2.size _
    have hal : Below w2.heap.size w2 V2 := by rw [hV2]; exact (Below.refl _ w2).alloc (Nat.le_refl _) _
    have hx2 : V2.heap[w2.heap.size]? = some (.cells (rxCells x (.slice XA x.kids.length Xc)).toArray TRx (0, 0)) := by rw [hV2]; exact Go.heap_alloc_new w2 _
    have hkt : KT V2 x XA Xc := KX.kept (fun q c z _ h => ⟨heap_call h hal, trivial⟩) hk2
    have hnm : V2.ownsRow w.heap.size 9 1 nv ns.length (strCells ns) := rowns_lower (rowns_below hn2 hal) B1.out.size
    have B2 := Lib.hid (B1.out.trans (hb22.mono B1.out.size))
    have H8' := Lib.hid (heap_call H8.out hb22)
    have HX2 := Lib.hid hx2
    have HKT := Lib.hid hkt
    have HNM := Lib.hid hnm
    have hV2' : V2 = w2.alloc (.cells #[.int .i64 (x.kind : Int), .int .i64 x.rune, .int .i64 x.to, .slice XA x.kids.length Xc, .int .i64 x.min, .int .i64 x.max, .bool x.lazy, .bool x.not, .int .i64 (x.group : Int), .string ⟨x.name.toArray⟩] TRx) := hV2
    clear hk2 hn2 hb2 hb22 hal hx2 hkt hnm hV2 H8 B1
    have H8 := H8'
    clear H8'
    simp only [rxAgg]
    go_upto_region 5 with fail
    rw [← hV2']
    clear hV2' c2
    generalize w2.heap.size = b10 at *
    by_cases he0 : e0 = 0
    · subst he0
      have hsnd := (HSD.out.2.1 rfl).1
      have hgd := HGD.out
      have hsz := lay_size hgd
      have hhi := size_hi x
      have hRS := HRS.out
      rw [if_neg (fun h => h rfl)] at hRS
      have KZ := Lib.hid (fun (W : World) (h : KT W x XA Xc) => mtSize_any (m := 1002) (Nat.le_refl _) HSM.out.1 hgd XA Xc W h)
      have HSZ := Lib.hid hsz
      have HSND := Lib.hid hsnd
      obtain ⟨s, hs⟩ : ∃ s, s = sizeR x := ⟨_, rfl⟩
      have s0 : 0 ≤ s := by rw [hs]; exact hsz.1
      rw [← hs] at KZ hhi hRS
      have HRS := Lib.hid hRS
      have HS := Lib.hid hs
      clear hs hsz hgd hsnd hRS
      go_upto_region 7 with fail
      go_wp2_with (go_at_call 6; refine (KE.out _).mono ?_)
      rintro e w3 ⟨Lv, rfl, hL, hb3⟩
      obtain ⟨LA, Lc, rfl, hLc, hRd⟩ := hL.rd
      have B3 := Lib.hid (B2.out.trans (hb3.mono B2.out.size))
      have H8' := Lib.hid (heap_call H8.out hb3)
      have hx3 := heap_call HX2.out hb3
      have hkt3 : KT w3 x XA Xc := KX.below HKT.out hb3
      have HNM' := Lib.hid (rowns_below HNM.out hb3)
      have HRD3 := Lib.hid hRd
      have HX3 := Lib.hid hx3
      have HKT3 := Lib.hid hkt3
      have d0 : w3.cell? ⟨b10, 0, none⟩ = some (.int .i64 (x.kind : Int)) := by rw [Lib.cell_of_heap hx3]; rfl
      have d1 : w3.cell? ⟨b10, 1, none⟩ = some (.int .i64 x.rune) := by rw [Lib.cell_of_heap hx3]; rfl
      have d2 : w3.cell? ⟨b10, 2, none⟩ = some (.int .i64 x.to) := by rw [Lib.cell_of_heap hx3]; rfl
      have d3 : w3.cell? ⟨b10, 3, none⟩ = some (.slice XA x.kids.length Xc) := by rw [Lib.cell_of_heap hx3]; rfl
      have d4 : w3.cell? ⟨b10, 4, none⟩ = some (.int .i64 x.min) := by rw [Lib.cell_of_heap hx3]; rfl
      have d5 : w3.cell? ⟨b10, 5, none⟩ = some (.int .i64 x.max) := by rw [Lib.cell_of_heap hx3]; rfl
      have d6 : w3.cell? ⟨b10, 6, none⟩ = some (.bool x.lazy) := by rw [Lib.cell_of_heap hx3]; rfl
      have d7 : w3.cell? ⟨b10, 7, none⟩ = some (.bool x.not) := by rw [Lib.cell_of_heap hx3]; rfl
      have d8 : w3.cell? ⟨b10, 8, none⟩ = some (.int .i64 (x.group : Int)) := by rw [Lib.cell_of_heap hx3]; rfl
      have d9 : w3.cell? ⟨b10, 9, none⟩ = some (.string ⟨x.name.toArray⟩) := by rw [Lib.cell_of_heap hx3]; rfl
      clear hL hb3 hLc hRd hx3 hkt3 B2 H8 HNM HX2 HKT
      simp only [rxAgg] at KZ
      go_wp2_with (go_at_call 12; refine (KZ.out _ HKT3.out).mono ?_)
      rintro e w4 ⟨rfl, hb4⟩
      have B4 := Lib.hid (B3.out.trans (hb4.mono B3.out.size))
      have H8 := Lib.hid (heap_call H8'.out hb4)
      have HNM := Lib.hid (rowns_below HNM'.out hb4)
      have HRD4 := Lib.hid (HRD3.out.below hb4)
      have HX4 := Lib.hid (heap_call HX3.out hb4)
      have HKT4 := Lib.hid (KX.below HKT3.out hb4)
      clear hb4 d0 d1 d2 d3 d4 d5 d6 d7 d8 d9 H8' HNM' HRD3 HX3 HKT3 B3
      by_cases hs1 : 20000 < s
      · have HRS' := Lib.hid (show RS = ([], [], 10) by rw [HRS.out, if_pos (.inl hs1)])
        have z1 : decide (20000 < s) = true := decide_eq_true hs1
        clear hs1
        go_wp2
        go_ret2
        rw [HRS'.out]
        exact IsAll.bad B4.out
      have z1 : decide (20000 < s) = false := decide_eq_false hs1
      obtain ⟨N, hN⟩ : ∃ N, N = l.length := ⟨_, rfl⟩
      have hN1 := HLL.out
      rw [← hN] at hN1 HRD4 ⊢
      obtain ⟨N1, hN2⟩ : ∃ N1 : Int, N1 = (N : Int) + 1 := ⟨_, rfl⟩
      obtain ⟨pr, hpr⟩ : ∃ pr, pr = s * N1 := ⟨_, rfl⟩
      have e1 : (N : Int) + 1 = N1 := hN2.symm
      have e2 : s * N1 = pr := hpr.symm
      have hpb : 0 ≤ pr ∧ pr ≤ 20000 * 1001 := by
        rw [hpr]
        exact ⟨Int.mul_nonneg s0 (by omega), Int.mul_le_mul (by omega) (by omega) (by omega) (by decide)⟩
      have w1 : IntKind.i64.wrap N1 = N1 := IntWalk.i64_in _ (by omega)
      have w2 : IntKind.i64.wrap pr = pr := IntWalk.i64_in _ (by omega)
      have hRS := HRS.out
      rw [← hN, e1, e2] at hRS
      by_cases hs2 : 100000 < pr
      · rw [if_pos (.inr hs2)] at hRS
        have HRS' := Lib.hid hRS
        have z2 : decide (100000 < pr) = true := decide_eq_true hs2
        clear hs1 hs2 hN hN1 hN2 hpr hpb HSM hRS
        go_wp2
        go_ret2
        rw [HRS'.out]
        exact IsAll.bad B4.out
      have z2 : decide (100000 < pr) = false := decide_eq_false hs2
      rw [if_neg (fun h => h.elim hs1 hs2)] at hRS
      have HRS' := Lib.hid hRS
      have HN := Lib.hid hN
      have HPR := Lib.hid (show s * ((N : Int) + 1) ≤ 100000 by rw [e1, e2]; omega)
      have HS1 := Lib.hid (show s ≤ 20000 by omega)
      clear hs1 hs2 hN hN1 hN2 hpr hpb hhi hRS HRS
      go_upto_region 11 with fail
      -- the steps are laid
      have hlen : ((layR x 0).length : Int) = s := by rw [HS.out]; exact HSZ.out.2 (by rw [← HS.out]; exact HS1.out) 0
      have hal : Below w4.heap.size w4 (w4.alloc (.cells #[.slice none 0 0] TMk)) := (Below.refl _ w4).alloc (Nat.le_refl _) _
      have hx5 := heap_call HX4.out hal
      have d0 : (w4.alloc (.cells #[.slice none 0 0] TMk)).cell? ⟨b10, 0, none⟩ = some (.int .i64 (x.kind : Int)) := by rw [Lib.cell_of_heap hx5]; rfl
      have d1 : (w4.alloc (.cells #[.slice none 0 0] TMk)).cell? ⟨b10, 1, none⟩ = some (.int .i64 x.rune) := by rw [Lib.cell_of_heap hx5]; rfl
      have d2 : (w4.alloc (.cells #[.slice none 0 0] TMk)).cell? ⟨b10, 2, none⟩ = some (.int .i64 x.to) := by rw [Lib.cell_of_heap hx5]; rfl
      have d3 : (w4.alloc (.cells #[.slice none 0 0] TMk)).cell? ⟨b10, 3, none⟩ = some (.slice XA x.kids.length Xc) := by rw [Lib.cell_of_heap hx5]; rfl
      have d4 : (w4.alloc (.cells #[.slice none 0 0] TMk)).cell? ⟨b10, 4, none⟩ = some (.int .i64 x.min) := by rw [Lib.cell_of_heap hx5]; rfl
      have d5 : (w4.alloc (.cells #[.slice none 0 0] TMk)).cell? ⟨b10, 5, none⟩ = some (.int .i64 x.max) := by rw [Lib.cell_of_heap hx5]; rfl
      have d6 : (w4.alloc (.cells #[.slice none 0 0] TMk)).cell? ⟨b10, 6, none⟩ = some (.bool x.lazy) := by rw [Lib.cell_of_heap hx5]; rfl
      have d7 : (w4.alloc (.cells #[.slice none 0 0] TMk)).cell? ⟨b10, 7, none⟩ = some (.bool x.not) := by rw [Lib.cell_of_heap hx5]; rfl
      have d8 : (w4.alloc (.cells #[.slice none 0 0] TMk)).cell? ⟨b10, 8, none⟩ = some (.int .i64 (x.group : Int)) := by rw [Lib.cell_of_heap hx5]; rfl
      have d9 : (w4.alloc (.cells #[.slice none 0 0] TMk)).cell? ⟨b10, 9, none⟩ = some (.string ⟨x.name.toArray⟩) := by rw [Lib.cell_of_heap hx5]; rfl
      obtain ⟨V5, hV5⟩ : ∃ V, V = w4.alloc (.cells #[.slice none 0 0] TMk) := ⟨_, rfl⟩
      have hmk5 : MkB w4 V5 w4.heap.size [] := by
        rw [hV5]
        exact ⟨hal, Nat.le_refl _, ⟨none, 0, Go.heap_alloc_new w4 _, rfl, .inl ⟨rfl, rfl⟩⟩, fun z hz => by cases hz⟩
      have hlay := mtLay_any w4 (m := 1002) (Nat.le_refl _) HSM.out.1 HGD.out w4.heap.size [] XA Xc V5 hmk5 HKT4.out (by have := HS1.out; simp only [List.length_nil]; omega)
      rw [← hV5] at d0 d1 d2 d3 d4 d5 d6 d7 d8 d9
      simp only [rxAgg] at hlay
      have KL := Lib.hid hlay
      have HLEN := Lib.hid hlen
      clear hlay hmk5 hx5 hal hlen
      go_upto_region 12 with fail
      rw [← hV5]
      clear hV5
      obtain ⟨g, hg⟩ : ∃ g, g = w4.heap.size := ⟨_, rfl⟩
      rw [← hg] at KL ⊢
      have HG := Lib.hid hg
      clear hg e1 e2 w1 w2 z1 z2
      go_wp2_with (go_at_call 13; with_reducible refine (KL.out).mono ?_)
      rintro e w6 ⟨rfl, new, hmk6, hmap6, _⟩
      rw [List.nil_append] at hmk6
      simp only [List.length_nil] at hmap6
      have KPD := Lib.hid (show Calls Tryd.prog 14 #[.pointer (some ⟨g, 0, none⟩), .agg #[.int .i64 5, .int .i64 0, .int .i64 0, .int .i64 0, .slice none 0 0, .int .i64 0, .int .i64 0, .bool false, .bool false, .int .i64 0, .string ⟨#[]⟩, .int .i64 0, .int .i64 0]] w6 (RetE (.int .i64 (new.length : Int)) fun w' => MkB w4 w' g (new ++ [(sDone, .slice none 0 0)]) ∧ OffM w6 w') from
        mtPut_any (sDone, .slice none 0 0) w6 hmk6 (TzS.plain w4 5 0 0) (by have := congrArg List.length hmap6; rw [List.length_map] at this; have h1 := HLEN.out; have h2 := HS1.out; omega))
      have HMAP := Lib.hid hmap6
      clear hmk6 hmap6 d0 d1 d2 d3 d4 d5 d6 d7 d8 d9
      go_wp2_with (go_at_call 14; with_reducible refine (KPD.out).mono ?_)
      rintro e w7 ⟨rfl, hmk7, _⟩
      obtain ⟨zs, hzs⟩ : ∃ zs, zs = new ++ [((sDone, .slice none 0 0) : Stp × Value)] := ⟨_, rfl⟩
      have hzP : zs.map Prod.fst = stepsOf x := by rw [hzs, List.map_append, HMAP.out]; rfl
      rw [← hzs] at hmk7
      have hzl : zs.length = (layR x 0).length + 1 := by have := congrArg List.length hzP; rw [List.length_map] at this; rw [this]; simp [stepsOf]
      clear hzs
      obtain ⟨SA, scap, hg7, hrow7⟩ := hmk7.row
      obtain ⟨sb, cur, hSA, hsb, hh7, htk⟩ : ∃ sb cur, SA = some ⟨sb, 0, none⟩ ∧ g + 1 ≤ sb ∧ w7.heap[sb]? = some (.cells cur TS (0, 0)) ∧ cur.toList.take (zs.length * 13) = stsCells zs := by
        rcases hrow7.2 with ⟨_, h0⟩ | ⟨sb, cap, cur, hv, hB, hh, _, _, _, h4⟩
        · omega
        · injection hv with h1 _ _
          exact ⟨sb, cur, h1, hB, hh, h4⟩
      subst hSA
      have hb47 := hmk7.below
      have h87 := heap_call H8.out hb47
      have hnm7 := rowns_below HNM.out hb47
      obtain ⟨NA, ncap, rfl⟩ := rowns_slice hnm7
      obtain ⟨n, hn⟩ : ∃ n, n = zs.length := ⟨_, rfl⟩
      have hn2 : n ≤ 20001 := by have h1 := HLEN.out; have h2 := HS1.out; omega
      rw [← hn] at hg7 hzl htk
      obtain ⟨G2, hG2⟩ : ∃ k, k = 2 * ns.length := ⟨_, rfl⟩
      have hg2 := HSM.out.2
      have hmkI := make_int G2 (by omega)
      obtain ⟨W8, hW8⟩ : ∃ W, W = w7.alloc (.cells (madeCells #[.int .i64 0] G2) 3) := ⟨_, rfl⟩
      have hb78 : Below w7.heap.size w7 W8 := by rw [hW8]; exact (Below.refl _ w7).alloc (Nat.le_refl _) _
      have h88 := heap_call h87 hb78
      have hg8 := heap_call hg7 hb78
      have k0 : w7.cell? ⟨b8, 0, none⟩ = some (.bool m.all) := by rw [Lib.cell_of_heap h87]; rfl
      have k1 : w7.cell? ⟨b8, 1, none⟩ = some (.bool m.fold) := by rw [Lib.cell_of_heap h87]; rfl
      have k2 : w7.cell? ⟨b8, 2, none⟩ = some (.bool m.free) := by rw [Lib.cell_of_heap h87]; rfl
      have k3 : w7.cell? ⟨b8, 3, none⟩ = some (.bool m.dot) := by rw [Lib.cell_of_heap h87]; rfl
      have k4 : w7.cell? ⟨b8, 4, none⟩ = some (.bool m.some) := by rw [Lib.cell_of_heap h87]; rfl
      have k5 : w7.cell? ⟨g, 0, none⟩ = some (.slice (some ⟨sb, 0, none⟩) n scap) := by rw [Lib.cell_of_heap hg7]; rfl
      have m0 : W8.cell? ⟨b8, 0, none⟩ = some (.bool m.all) := by rw [Lib.cell_of_heap h88]; rfl
      have m1 : W8.cell? ⟨b8, 1, none⟩ = some (.bool m.fold) := by rw [Lib.cell_of_heap h88]; rfl
      have m2 : W8.cell? ⟨b8, 2, none⟩ = some (.bool m.free) := by rw [Lib.cell_of_heap h88]; rfl
      have m3 : W8.cell? ⟨b8, 3, none⟩ = some (.bool m.dot) := by rw [Lib.cell_of_heap h88]; rfl
      have m4 : W8.cell? ⟨b8, 4, none⟩ = some (.bool m.some) := by rw [Lib.cell_of_heap h88]; rfl
      have m5 : W8.cell? ⟨g, 0, none⟩ = some (.slice (some ⟨sb, 0, none⟩) n scap) := by rw [Lib.cell_of_heap hg8]; rfl
      rw [hW8] at m0 m1 m2 m3 m4 m5
      obtain ⟨NL, hNL⟩ : ∃ k, k = ns.length := ⟨_, rfl⟩
      rw [← hNL] at hG2 hg2 hnm7 ⊢
      have q1 : 2 * (NL : Int) = (G2 : Int) := by omega
      have q2 : IntKind.i64.wrap (G2 : Int) = (G2 : Int) := IntWalk.i64_in _ (by omega)
      have HMK := Lib.hid hmk7
      have HZP := Lib.hid hzP
      have HH7 := Lib.hid hh7
      have HTK := Lib.hid htk
      have HN1 := Lib.hid hn
      have HNL := Lib.hid hNL
      have HSB := Lib.hid hsb
      have H87 := Lib.hid h87
      have HNM7 := Lib.hid hnm7
      have HG2 := Lib.hid hG2
      clear hmk7 hzP hh7 htk hn hNL hsb h87 h88 hg8 hg7 hnm7 hrow7 hb47 hb78 hW8 hzl hG2 s0
      simp only
      go_wp2
      go_upto_region 14 with fail
      go_region
      go_upto_region 15 with fail
      obtain ⟨V9, hV9⟩ : ∃ V, V = ((w7.alloc (.cells (madeCells #[.int .i64 0] G2) 3)).alloc (.cells #[.bool m.all, .bool m.fold, .bool m.free, .bool m.dot, .bool m.some, .slice (some ⟨sb, 0, none⟩) n scap, .slice LA N Lc, .slice none 0 0, .slice (some ⟨w7.heap.size, 0, none⟩) G2 G2] TMt)).drew := ⟨_, rfl⟩
      have hs9 : V9.heap.size = w7.heap.size + 2 := by rw [hV9]; simp [World.size_alloc]
      have hb79 : Below w7.heap.size w7 V9 := by
        rw [hV9]
        exact (((Below.refl _ w7).alloc (Nat.le_refl _) _).alloc (by rw [World.size_alloc]; omega) _).drew
      have hmb9 : V9.heap[w7.heap.size]? = some (.cells (madeCells #[.int .i64 0] G2) 3 (0, 0)) := by
        rw [hV9]
        exact (Below.heap_alloc _ _ _ (by rw [World.size_alloc]; omega)).trans (Go.heap_alloc_new w7 _)
      have hgm9 : V9.heap[w7.heap.size + 1]? = some (.cells #[.bool m.all, .bool m.fold, .bool m.free, .bool m.dot, .bool m.some, .slice (some ⟨sb, 0, none⟩) n scap, .slice LA N Lc, .slice none 0 0, .slice (some ⟨w7.heap.size, 0, none⟩) G2 G2] TMt (0, 0)) := by
        rw [hV9]
        have := Go.heap_alloc_new (w7.alloc (.cells (madeCells #[.int .i64 0] G2) 3)) (.cells #[.bool m.all, .bool m.fold, .bool m.free, .bool m.dot, .bool m.some, .slice (some ⟨sb, 0, none⟩) n scap, .slice LA N Lc, .slice none 0 0, .slice (some ⟨w7.heap.size, 0, none⟩) G2 G2] TMt)
        rw [World.size_alloc] at this
        exact this
      rw [← hV9]
      clear hV9 k0 k1 k2 k3 k4 k5 m0 m1 m2 m3 m4 m5 q1 q2 hmkI
      obtain ⟨gm, hgm⟩ : ∃ k, k = w7.heap.size + 1 := ⟨_, rfl⟩
      obtain ⟨mb, hmb⟩ : ∃ k, k = w7.heap.size := ⟨_, rfl⟩
      rw [← hgm, ← hmb] at hgm9
      rw [← hmb] at hmb9 hb79
      rw [← hgm, ← hmb]
      obtain ⟨pn, hpn⟩ : ∃ k, k = n * (N + 1) := ⟨_, rfl⟩
      obtain ⟨NP, hNP⟩ : ∃ k, k = N + 1 := ⟨_, rfl⟩
      obtain ⟨dq, hdq⟩ : ∃ k, k = pn / 64 := ⟨_, rfl⟩
      obtain ⟨nw, hnw⟩ : ∃ k, k = dq + 1 := ⟨_, rfl⟩
      have hN1k := HLL.out
      rw [← HN.out] at hN1k
      have hpnb : pn ≤ 101001 := by
        have h1 := HPR.out
        have h2 := HLEN.out
        have h3 := HMAP.out
        have h4 := HN1.out
        have h5 := congrArg List.length HZP.out
        rw [List.length_map, ← h4] at h5
        have h6 : n = (layR x 0).length + 1 := by rw [h5]; simp [stepsOf]
        rw [hpn, h6, Nat.add_mul, Nat.one_mul]
        have h7 : (((layR x 0).length * (N + 1) : Nat) : Int) ≤ 100000 := by rw [Int.natCast_mul, h2]; exact h1
        omega
      have i1 : (N : Int) + 1 = (NP : Int) := by omega
      have i2 : (n : Int) * (NP : Int) = (pn : Int) := by rw [hpn, hNP]; push_cast; rfl
      have i3 : (pn : Int).tdiv 64 = (dq : Int) := by rw [hdq]; rfl
      have i4 : (dq : Int) + 1 = (nw : Int) := by omega
      have j1 : IntKind.i64.wrap (NP : Int) = (NP : Int) := IntWalk.i64_in _ (by omega)
      have j2 : IntKind.i64.wrap (pn : Int) = (pn : Int) := IntWalk.i64_in _ (by omega)
      have j3 : IntKind.i64.wrap (dq : Int) = (dq : Int) := IntWalk.i64_in _ (by omega)
      have j4 : IntKind.i64.wrap (nw : Int) = (nw : Int) := IntWalk.i64_in _ (by omega)
      have hmkU := make_u64 nw (by omega)
      have k5 : V9.cell? ⟨gm, 5, none⟩ = some (.slice (some ⟨sb, 0, none⟩) n scap) := by rw [Lib.cell_of_heap hgm9]; rfl
      have k6 : V9.cell? ⟨gm, 6, none⟩ = some (.slice LA N Lc) := by rw [Lib.cell_of_heap hgm9]; rfl
      have k7 : V9.cell? ⟨gm, 7, none⟩ = some (.slice none 0 0) := by rw [Lib.cell_of_heap hgm9]; rfl
      have kf := Lib.frozen_of_heap hgm9 7
      obtain ⟨V10, hV10⟩ : ∃ V, V = V9.alloc (.cells (madeCells #[.int .u64 0] nw) TU) := ⟨_, rfl⟩
      have hb910 : Below V9.heap.size V9 V10 := by rw [hV10]; exact (Below.refl _ V9).alloc (Nat.le_refl _) _
      have hgm10 := heap_call hgm9 hb910
      have l5 : V10.cell? ⟨gm, 5, none⟩ = some (.slice (some ⟨sb, 0, none⟩) n scap) := by rw [Lib.cell_of_heap hgm10]; rfl
      have l6 : V10.cell? ⟨gm, 6, none⟩ = some (.slice LA N Lc) := by rw [Lib.cell_of_heap hgm10]; rfl
      have l7 : V10.cell? ⟨gm, 7, none⟩ = some (.slice none 0 0) := by rw [Lib.cell_of_heap hgm10]; rfl
      have lf := Lib.frozen_of_heap hgm10 7
      rw [hV10] at l5 l6 l7 lf
      have HB79 := Lib.hid hb79
      have HMB9 := Lib.hid hmb9
      have HGM9 := Lib.hid hgm9
      have HS9 := Lib.hid hs9
      have HGM := Lib.hid hgm
      have HMB := Lib.hid hmb
      have HPN := Lib.hid hpn
      have HNW := Lib.hid (show nw = pn / 64 + 1 by rw [hnw, hdq])
      have HPNB := Lib.hid hpnb
      clear hb79 hmb9 hgm9 hs9 hgm hmb hpn hNP hdq hnw hpnb hb910 hgm10 hV10 hN1k
      go_region
      go_upto_region 18 with fail
      obtain ⟨tb, htb⟩ : ∃ k, k = V9.heap.size := ⟨_, rfl⟩
      obtain ⟨L, hL⟩ : ∃ L : MtL, L = ⟨gm, sb, scap, tb, nw, mb, G2, LA, Lc⟩ := ⟨_, rfl⟩
      have hw47 : w4.heap.size ≤ w7.heap.size := HMK.out.below.size
      have hmt : MtW w4 ((V9.alloc (.cells (madeCells #[.int .u64 0] nw) TU)).setCell ⟨gm, 7, none⟩ (.slice (some ⟨V9.heap.size, 0, none⟩) nw nw)).drew L m l zs (List.replicate nw 0) (List.replicate G2 0) := by
        have hal : Below V9.heap.size V9 (V9.alloc (.cells (madeCells #[.int .u64 0] nw) TU)) := (Below.refl _ V9).alloc (Nat.le_refl _) _
        have hA : Below w4.heap.size w4 V9 := HMK.out.below.trans (HB79.out.mono (by rw [HMB.out]; exact hw47))
        have hset := rheap_set (k := 7) (heap_call HGM9.out hal) (.slice (some ⟨V9.heap.size, 0, none⟩) nw nw)
        have hs9 := HS9.out
        have hgmv := HGM.out
        have hmbv := HMB.out
        have hsl : sb < w7.heap.size := (Array.getElem?_eq_some_iff.1 HH7.out).1
        rw [hL]
        refine ⟨((hA.alloc hA.size _).setCell (p := ⟨gm, 7, none⟩) (by show w4.heap.size ≤ gm; omega) _).drew, by show w4.heap.size ≤ gm; omega, by show w4.heap.size ≤ sb; have := HSB.out; have := HG.out; omega, by show w4.heap.size ≤ tb; omega, by show w4.heap.size ≤ mb; omega, ?_, ⟨cur, ?_, ?_⟩, ?_, ?_, ?_, ?_, ?_, HMK.out.form, Wds.zeros _⟩
        · show ((V9.alloc _).setCell _ _).heap[gm]? = _
          rw [hset, ← htb, ← HN1.out, ← HN.out, List.length_replicate, List.length_replicate]
          rfl
        · show ((V9.alloc _).setCell _ _).heap[sb]? = _
          rw [rheap_far (fun e => by have e : gm = sb := e; omega)]
          exact heap_call (heap_call HH7.out (by rw [← HMB.out]; exact HB79.out)) hal
        · intro j v hj
          rw [← HTK.out, List.getElem?_take] at hj
          split at hj
          · rw [← Array.getElem?_toList]; exact hj
          · cases hj
        · show ((V9.alloc _).setCell _ _).heap[tb]? = _
          rw [rheap_far (fun e => by have e : gm = tb := e; omega), htb]
          have := Go.heap_alloc_new V9 (.cells (madeCells #[.int .u64 0] nw) TU)
          rw [this, made_rep]
          simp [wdCells]
        · show ((V9.alloc _).setCell _ _).heap[mb]? = _
          rw [rheap_far (fun e => by have e : gm = mb := e; omega), heap_call HMB9.out hal, made_rep]
          simp [mkCells]
        · show RdI w4 LA l.length l
          rw [← HN.out]; exact HRD4.out
        · intro c hc; have := (isPt_iff c).1 (HPT.out c hc); exact ⟨this.1, this.2.1⟩
        · have := HLL.out; omega
      have hbw9 : Below w7.heap.size w7 ((V9.alloc (.cells (madeCells #[.int .u64 0] nw) TU)).setCell ⟨gm, 7, none⟩ (.slice (some ⟨V9.heap.size, 0, none⟩) nw nw)).drew := by
        have h1 : Below w7.heap.size w7 V9 := by rw [← HMB.out]; exact HB79.out
        exact ((h1.alloc h1.size _).setCell (p := ⟨gm, 7, none⟩) (by show w7.heap.size ≤ gm; have := HGM.out; omega) _).drew
      have hal0 : AlV w4 w ((V9.alloc (.cells (madeCells #[.int .u64 0] nw) TU)).setCell ⟨gm, 7, none⟩ (.slice (some ⟨V9.heap.size, 0, none⟩) nw nw)).drew L m l zs ns b8 (.slice NA NL ncap) (List.replicate nw 0) (List.replicate G2 0) (.slice none 0 0) [] :=
        ⟨B4.out, hmt, B4.out.trans (hmt.below.mono B4.out.size), heap_call H87.out hbw9, by rw [← HNL.out]; exact rowns_below HNM7.out hbw9, .nil _ _ _⟩
      have hLg : L.g = gm := by rw [hL]
      have hLm : L.mb = mb := by rw [hL]
      have hLt : L.tb = tb := by rw [hL]
      generalize ((V9.alloc (.cells (madeCells #[.int .u64 0] nw) TU)).setCell ⟨gm, 7, none⟩ (.slice (some ⟨V9.heap.size, 0, none⟩) nw nw)).drew = V11 at *
      have HLG := Lib.hid hLg
      have HLM := Lib.hid hLm
      clear hL hLg hLm hLt htb
      have HAL := Lib.hid hal0
      have HPG := Lib.hid (show PrgOk (stepsOf x) l NL nw from by
        have h5 := congrArg List.length HZP.out
        rw [List.length_map, ← HN1.out] at h5
        have hsw := steps_wf HSND.out (Nat.le_refl _)
        refine ⟨hsw, by simp [stepsOf], ?_, ?_, ?_, fun s hs hk => by have := steps_groups HSND.out (Nat.le_refl _) s hs hk; rw [HNL.out]; exact this, hg2, fun s hs hk => steps_ts HGD.out HSM.out.1 s hs hk⟩
        · rw [← h5, ← HN.out, ← HPN.out]; have := HPNB.out; omega
        · rw [← h5, ← HN.out, ← HPN.out]; have := HNW.out; omega
        · have := HNW.out; have := HPNB.out; omega)
      obtain ⟨FL, hFL⟩ : ∃ FL, FL = allF m l (stepsOf x) ns.length (N + 1) 0 (fun _ => false) := ⟨_, rfl⟩
      have HFL := Lib.hid hFL
      have HRS2 := Lib.hid (show RS = (FL, ns, 0) by rw [HRS'.out, hFL])
      clear hmt hbw9 hal0 hFL hw47 k5 k6 k7 kf l5 l6 l7 lf hmkU i1 i2 i3 i4 j1 j2 j3 j4 HB79 HMB9 HGM9 HS9 HH7 HTK HMK H87 HNM7 HMAP KPD KL HKT4 HX4 H8 B4 HRD4 KZ HRS HSD KP HRS'
      go_wp2
      go_loopg [18, 19] (N + 2) (fun kx v18 v19 wr => ∃ (i : Nat) (ws : List Nat) (M : List Int) (out : List Zh), v19 = .int .i64 (i : Int) ∧ i ≤ N + 1 ∧ N + 1 - i < kx ∧ ws.length = nw ∧ M.length = G2 ∧ AlV w4 w wr L m l zs ns b8 (.slice NA NL ncap) ws M v18 out ∧ Hid (out.length ≤ i) ∧ Hid (FL = out.map Prod.fst ++ allF m l (stepsOf x) ns.length (N + 1) i (wbit ws)))
      case atStart => exact ⟨0, List.replicate nw 0, List.replicate G2 0, [], by go_num, Nat.zero_le _, by omega, by simp, by simp, HAL.out, Nat.le_refl _, by show _ = _; rw [HFL.out, wbit_none]; rfl⟩
      case round =>
        clear HAL
        obtain ⟨i, ws, M, out, rfl, hi, hik, hlw, hlm, ha, hout, heq⟩ := hrel
        have HA := Lib.hid ha
        have cl := ha.mt.cl
        have cm := ha.mt.cm
        rw [← HN.out] at cl
        rw [hlm] at cm
        rw [HLG.out] at cl cm
        by_cases hlt : i ≤ N
        · have z1 : decide (i ≤ N) = true := decide_eq_true hlt
          go_upto_region 20 with fail
          obtain ⟨wo, rfl⟩ : ∃ wo : World, wo = wr := ⟨_, rfl⟩
          obtain ⟨og, rfl⟩ : ∃ og : Nat, og = gk := ⟨_, rfl⟩
          obtain ⟨ov, rfl⟩ : ∃ ov : Value, ov = u18 := ⟨_, rfl⟩
          clear ha cl cm z1
          go_loopg [100] (G2 + 1) (fun kx v100 wr => ∃ k : Nat, v100 = .int .i64 (k : Int) ∧ k ≤ G2 ∧ G2 - k < kx ∧ AlV w4 w wr L m l zs ns b8 (.slice NA NL ncap) ws (List.replicate k (-1) ++ M.drop k) ov out)
          case atStart => exact ⟨0, by go_num, Nat.zero_le _, by omega, by simpa using HA.out⟩
          case round =>
            clear HA
            obtain ⟨k, rfl, hk, hkx, ha⟩ := hrel
            have hml : (List.replicate k (-1 : Int) ++ M.drop k).length = G2 := by rw [List.length_append, List.length_replicate, List.length_drop, hlm]; omega
            have cm := ha.mt.cm
            rw [hml, HLG.out] at cm
            by_cases hkl : k < G2
            · have z2 : decide (k < G2) = true := decide_eq_true hkl
              have y0 : (0 : Int) ≤ (k : Int) := by omega
              have y1 : (k : Int) < (G2 : Int) := by omega
              have ck := ha.mt.mark (k := k) (by rw [hml]; exact hkl)
              obtain ⟨mv, hmv⟩ : ∃ v, v = (List.replicate k (-1 : Int) ++ M.drop k).getD k 0 := ⟨_, rfl⟩
              rw [← hmv] at ck
              have fz := ha.mt.frozen_m k
              have hn' := ha.put_mark k (-1)
              rw [marks_set hlm hkl] at hn'
              have HA' := Lib.hid hn'
              have HKL := Lib.hid hkl
              have hk2 : k < 2000 := by have := HG2.out; omega
              clear ha hn' hmv hml hkl
              go_wp2_with fail
              go_roundg (G2 - k)
              case measure => omega
              case rel => exact ⟨k + 1, by go_num, by have := HKL.out; omega, by have := HKL.out; omega, HA'.out⟩
            · have z2 : decide (k < G2) = false := decide_eq_false hkl
              obtain rfl : G2 = k := by omega
              rw [List.drop_eq_nil_of_le (by omega), List.append_nil, HG2.out] at ha
              have hia : i ≤ l.length := by rw [← HN.out]; exact hlt
              have hrun := mtRun_any w4 L m l zs (stepsOf x) NL nw i ws (List.replicate (2 * NL) (-1)) _ wr HZP.out HPG.out hia ha.mt (ha.mt.below.size) hlw (by simp) rfl
              rw [run_at HPG.out.wf HPG.out.pos hia, HLG.out] at hrun
              have HA := Lib.hid ha
              clear ha cm hml
              have hrl := fun e M' T' => run_end (m := m) (i := i) (e := e) (T := wbit ws) (T' := T') (M := M') HSND.out (Nat.le_refl _) hia
              have heq' := heq.out
              rw [allF, if_neg (by rw [← HN.out]; omega), ← HNL.out] at heq'
              rw [← HNL.out] at hrl
              cases hrr : runAt m l (stepsOf x) NL i (wbit ws) with
              | mk r T' =>
                rw [hrr] at hrun heq'
                cases r with
                | none =>
                  simp only [optI] at hrun
                  simp only at heq'
                  have KRN := Lib.hid hrun
                  have HEQ := Lib.hid heq'
                  clear hrun heq' heq hrl hrr
                  go_wp2_with (go_at_call 15; with_reducible refine (KRN.out).mono ?_)
                  rintro e w2 ⟨rfl, hkp, ws', hl', hlm', hT', hm'⟩
                  have HA2 := Lib.hid (HA.out.keepR hkp hm')
                  have HT := Lib.hid hT'
                  clear hkp hm' hT'
                  obtain ⟨i9, hi9⟩ : ∃ k, k = i + 1 := ⟨_, rfl⟩
                  have i1 : (i : Int) + 1 = (i9 : Int) := by omega
                  have i2 : IntKind.i64.wrap (i9 : Int) = (i9 : Int) := IntWalk.i64_in _ (by have := HLL.out; omega)
                  have HI9 := Lib.hid hi9
                  clear hi9
                  go_wp2_with fail
                  go_roundg (N + 2 - i9)
                  case measure => have := HI9.out; omega
                  case rel => exact ⟨i9, ws', _, out, congrArg (Value.int .i64) (by omega), by have := HI9.out; omega, by have := HI9.out; omega, hl', by rw [hlm', HG2.out], HA2.out, by show out.length ≤ i9; have := hout.out; have := HI9.out; omega, by
                    show FL = _
                    rw [HEQ.out, HT.out, ← HNL.out, HI9.out]
                    rw [all_fuel m l (stepsOf x) NL N (N + 1) (i + 1) T' (by have := HN.out; omega) (by have := HN.out; omega)]⟩
                | some r =>
                  obtain ⟨e, M'⟩ := r
                  obtain ⟨hie, hel, hml'⟩ := hrl e M' T' hrr
                  simp only [optI] at hrun
                  simp only at heq'
                  have KRN := Lib.hid hrun
                  have HEQ := Lib.hid heq'
                  have hei := HN.out
                  have heN : e ≤ N := by omega
                  clear hrun heq' heq hrl hrr hei
                  obtain ⟨i9, hi9⟩ : ∃ k, k = i + 1 := ⟨_, rfl⟩
                  have i1 : (i : Int) + 1 = (i9 : Int) := by omega
                  have i2 : IntKind.i64.wrap (i9 : Int) = (i9 : Int) := IntWalk.i64_in _ (by have := HLL.out; omega)
                  have HI9 := Lib.hid hi9
                  clear hi9
                  go_wp2_with (go_at_call 15; with_reducible refine (KRN.out).mono ?_)
                  rintro e w2 ⟨rfl, hkp, ws', hl', hlm', hT', hm'⟩
                  have ha2 := HA.out.keepR hkp hm'
                  have ct := ha2.mt.ct
                  rw [hl', HLG.out] at ct
                  have hnwp : 0 < nw := by have := HNW.out; omega
                  have hcl : ∀ ty, (Builtin.clear_ #[57] ty #[.slice (some ⟨L.tb, 0, none⟩) nw L.tcap]).run Tryd.prog w2 = .ok (.tuple #[]) (w2.setCells L.tb 0 (List.replicate nw (.int .u64 0))) := fun ty => by
                    obtain ⟨i0, hi0, hz0, hz1, hz2⟩ := info_parts infoU
                    exact Lib.run_clear_slice w2 _ TU ty (.int .u64 0) Tryd.underlying57 (fun u => zeroU u) rfl rfl L.tb 0 nw L.tcap hnwp (fun j hj => by
                      rw [Nat.zero_add, ha2.mt.word (k := j) (by rw [hl']; exact hj)]; rfl) (fun j hj => by rw [Nat.zero_add]; exact ha2.mt.frozen_t j)
                  have hcs := ha2.mt.clears nw 0 w2 ws' (by rw [hl', Nat.zero_add])
                  have ha3 := ha2.keepR hcs.2 hcs.1
                  rw [List.take_zero, List.nil_append] at ha3
                  have HA3 := Lib.hid ha3
                  clear hkp hm' hT' ha2 hcs ha3
                  go_upto_region 27 with fail
                  generalize hW3 : w2.setCells L.tb 0 (List.replicate nw (.int .u64 0)) = W3 at *
                  clear hcl ct hW3
                  have k0 : W3.cell? ⟨b8, 0, none⟩ = some (.bool m.all) := by rw [Lib.cell_of_heap HA3.out.md]; rfl
                  have k4 : W3.cell? ⟨b8, 4, none⟩ = some (.bool m.some) := by rw [Lib.cell_of_heap HA3.out.md]; rfl
                  by_cases h1 : i < e
                  · have z3 : decide (i < e) = true := decide_eq_true h1
                    have HCND := Lib.hid (show i < e ∨ m.some = false from .inl h1)
                    clear h1
                    have hgr := mtGroups_any w4 L m l zs NL (List.replicate nw 0) M' W3 HA3.out.mt hml' hg2
                    rw [HLG.out] at hgr
                    have KGR := Lib.hid hgr
                    have KCL := Lib.hid (fun (W : World) (h : W.ownsRow w.heap.size 9 1 (.slice NA NL ncap) NL (strCells ns)) => mtClone_any (.slice NA NL ncap) w.heap.size ns W (by rw [← HNL.out]; exact h) (by rw [← HNL.out]; omega))
                    have hsz3 : w4.heap.size ≤ W3.heap.size := HA3.out.mt.below.size
                    clear hgr
                    go_wp2_with (go_at_call 16; with_reducible refine (KGR.out).mono ?_)
                    rintro e1 w5 ⟨gv, rfl, hb5, hg5⟩
                    obtain ⟨GA, gcap, rfl⟩ := rowns_slice hg5
                    have HA5 := Lib.hid (HA3.out.call hb5)
                    have HG5 := Lib.hid (rowns_lower hg5 hsz3)
                    have hnm5 := HA5.out.nms
                    rw [← HNL.out] at hnm5
                    have HNM5 := Lib.hid hnm5
                    clear hb5 hg5 hnm5 k0 k4
                    go_wp2_with (go_at_call 17; with_reducible refine (KCL.out _ HNM5.out).mono ?_)
                    rintro e1 w6 ⟨cv, rfl, hb6, hc6⟩
                    obtain ⟨CA, ccap, rfl⟩ := rowns_slice hc6
                    have HA6 := Lib.hid (HA5.out.call hb6)
                    have hsz5 : w4.heap.size ≤ w5.heap.size := HA5.out.mt.below.size
                    have HG6 := Lib.hid (rowns_below HG5.out hb6)
                    have HC6 := Lib.hid (rowns_lower hc6 hsz5)
                    have hsz6 : w4.heap.size ≤ w6.heap.size := HA6.out.mt.below.size
                    obtain ⟨z, hz⟩ : ∃ z : Zh, z = (⟨i, e, M'⟩, .slice GA NL gcap, .slice CA NL ccap) := ⟨_, rfl⟩
                    have hz' : MhIn w4.heap.size w6 ns z := by
                      rw [hz]
                      refine ⟨?_, ?_⟩
                      · have := HG6.out; rw [grp_len] at this; rw [← HNL.out]; exact this
                      · have := HC6.out; rw [← HNL.out] at this; rw [← HNL.out]; exact this
                    have HZ' := Lib.hid hz'
                    have HZ := Lib.hid hz
                    clear hb6 hc6 hz' hz
                    have hol : out.length ≤ 1000000 := by have := hout.out; have := HLL.out; omega
                    rw [grp_len, ← HNL.out]
                    go_wp2_with (at_builtin; refine append_mh rfl _ _ rfl (⟨i, e, M'⟩, .slice GA NL gcap, .slice CA NL ccap) rfl rfl HA6.out.ms (by rw [← HZ.out]; exact HZ'.out) hsz6 hol ?_)
                    intro v7 w7 hm7 hg7
                    have ha7 := HA6.out.push hm7 hg7
                    have k0 : w7.cell? ⟨b8, 0, none⟩ = some (.bool m.all) := by rw [Lib.cell_of_heap ha7.md]; rfl
                    have HA7 := Lib.hid ha7
                    clear hm7 hg7 ha7
                    rcases Bool.eq_false_or_eq_true m.all with hall | hall
                    · rw [hall] at k0
                      have HE2 := Lib.hid (show FL = (out ++ [((⟨i, e, M'⟩, Value.slice GA NL gcap, Value.slice CA NL ccap) : Zh)]).map Prod.fst ++ allF m l (stepsOf x) NL N (max e (i + 1)) (fun _ => false) by
                        rw [HEQ.out, if_pos HCND.out, if_pos hall, List.map_append, List.append_assoc]; rfl)
                      clear hall
                      go_wp2_with fail
                      go_roundg (N + 2 - max e i9)
                      case measure => have := HI9.out; omega
                      case rel => exact ⟨max e i9, List.replicate nw 0, M', _, congrArg (Value.int .i64) (by omega), by have := HI9.out; omega, by have := HI9.out; omega, by simp, by rw [hml', HG2.out], HA7.out, by show (out ++ _).length ≤ max e i9; rw [List.length_append, List.length_singleton]; have := hout.out; have := HI9.out; omega, by
                        show FL = _
                        rw [HE2.out, HI9.out, ← HNL.out, wbit_none]
                        rw [all_fuel m l (stepsOf x) NL N (N + 1) (max e (i + 1)) _ (by have := HN.out; omega) (by have := HN.out; omega)]⟩
                    · rw [hall] at k0
                      have HF := Lib.hid (show FL = (out ++ [((⟨i, e, M'⟩, Value.slice GA NL gcap, Value.slice CA NL ccap) : Zh)]).map Prod.fst by
                        rw [HEQ.out, if_pos HCND.out, if_neg (by rw [hall]; decide), List.map_append]; rfl)
                      clear hall
                      go_wp2
                      go_ret2
                      rw [HRS2.out]
                      exact ⟨_, _, rfl, HA7.out.below, HF.out.symm, HA7.out.ms.lower HA7.out.start.size⟩
                  · have z3 : decide (i < e) = false := decide_eq_false h1
                    rcases Bool.eq_false_or_eq_true m.some with hsm | hsm
                    · rw [hsm] at k4
                      have HE2 := Lib.hid (show FL = out.map Prod.fst ++ allF m l (stepsOf x) NL N (max e (i + 1)) (fun _ => false) by
                        rw [HEQ.out, if_neg (fun h => h.elim h1 (fun h => by rw [hsm] at h; cases h))])
                      clear h1 hsm
                      go_wp2_with fail
                      go_roundg (N + 2 - max e i9)
                      case measure => have := HI9.out; omega
                      case rel => exact ⟨max e i9, List.replicate nw 0, M', out, congrArg (Value.int .i64) (by omega), by have := HI9.out; omega, by have := HI9.out; omega, by simp, by rw [hml', HG2.out], HA3.out, by show out.length ≤ max e i9; have := hout.out; have := HI9.out; omega, by
                        show FL = _
                        rw [HE2.out, HI9.out, ← HNL.out, wbit_none]
                        rw [all_fuel m l (stepsOf x) NL N (N + 1) (max e (i + 1)) _ (by have := HN.out; omega) (by have := HN.out; omega)]⟩
                    · rw [hsm] at k4
                      have HCND := Lib.hid (show i < e ∨ m.some = false from .inr hsm)
                      clear h1 hsm
                      have hgr := mtGroups_any w4 L m l zs NL (List.replicate nw 0) M' W3 HA3.out.mt hml' hg2
                      rw [HLG.out] at hgr
                      have KGR := Lib.hid hgr
                      have KCL := Lib.hid (fun (W : World) (h : W.ownsRow w.heap.size 9 1 (.slice NA NL ncap) NL (strCells ns)) => mtClone_any (.slice NA NL ncap) w.heap.size ns W (by rw [← HNL.out]; exact h) (by rw [← HNL.out]; omega))
                      have hsz3 : w4.heap.size ≤ W3.heap.size := HA3.out.mt.below.size
                      clear hgr
                      go_wp2_with (go_at_call 16; with_reducible refine (KGR.out).mono ?_)
                      rintro e1 w5 ⟨gv, rfl, hb5, hg5⟩
                      obtain ⟨GA, gcap, rfl⟩ := rowns_slice hg5
                      have HA5 := Lib.hid (HA3.out.call hb5)
                      have HG5 := Lib.hid (rowns_lower hg5 hsz3)
                      have hnm5 := HA5.out.nms
                      rw [← HNL.out] at hnm5
                      have HNM5 := Lib.hid hnm5
                      clear hb5 hg5 hnm5 k0 k4
                      go_wp2_with (go_at_call 17; with_reducible refine (KCL.out _ HNM5.out).mono ?_)
                      rintro e1 w6 ⟨cv, rfl, hb6, hc6⟩
                      obtain ⟨CA, ccap, rfl⟩ := rowns_slice hc6
                      have HA6 := Lib.hid (HA5.out.call hb6)
                      have hsz5 : w4.heap.size ≤ w5.heap.size := HA5.out.mt.below.size
                      have HG6 := Lib.hid (rowns_below HG5.out hb6)
                      have HC6 := Lib.hid (rowns_lower hc6 hsz5)
                      have hsz6 : w4.heap.size ≤ w6.heap.size := HA6.out.mt.below.size
                      obtain ⟨z, hz⟩ : ∃ z : Zh, z = (⟨i, e, M'⟩, .slice GA NL gcap, .slice CA NL ccap) := ⟨_, rfl⟩
                      have hz' : MhIn w4.heap.size w6 ns z := by
                        rw [hz]
                        refine ⟨?_, ?_⟩
                        · have := HG6.out; rw [grp_len] at this; rw [← HNL.out]; exact this
                        · have := HC6.out; rw [← HNL.out] at this; rw [← HNL.out]; exact this
                      have HZ' := Lib.hid hz'
                      have HZ := Lib.hid hz
                      clear hb6 hc6 hz' hz
                      have hol : out.length ≤ 1000000 := by have := hout.out; have := HLL.out; omega
                      rw [grp_len, ← HNL.out]
                      go_wp2_with (at_builtin; refine append_mh rfl _ _ rfl (⟨i, e, M'⟩, .slice GA NL gcap, .slice CA NL ccap) rfl rfl HA6.out.ms (by rw [← HZ.out]; exact HZ'.out) hsz6 hol ?_)
                      intro v7 w7 hm7 hg7
                      have ha7 := HA6.out.push hm7 hg7
                      have k0 : w7.cell? ⟨b8, 0, none⟩ = some (.bool m.all) := by rw [Lib.cell_of_heap ha7.md]; rfl
                      have HA7 := Lib.hid ha7
                      clear hm7 hg7 ha7
                      rcases Bool.eq_false_or_eq_true m.all with hall | hall
                      · rw [hall] at k0
                        have HE2 := Lib.hid (show FL = (out ++ [((⟨i, e, M'⟩, Value.slice GA NL gcap, Value.slice CA NL ccap) : Zh)]).map Prod.fst ++ allF m l (stepsOf x) NL N (max e (i + 1)) (fun _ => false) by
                          rw [HEQ.out, if_pos HCND.out, if_pos hall, List.map_append, List.append_assoc]; rfl)
                        clear hall
                        go_wp2_with fail
                        go_roundg (N + 2 - max e i9)
                        case measure => have := HI9.out; omega
                        case rel => exact ⟨max e i9, List.replicate nw 0, M', _, congrArg (Value.int .i64) (by omega), by have := HI9.out; omega, by have := HI9.out; omega, by simp, by rw [hml', HG2.out], HA7.out, by show (out ++ _).length ≤ max e i9; rw [List.length_append, List.length_singleton]; have := hout.out; have := HI9.out; omega, by
                          show FL = _
                          rw [HE2.out, HI9.out, ← HNL.out, wbit_none]
                          rw [all_fuel m l (stepsOf x) NL N (N + 1) (max e (i + 1)) _ (by have := HN.out; omega) (by have := HN.out; omega)]⟩
                      · rw [hall] at k0
                        have HF := Lib.hid (show FL = (out ++ [((⟨i, e, M'⟩, Value.slice GA NL gcap, Value.slice CA NL ccap) : Zh)]).map Prod.fst by
                          rw [HEQ.out, if_pos HCND.out, if_neg (by rw [hall]; decide), List.map_append]; rfl)
                        clear hall
                        go_wp2
                        go_ret2
                        rw [HRS2.out]
                        exact ⟨_, _, rfl, HA7.out.below, HF.out.symm, HA7.out.ms.lower HA7.out.start.size⟩
        · have z1 : decide (i ≤ N) = false := decide_eq_false hlt
          have HF := Lib.hid (show FL = out.map Prod.fst by
            rw [heq.out, allF, if_pos (by rw [← HN.out]; omega), List.append_nil])
          clear ha heq hlt
          go_wp2
          go_ret2
          rw [HRS2.out]
          exact ⟨_, out, rfl, HA.out.below, HF.out.symm, HA.out.ms.lower HA.out.start.size⟩
    · have HRS' := Lib.hid (show RS = ([], [], e0) by rw [HRS.out, if_pos he0])
      have z0 : ((e0 : Int) != 0) = true := by simpa using he0
      have z1 : ((e0 : Int) == 0) = false := beq_false_of_ne (by omega)
      clear he0
      go_wp2
      go_ret2
      rw [HRS'.out]
      exact IsAll.bad B2.out

end Go.Proofs.YtoniccokohjenaaDoor
