/-
  The walk of the reference's group (chapter 18).
-/
import Derived.Test.YtoniccokohjenaaRfM
import Derived.Test.YtoniccokohjenaaRfK
import Derived.Test.YtoniccokohjenaaRegPa
namespace Go.Proofs.Ytoniccokohjenaa
open Go.RowKit

theorem wpList_app {P : Program} {t : TypeId} {ops : Array Oper} {rest : List Oper} {o : Oper} {a : Act} {Y Y' : World} {Q : Exit → Act → World → Prop} {v' v1 v2 : Value} (hgd : o.guard = none) (s x : Operand) (ho : o.op = .call { callee := .builtin .append, args := #[s, x], argTypes := #[t, t] }) (hs : a.eval s = v1) (hx : a.eval x = v2)
    (hr : (Builtin.append_ #[t, t] o.type #[v1, v2]).run P Y = .ok v' Y') (h : wpList P ops Q rest (a.put o.dst v') Y') : wpList P ops Q (o :: rest) a Y :=
  wpList_plain hgd fun _ hK => wp_app s x ho hs hx hr (hK _ _ h)
theorem str_one (ns : List (List UInt8)) : ∀ u ∈ strCells ns, u.oneCell' = true := fun u hu => by
  unfold strCells at hu
  obtain ⟨n, _, rfl⟩ := List.mem_map.1 hu
  rfl
theorem PF.callA {w0 W W' : World} {b r n : Nat} {L : LX} {p : PX} {o : Obj} (h : PF w0 W b r L p) (hb : Below n (W.alloc o) W') (hn : n = W.heap.size + 1) : PF w0 W' b r L p :=
  (h.alloc o).call (by rw [World.size_alloc, ← hn]; exact hb)
theorem offA {W W' : World} {n : Nat} {o : Obj} (hb : Below n (W.alloc o) W') (hn : n = W.heap.size + 1) : OffP W W' :=
  (OffP.call ((Below.refl _ W).alloc (Nat.le_refl _) o)).trans (OffP.call (by rw [World.size_alloc, ← hn]; exact hb))
/-- one part in a block of its own -/
theorem kx_one {W wT : World} {n m B : Nat} {x : Rx} {A : Option Addr} {k c : Nat} (hn : n = W.heap.size + 1) (hm : m = W.heap.size) (hB : B ≤ W.heap.size) (hk : KX (fun q => B ≤ q) W x (.slice A k c)) (hb : Below n (W.alloc (.cells (rxCells x (.slice A k c)).toArray TRx)) wT) {Y : Rx} (hY : Y.kids = [x]) : KX (fun q => B ≤ q) wT Y (.slice (some ⟨m, 0, none⟩) 1 1) := by
  subst hm
  have hh : wT.heap[W.heap.size]? = some (.cells (rxCells x (.slice A k c)).toArray TRx (0, 0)) := (hb.block W.heap.size (by omega)).trans (Go.heap_alloc_new W _)
  have hk2 : KX (fun q => B ≤ q) wT x (.slice A k c) := KX.off hk (offA hb hn)
  obtain ⟨N, hN⟩ := ZV.kidsAt (zs := [(x, .slice A k c)]) (cap := 1) hh (fun j v hj => by simpa [zCells] using hj) (F := fun k => B ≤ k) (fun y hy => by
    obtain rfl := List.mem_singleton.1 hy
    exact hk2) (G := fun k => B ≤ k) (fun _ h => h) hB
  unfold KX
  rw [hY]
  exact ⟨N, hN⟩
section
variable {w w' : World} {L : LX} {l : List Int} {s : PS} {p : PX}
theorem Lv.shut (h : Lv w L l s p) (hd : 1 ≤ s.deep) : Lv w L l { s with deep := s.deep - 1 } { p with deep := wrap64 (p.deep - 1) } where
  i := h.i
  bad := h.bad
  deep := by have := h.fin.deep; show wrap64 (p.deep - 1) = ((s.deep - 1 : Nat) : Int); rw [h.deep]; unfold wrap64; omega
  nn := h.nn
  pat := h.pat
  names := h.names
  fin := ⟨h.fin.pos, h.fin.names, h.fin.len, by have := h.fin.deep; show s.deep - 1 ≤ 50; omega, h.fin.pts⟩
theorem Lv.opened (h : Lv w L l s p) (hd : s.deep < 50) : Lv w L l { s with deep := s.deep + 1 } { p with deep := (s.deep : Int) + 1 } where
  i := h.i
  bad := h.bad
  deep := rfl
  nn := h.nn
  pat := h.pat
  names := h.names
  fin := ⟨h.fin.pos, h.fin.names, h.fin.len, hd, h.fin.pts⟩
theorem Lv.named (h : Lv w L l s p) (hp : LRd w' L l) (n : List UInt8) (hn : s.names.length + 1 ≤ s.pos) {A : Option Addr} {c B : Nat} (ho : w'.ownsRow B 9 1 (.slice A (p.nn + 1) c) (p.nn + 1) (strCells s.names ++ [.string ⟨n.toArray⟩])) : Lv w' L l { s with names := s.names ++ [n] } { p with na := A, nn := p.nn + 1, nc := c } where
  i := h.i
  bad := h.bad
  deep := h.deep
  nn := by show p.nn + 1 = (s.names ++ [n]).length; rw [h.nn]; simp
  pat := hp
  names := by
    rw [strCells_snoc] at ho
    exact rowns_low ho (Nat.zero_le _)
  fin := ⟨h.fin.pos, by show (s.names ++ [n]).length ≤ s.pos; simpa using hn, h.fin.len, h.fin.deep, h.fin.pts⟩
end

/-- what is behind the head, as the reference goes: on, shut, told -/
theorem rest_eq {l : List Int} {rec : PS → PR Rx} {g : Option Nat} {n : List UInt8} {s : PS} : restR l rec g n s = (rec s).bind fun x s => if due l s.pos = 41 then .ok (match g with | none => x | some k => rxGroup x k n) { s with pos := s.pos + 1, deep := s.deep - 1 } else failR l s.pos := rfl

set_option maxHeartbeats 4000000 in
set_option maxRecDepth 100000 in
theorem rfGroup_a (L : LX) (l : List Int) (s : PS) (p : PX) (w : World) (rec : PS → PR Rx) (hadv : ∀ s v s', rec s = .ok v s' → Adv l s s') (h40 : due l s.pos = 40)
    (KP : s.deep < 50 → ∀ (s' : PS) (p' : PX) (W : World), s'.deep = s.deep + 1 → Lv W L l s' p' → Calls Try.prog 31 #[pAgg L p'] W (RxP L l W (rec s')))
    (h : Lv w L l s p) (hd : ¬ s.deep = 50) (h63 : ¬ due l (s.pos + 1) = 63) :
    Calls Try.prog 97 #[pAgg L p] w (RxP L l w (groupR l rec s)) := by
  have HLv := Lib.hid h
  have HPT := Lib.hid h.pat
  have hl := h.fin.len
  have hp := h.fin.pos
  have hdp := h.fin.deep
  have hlt := due_lt h40 (by decide)
  have hd2 : s.deep < 50 := by omega
  have KPA := Lib.hid (KP hd2)
  have HG := Lib.hid (show groupR l rec s = (headR l { s with pos := s.pos + 1, deep := s.deep + 1 }).bind fun n s' => restR l rec (n.map fun _ => s.names.length + 1) (n.getD []) s' by unfold groupR; rw [if_neg hd])
  have HV1 := Lib.hid (h.opened hd2)
  have k1 := fun (p' : PX) (W : World) (h : Lv W L l { s with deep := s.deep + 1 } p') => show Calls Try.prog 55 #[pAgg L p', .int .i64 1] W (RetE (.int .i64 (due l (s.pos + 1))) fun w' => Below W.heap.size W w') from rfSignL L l { s with deep := s.deep + 1 } p' 1 W h (by omega)
  have k2 := fun (p' : PX) (W : World) (h : Lv W L l { s with deep := s.deep + 1 } p') => show Calls Try.prog 55 #[pAgg L p', .int .i64 2] W (RetE (.int .i64 (due l (s.pos + 2))) fun w' => Below W.heap.size W w') from rfSignL L l { s with deep := s.deep + 1 } p' 2 W h (by omega)
  have HDD := Lib.hid h.deep
  clear KP h
  obtain ⟨p1, hp1⟩ : ∃ q : PX, q = { p with deep := (s.deep : Int) + 1 } := ⟨_, rfl⟩
  rw [← hp1] at HV1
  have HP1 := Lib.hid hp1
  clear hp1 hd
  have z63 : (due l (s.pos + 1) != 63) = true := by simp [h63]
  have HRB0 := Lib.hid (show groupR l rec s = restR l rec (some (s.names.length + 1)) [] { s with pos := s.pos + 1, deep := s.deep + 1, names := s.names ++ [[]] } by rw [HG.out]; unfold headR; simp only; rw [if_neg h63]; rfl)
  clear h63 HG
  generalize due l (s.pos + 1) = d1 at *
  have K1 := Lib.hid k1
  clear k1 k2
  go_enter Try.func97, Try.ntmps97
  go_wp2_with (with_reducible refine box_p (by with_reducible rfl) _ (by with_reducible rfl) (L := L) (p := p) (by simp [Act.eval]) ?_)
  intro V hV bV sV
  go_wp2_with (with_reducible refine room_p (by with_reducible rfl) (by with_reducible rfl) hV ?_)
  intro W hW bW sW
  clear hV bV sV bW sW
  have c3 := hW.deep
  rw [HDD.out] at c3
  have f3 := hW.frozen 3
  have H1 := Lib.hid (show PF w (W.setCell ⟨w.heap.size, 3, none⟩ (.int .i64 ((s.deep : Int) + 1))) w.heap.size (w.heap.size + 1) L p1 by rw [HP1.out]; exact hW.set (j := 3) (v := .int .i64 ((s.deep : Int) + 1)) rfl)
  clear hW
  go_wp2_with (first
    | (with_reducible refine load_p (by with_reducible rfl) _ (by with_reducible rfl) w.heap.size (by first | (simp [Act.eval]; done) | simp [Act.eval, Act.put]) H1.out ?_)
    | (go_at_call 55; (with_reducible refine (K1.out p1 _ (HV1.out.below H1.out.below)).mono ?_)))
  rintro e w2 ⟨rfl, hb2⟩
  have H2 := Lib.hid (show PF w w2 w.heap.size (w.heap.size + 1) L p1 by
    exact H1.out.call hb2)
  have HV2 := Lib.hid (HV1.out.below H2.out.below)
  clear hb2 H1
  obtain ⟨pN, hpN⟩ : ∃ q : PX, q = { p1 with i := wrap64 (p1.i + 1) } := ⟨_, rfl⟩
  have KON := Lib.hid (fun W => show Calls Try.prog 56 #[pAgg L p1, .int .i64 1] W (RetE (pAgg L pN) fun w' => Below W.heap.size W w') by rw [hpN]; exact rfOn L p1 1 W)
  have HLA := Lib.hid (show Lv w2 L l { s with pos := s.pos + 1, deep := s.deep + 1 } pN by rw [hpN]; exact HV2.out.on 1 hlt)
  clear hpN
  go_wp2_with (first
    | (with_reducible refine load_p (by with_reducible rfl) _ (by with_reducible rfl) w.heap.size (by first | (simp [Act.eval]; done) | simp [Act.eval, Act.put]) H2.out ?_)
    | (go_at_call 56; (with_reducible refine (KON.out _).mono ?_)))
  rintro e w3 ⟨rfl, hb3⟩
  have H3 := Lib.hid (H2.out.call hb3)
  have HLB := Lib.hid (HLA.out.below hb3)
  clear hb3
  go_wp2_with (first
    | (with_reducible refine store_p (by with_reducible rfl) _ _ (by with_reducible rfl) w.heap.size (p' := pN) (by first | (simp [Act.eval]; done) | simp [Act.eval, Act.put]) (by first | (simp [Act.eval]; done) | simp [Act.eval, Act.put]) H3.out ?_))
  intro V hV oV
  have HPV := Lib.hid hV
  have HLN := Lib.hid (HLB.out.off oV (HPT.out.below hV.below))
  have HOWN := Lib.hid (show V.ownsRow 0 9 1 (.slice pN.na pN.nn pN.nc) pN.nn (strCells s.names) from HLN.out.names)
  have hnn : pN.nn ≤ 1000 := by have h1 := HLN.out.nn; have h2 := HLN.out.fin.names; simp only at h1 h2; omega
  clear hV oV HLA HLB H3 H2
  obtain ⟨sN, hsN⟩ : ∃ q : PS, q = { s with pos := s.pos + 1, deep := s.deep + 1 } := ⟨_, rfl⟩
  rw [← hsN] at HLN
  have HSN := Lib.hid (show sN.names = s.names ∧ sN.deep = s.deep + 1 ∧ s.names.length + 1 ≤ sN.pos by rw [hsN]; exact ⟨rfl, rfl, Nat.succ_le_succ HLv.out.fin.names⟩)
  have HRB0 := Lib.hid (show groupR l rec s = restR l rec (some (s.names.length + 1)) [] { sN with names := sN.names ++ [[]] } by rw [hsN]; exact HRB0.out)
  clear hsN
  obtain ⟨nme, hnme⟩ : ∃ n : List UInt8, n = [] := ⟨_, rfl⟩
  have HNME := Lib.hid (show (Value.string ⟨#[]⟩) = .string ⟨nme.toArray⟩ by rw [hnme])
  rw [← hnme] at HRB0
  clear hnme
  go_upto_region 18 with fail
  rw [HNME.out]
  -- the name nme is laid behind the names: at V: HPV: the state pN, HOWN: the names
  obtain ⟨j0, hj0, hjz, hj1, hj2⟩ := info_parts infoStr
  have hbe := (Below.refl V.heap.size V).alloc (Nat.le_refl _) (.cells #[] 9)
  obtain ⟨v3, Y3, hr3, ho3, hb3, _, _⟩ := copy_run (P := Try.prog) (ty := 26) Try.underlying26 hj0 hjz hj1 hj2 rfl (by decide) hbe HOWN.out (str_one _) (Go.heap_alloc_new V _) (Nat.le_refl _) (by unfold maxLen; omega) (by omega)
  obtain ⟨v6, Y6, hr6, ho6, hb6⟩ := push_run (P := Try.prog) (ty := 26) (ys := [.string ⟨nme.toArray⟩]) Try.underlying26 hj0 hjz hj1 hj2 rfl (by decide) (hb3.alloc hb3.size (.cells #[.string ⟨nme.toArray⟩] 9)) (rowns_below ho3 ((Below.refl _ Y3).alloc (Nat.le_refl _) _)) (Go.heap_alloc_new Y3 _) rfl (fun u hu => by obtain rfl := List.mem_singleton.1 hu; rfl) (by unfold maxLen; omega) (by omega)
  obtain ⟨A6, c6, rfl⟩ := rowns_slice ho6
  have c4 := (HPV.out.alloc (.cells #[] 9)).names
  have c4' := (HPV.out.call hb6).names
  have f4' := (HPV.out.call hb6).frozen 4
  have HR3 := Lib.hid hr3
  have HR6 := Lib.hid hr6
  have HO6 := Lib.hid ho6
  have HB6 := Lib.hid hb6
  clear hr3 hr6 ho6 hb6 ho3 hb3 hbe
  go_upto_region 20 with (first
    | (with_reducible refine wpList_app (by with_reducible rfl) _ _ (by with_reducible rfl) (by simp [Act.eval]) (by simp [Act.eval]) HR3.out ?_)
    | (with_reducible refine wpList_app (by with_reducible rfl) _ _ (by with_reducible rfl) (by first | (simp [Act.eval]; done) | simp [Act.eval, Act.put]) (by first | (simp [Act.eval]; done) | simp [Act.eval, Act.put]) HR6.out ?_))
  -- the names are laid: the state behind them, all well
  have hwf := HB6.out
  have HPW := Lib.hid (show PF w (Y6.setCell ⟨w.heap.size, 4, none⟩ (.slice A6 (pN.nn + 1) c6)) w.heap.size (w.heap.size + 1) L { pN with na := A6, nn := pN.nn + 1, nc := c6 } from (HPV.out.call hwf).set (j := 4) (v := .slice A6 (pN.nn + 1) c6) rfl)
  have HLM := Lib.hid (HLN.out.named (HPT.out.below HPW.out.below) nme (by rw [HSN.out.1]; exact HSN.out.2.2) (by rw [HSN.out.1]; exact rowns_far HO6.out (HPV.out.call hwf).heap (by decide) (.slice A6 (pN.nn + 1) c6)))
  have HSD := Lib.hid (show ({ sN with names := sN.names ++ [nme] } : PS).deep = s.deep + 1 from HSN.out.2.1)
  have HNN := Lib.hid (show pN.nn = s.names.length by rw [HLN.out.nn, HSN.out.1])
  have HNU := Lib.hid (show ((pN.nn : Int) + 1) = ((pN.nn + 1 : Nat) : Int) by omega)
  have HRB1 := Lib.hid (show groupR l rec s = restR l rec (some (pN.nn + 1)) nme { sN with names := sN.names ++ [nme] } by have h9 := HRB0.out; rw [← HNN.out] at h9; exact h9)
  rw [HNU.out]
  clear HRB0 HNU HNN HLN HPV HO6 HR3 HR6 HB6 hwf HOWN c4 c4' f4' hnn
  generalize Y6.setCell ⟨w.heap.size, 4, none⟩ (.slice A6 (pN.nn + 1) c6) = V2 at *
  generalize ({ pN with na := A6, nn := pN.nn + 1, nc := c6 } : PX) = pM at *
  generalize ({ sN with names := sN.names ++ [nme] } : PS) = sM at *
  generalize pN.nn + 1 = nu at *
  have HRB0 := HRB1
  clear HRB1
  -- behind the head, all well: at V2: HPW: the state pM, HLM: sM; HRB0: what is left
  have hsd := HLM.out.fin.deep
  have c16 := HPW.out.bad
  rw [HLM.out.bad] at c16
  have ka := fun (W : World) (h : Lv W L l sM pM) => KPA.out sM pM W HSD.out h
  cases hrec : rec sM with
  | bad a m =>
    rw [hrec] at ka
    have KA := Lib.hid (fun (W : World) (h : Lv W L l sM pM) => show Calls Try.prog 31 #[pAgg L pM] W (fun e w' => ∃ p, e = .returned (pAgg L p) ∧ BadX p a m ∧ Below W.heap.size W w') from ka W h)
    have HRB := Lib.hid (show groupR l rec s = .bad a m by rw [HRB0.out, rest_eq, hrec]; rfl)
    clear ka hrec HRB0
    go_wp2_with (first
      | (with_reducible refine load_p (by with_reducible rfl) _ (by with_reducible rfl) w.heap.size (by first | (simp [Act.eval]; done) | simp [Act.eval, Act.put]) HPW.out ?_)
      | (go_at_call 31; (with_reducible refine (KA.out _ HLM.out).mono ?_)))
    rintro e w5 ⟨pX, rfl, hbx, hb5⟩
    have H5 := Lib.hid (HPW.out.call hb5)
    have HBX := Lib.hid hbx
    have z16 : (pX.bad == 0) = false := by simp [hbx.ne0]
    clear hb5 hbx HPW HLM c16
    go_wp2_with (first
      | (with_reducible refine store_p (by with_reducible rfl) _ _ (by with_reducible rfl) w.heap.size (p' := pX) (by first | (simp [Act.eval]; done) | simp [Act.eval, Act.put]) (by first | (simp [Act.eval]; done) | simp [Act.eval, Act.put]) H5.out ?_))
    intro V6 hV6 o6
    have HPW := Lib.hid hV6
    have c16 := hV6.bad
    clear hV6 o6 H5
    -- .. of a group; nu: its number, nme: its name
    -- wrong already, from where the sign behind is taken: HPW: the state pX, wrong, at w4
    have KON := Lib.hid (fun W => rfOn L pX 1 W)
    go_wp2_with (first
      | (with_reducible refine load_p (by with_reducible rfl) _ (by with_reducible rfl) w.heap.size (by first | (simp [Act.eval]; done) | simp [Act.eval, Act.put]) HPW.out ?_)
      | (go_at_call 56; (with_reducible refine (KON.out _).mono ?_)))
    rintro e wA ⟨rfl, hbA⟩
    have HA := Lib.hid (HPW.out.call hbA)
    clear hbA
    go_wp2_with (first
      | (with_reducible refine store_p (by with_reducible rfl) _ _ (by with_reducible rfl) w.heap.size (p' := { pX with i := wrap64 (pX.i + 1) }) (by first | (simp [Act.eval]; done) | simp [Act.eval, Act.put]) (by first | (simp [Act.eval]; done) | simp [Act.eval, Act.put]) HA.out ?_))
    intro VA hVA oA
    have HBY := Lib.hid (HBX.out.on (wrap64 (pX.i + 1)))
    generalize ({ pX with i := wrap64 (pX.i + 1) } : PX) = pY at *
    have HVA := Lib.hid hVA
    have c3 := hVA.deep
    have f3 := hVA.frozen 3
    have HD := Lib.hid (hVA.set (j := 3) (v := .int .i64 (wrap64 (pY.deep - 1))) (p' := { pY with deep := wrap64 (pY.deep - 1) }) rfl)
    have HBZ := Lib.hid (show BadX { pY with deep := wrap64 (pY.deep - 1) } a m from ⟨HBY.out.at', HBY.out.bad, HBY.out.ne⟩)
    clear hVA oA
    obtain ⟨Y, hY⟩ : ∃ y, y = rxGroup pY.x nu nme := ⟨_, rfl⟩
    have KTO := Lib.hid (fun W => show Calls Try.prog 57 #[pAgg L { pY with deep := wrap64 (pY.deep - 1) }, .agg #[.int .i64 9, .int .i64 0, .int .i64 0, .slice (some ⟨VA.heap.size, 0, none⟩) 1 1, .int .i64 0, .int .i64 0, .bool false, .bool false, .int .i64 (nu : Int), .string ⟨nme.toArray⟩]] W (RetE (pAgg L (toldX { pY with deep := wrap64 (pY.deep - 1) } Y (some ⟨VA.heap.size, 0, none⟩) 1 1)) fun w' => Below W.heap.size W w') by rw [hY]; exact rfTold L { pY with deep := wrap64 (pY.deep - 1) } (rxGroup pY.x nu nme) (some ⟨VA.heap.size, 0, none⟩) 1 1 W)
    clear hY
    go_wp2_with (first
      | (with_reducible refine load_p (by with_reducible rfl) _ (by with_reducible rfl) w.heap.size (by first | (simp [Act.eval]; done) | simp [Act.eval, Act.put]) HD.out ?_)
      | ((with_reducible refine load_px (by with_reducible rfl) _ (by with_reducible rfl) w.heap.size (by first | (simp [Act.eval]; done) | simp [Act.eval, Act.put]) HD.out ?_); simp only [rxAgg])
      | (go_at_call 57; (with_reducible refine (KTO.out _).mono ?_)))
    rintro e wT ⟨rfl, hbT⟩
    have hsz : VA.heap.size + 1 = (VA.setCell ⟨w.heap.size, 3, none⟩ (.int .i64 (wrap64 (pY.deep - 1)))).heap.size + 1 := by simp [World.setCell]
    have HT9 := Lib.hid (HD.out.callA hbT (by first | exact hsz | exact World.size_alloc ..))
    clear hbT hsz
    go_wp2_with (first
      | (with_reducible refine store_r (by with_reducible rfl) _ _ (by with_reducible rfl) (w.heap.size + 1) (p' := toldX { pY with deep := wrap64 (pY.deep - 1) } Y (some ⟨VA.heap.size, 0, none⟩) 1 1) (by first | (simp [Act.eval]; done) | simp [Act.eval, Act.put]) (by first | (simp [Act.eval]; done) | simp [Act.eval, Act.put]) HT9.out ?_))
    intro W2 h2 b2 _
    go_wp2
    refine ret_p (k := 2) Try.results97 h2 (by first | (simp; done) | simp [Act.put]) rfl ?_
    rw [HRB.out]
    exact RxP.bad_of HBZ.out _ _ _ _ b2
  | ok x s1 =>
    rw [hrec] at ka
    have KA := Lib.hid (fun (W : World) (h : Lv W L l sM pM) => show Calls Try.prog 31 #[pAgg L pM] W (fun e w' => ∃ p, e = .returned (pAgg L p) ∧ Lv w' L l s1 p ∧ p.x = x ∧ TX W.heap.size w' p ∧ Below W.heap.size W w') from ka W h)
    have ha := hadv _ _ _ hrec
    have hsd1 : s1.deep = s.deep + 1 := by rw [ha.deep]; exact HSD.out
    have hres := show groupR l rec s = if due l s1.pos = 41 then .ok (rxGroup x nu nme) { s1 with pos := s1.pos + 1, deep := s1.deep - 1 } else failR l s1.pos by rw [HRB0.out, rest_eq, hrec]; rfl
    have HRES := Lib.hid hres
    clear ka hrec HRB0 ha hres
    go_wp2_with (first
      | (with_reducible refine load_p (by with_reducible rfl) _ (by with_reducible rfl) w.heap.size (by first | (simp [Act.eval]; done) | simp [Act.eval, Act.put]) HPW.out ?_)
      | (go_at_call 31; (with_reducible refine (KA.out _ HLM.out).mono ?_)))
    rintro e w5 ⟨pR, rfl, hl5, hx5, ht5, hb5⟩
    have hsw := HPW.out.size
    have H5 := Lib.hid (HPW.out.call hb5)
    have HL5 := Lib.hid hl5
    have HTX5 := Lib.hid (show pR.x = x ∧ pR.xn = x.kids.length ∧ KX (fun q => w.heap.size ≤ q) w5 x (.slice pR.xa pR.xn pR.xc) by
      rw [← hx5]; exact ⟨rfl, ht5.1, ht5.2.kept fun _ _ _ hq hh => ⟨hh, by omega⟩⟩)
    clear hb5 hl5 hx5 ht5 HPW HLM c16
    go_wp2_with (first
      | (with_reducible refine store_p (by with_reducible rfl) _ _ (by with_reducible rfl) w.heap.size (p' := pR) (by first | (simp [Act.eval]; done) | simp [Act.eval, Act.put]) (by first | (simp [Act.eval]; done) | simp [Act.eval, Act.put]) H5.out ?_))
    intro V6 hV6 o6
    have HPW := Lib.hid hV6
    have HLR := Lib.hid (HL5.out.off o6 (HPT.out.below hV6.below))
    have HTX := Lib.hid (And.intro HTX5.out.1 (And.intro HTX5.out.2.1 (KX.off HTX5.out.2.2 o6)))
    have c16 := hV6.bad
    rw [HLR.out.bad] at c16
    have kd := show Calls Try.prog 55 #[pAgg L pR, .int .i64 0] V6 (RetE (.int .i64 (due l s1.pos)) fun w' => Below V6.heap.size V6 w') from rfSignL L l s1 pR 0 V6 HLR.out (by omega)
    clear hV6 o6 H5 HL5 HTX5
    by_cases h41 : due l s1.pos = 41
    · have HOK := Lib.hid (show groupR l rec s = .ok (rxGroup x nu nme) { s1 with pos := s1.pos + 1, deep := s1.deep - 1 } by rw [HRES.out, if_pos h41])
      have hlt1 := due_lt h41 (by decide)
      rw [h41] at kd
      have KD := Lib.hid kd
      have KON := Lib.hid (fun W => rfOn L pR 1 W)
      clear kd h41 HRES
      go_wp2_with (first
        | (with_reducible refine load_pG (by with_unfolding_all rfl) _ (by with_reducible rfl) w.heap.size (by first | (simp [Act.eval]; done) | simp [Act.eval, Act.put]) HPW.out ?_)
        | (go_at_call 55; (with_reducible refine (KD.out).mono ?_)))
      rintro e w7 ⟨rfl, hb7⟩
      have H7 := Lib.hid (HPW.out.call hb7)
      have HL7 := Lib.hid (HLR.out.below hb7)
      have HTX7 := Lib.hid (And.intro HTX.out.1 (And.intro HTX.out.2.1 (KX.off HTX.out.2.2 (OffP.call hb7))))
      clear hb7 HPW HLR HTX c16
      go_wp2_with (first
        | (with_reducible refine load_p (by with_reducible rfl) _ (by with_reducible rfl) w.heap.size (by first | (simp [Act.eval]; done) | simp [Act.eval, Act.put]) H7.out ?_)
        | (go_at_call 56; (with_reducible refine (KON.out _).mono ?_)))
      rintro e w8 ⟨rfl, hb8⟩
      have H8 := Lib.hid (H7.out.call hb8)
      have HL8 := Lib.hid ((HL7.out.below hb8).on 1 hlt1)
      have HTX8 := Lib.hid (And.intro HTX7.out.1 (And.intro HTX7.out.2.1 (KX.off HTX7.out.2.2 (OffP.call hb8))))
      clear hb8 H7 HL7 HTX7
      go_wp2_with (first
        | (with_reducible refine store_p (by with_reducible rfl) _ _ (by with_reducible rfl) w.heap.size (p' := { pR with i := wrap64 (pR.i + 1) }) (by first | (simp [Act.eval]; done) | simp [Act.eval, Act.put]) (by first | (simp [Act.eval]; done) | simp [Act.eval, Act.put]) H8.out ?_))
      intro V9 hV9 o9
      have HL9 := Lib.hid (HL8.out.off o9 (HPT.out.below hV9.below))
      have htx9 : ({ pR with i := wrap64 (pR.i + 1) } : PX).x = x ∧ ({ pR with i := wrap64 (pR.i + 1) } : PX).xn = x.kids.length ∧ KX (fun q => w.heap.size ≤ q) V9 x (.slice ({ pR with i := wrap64 (pR.i + 1) } : PX).xa ({ pR with i := wrap64 (pR.i + 1) } : PX).xn ({ pR with i := wrap64 (pR.i + 1) } : PX).xc) := ⟨HTX8.out.1, HTX8.out.2.1, KX.off HTX8.out.2.2 o9⟩
      generalize ({ pR with i := wrap64 (pR.i + 1) } : PX) = pY at *
      have HTX9 := Lib.hid htx9
      have HVA := Lib.hid hV9
      have c3 := hV9.deep
      have f3 := hV9.frozen 3
      have HD := Lib.hid (hV9.set (j := 3) (v := .int .i64 (wrap64 (pY.deep - 1))) (p' := { pY with deep := wrap64 (pY.deep - 1) }) rfl)
      have OD := Lib.hid (hV9.setOff 3 (.int .i64 (wrap64 (pY.deep - 1))))
      have HLS := Lib.hid (HL9.out.shut (by show 1 ≤ s1.deep; omega))
      clear hV9 o9 htx9 H8 HL8 HTX8 HL9
      obtain ⟨e1, e2, e3⟩ := HTX9.out
      subst e1
      have E2 := Lib.hid e2
      clear e2 HTX9
      obtain ⟨Y, hY⟩ : ∃ y, y = rxGroup pY.x nu nme := ⟨_, rfl⟩
      have HBA := HVA.out.size
      have KTO := Lib.hid (fun W => show Calls Try.prog 57 #[pAgg L { pY with deep := wrap64 (pY.deep - 1) }, .agg #[.int .i64 9, .int .i64 0, .int .i64 0, .slice (some ⟨V9.heap.size, 0, none⟩) 1 1, .int .i64 0, .int .i64 0, .bool false, .bool false, .int .i64 (nu : Int), .string ⟨nme.toArray⟩]] W (RetE (pAgg L (toldX { pY with deep := wrap64 (pY.deep - 1) } Y (some ⟨V9.heap.size, 0, none⟩) 1 1)) fun w' => Below W.heap.size W w') by rw [hY]; exact rfTold L { pY with deep := wrap64 (pY.deep - 1) } (rxGroup pY.x nu nme) (some ⟨V9.heap.size, 0, none⟩) 1 1 W)
      have HOK2 := Lib.hid (show groupR l rec s = .ok Y { s1 with pos := s1.pos + 1, deep := s1.deep - 1 } by rw [hY]; exact HOK.out)
      have HYK := Lib.hid (show Y.kids = [pY.x] by rw [hY]; rfl)
      clear hY HOK
      go_wp2_with (first
        | (with_reducible refine load_p (by with_reducible rfl) _ (by with_reducible rfl) w.heap.size (by first | (simp [Act.eval]; done) | simp [Act.eval, Act.put]) HD.out ?_)
        | ((with_reducible refine load_px (by with_reducible rfl) _ (by with_reducible rfl) w.heap.size (by first | (simp [Act.eval]; done) | simp [Act.eval, Act.put]) HD.out ?_); simp only [rxAgg])
        | (go_at_call 57; (with_reducible refine (KTO.out _).mono ?_)))
      rintro e wT ⟨rfl, hbT⟩
      have hsz : V9.heap.size + 1 = (V9.setCell ⟨w.heap.size, 3, none⟩ (.int .i64 (wrap64 (pY.deep - 1)))).heap.size + 1 := by simp [World.setCell]
      have HT9 := Lib.hid (HD.out.callA hbT (by first | exact hsz | exact World.size_alloc ..))
      have OT := Lib.hid (offA hbT (by first | exact hsz | exact World.size_alloc ..))
      have HKX := Lib.hid (kx_one (m := V9.heap.size) (by first | exact hsz | exact World.size_alloc ..) (by simp [World.setCell]) HD.out.size (KX.off e3 OD.out) hbT HYK.out)
      clear hbT hsz
      go_wp2_with (first
        | (with_reducible refine store_r (by with_reducible rfl) _ _ (by with_reducible rfl) (w.heap.size + 1) (p' := toldX { pY with deep := wrap64 (pY.deep - 1) } Y (some ⟨V9.heap.size, 0, none⟩) 1 1) (by first | (simp [Act.eval]; done) | simp [Act.eval, Act.put]) (by first | (simp [Act.eval]; done) | simp [Act.eval, Act.put]) HT9.out ?_))
      intro W2 h2 b2 o2
      go_wp2
      refine ret_p (k := 2) Try.results97 h2 (by first | (simp; done) | simp [Act.put]) rfl ?_
      rw [HOK2.out]
      have hok := RxP.ok_of (w := w) (x := Y) (A := some ⟨V9.heap.size, 0, none⟩) (c := 1) (HLS.out.off (OD.out.trans (OT.out.trans o2)) (HPT.out.below b2)) (by rw [HYK.out]; exact KX.off HKX.out o2) b2
      rw [HYK.out] at hok
      exact hok
    · obtain ⟨a, m, hf, hbx⟩ := stopX_fail (α := Rx) (L := L) (l := l) (p := pR) (i := s1.pos) HPT.out.1.symm
      have HRB := Lib.hid (show groupR l rec s = .bad a m by rw [HRES.out, if_neg h41, hf])
      have z41 : (due l s1.pos != 41) = true := by simp [h41]
      have HI := Lib.hid HLR.out.i
      have KST := Lib.hid (fun W => rfStop L pR (s1.pos : Int) W)
      clear HRES hf h41
      generalize due l s1.pos = d at *
      have KD := Lib.hid kd
      clear kd
      go_wp2_with (first
        | (with_reducible refine load_pG (by with_unfolding_all rfl) _ (by with_reducible rfl) w.heap.size (by first | (simp [Act.eval]; done) | simp [Act.eval, Act.put]) HPW.out ?_)
        | (go_at_call 55; (with_reducible refine (KD.out).mono ?_)))
      rintro e w7 ⟨rfl, hb7⟩
      have H7 := Lib.hid (HPW.out.call hb7)
      have c1 := H7.out.i
      rw [HI.out] at c1
      clear hb7 HPW HLR HTX c16
      go_wp2_with (first
        | (with_reducible refine load_p (by with_reducible rfl) _ (by with_reducible rfl) w.heap.size (by first | (simp [Act.eval]; done) | simp [Act.eval, Act.put]) H7.out ?_)
        | (go_at_call 32; (with_reducible refine (KST.out _).mono ?_)))
      rintro e w8 ⟨rfl, hb8⟩
      have H8 := Lib.hid (H7.out.call hb8)
      clear hb8 c1 H7
      go_wp2_with (first
        | (with_reducible refine store_p (by with_reducible rfl) _ _ (by with_reducible rfl) w.heap.size (p' := stopX L pR (s1.pos : Int)) (by first | (simp [Act.eval]; done) | simp [Act.eval, Act.put]) (by first | (simp [Act.eval]; done) | simp [Act.eval, Act.put]) H8.out ?_))
      intro V6 hV6 o6
      have HPW := Lib.hid hV6
      clear hV6 o6 H8
      generalize stopX L pR (s1.pos : Int) = pX at *
      have HBX := Lib.hid hbx
      clear hbx
      -- .. of a group; nu: its number, nme: its name
      -- wrong already, from where the sign behind is taken: HPW: the state pX, wrong, at w4
      have KON := Lib.hid (fun W => rfOn L pX 1 W)
      go_wp2_with (first
        | (with_reducible refine load_p (by with_reducible rfl) _ (by with_reducible rfl) w.heap.size (by first | (simp [Act.eval]; done) | simp [Act.eval, Act.put]) HPW.out ?_)
        | (go_at_call 56; (with_reducible refine (KON.out _).mono ?_)))
      rintro e wA ⟨rfl, hbA⟩
      have HA := Lib.hid (HPW.out.call hbA)
      clear hbA
      go_wp2_with (first
        | (with_reducible refine store_p (by with_reducible rfl) _ _ (by with_reducible rfl) w.heap.size (p' := { pX with i := wrap64 (pX.i + 1) }) (by first | (simp [Act.eval]; done) | simp [Act.eval, Act.put]) (by first | (simp [Act.eval]; done) | simp [Act.eval, Act.put]) HA.out ?_))
      intro VA hVA oA
      have HBY := Lib.hid (HBX.out.on (wrap64 (pX.i + 1)))
      generalize ({ pX with i := wrap64 (pX.i + 1) } : PX) = pY at *
      have HVA := Lib.hid hVA
      have c3 := hVA.deep
      have f3 := hVA.frozen 3
      have HD := Lib.hid (hVA.set (j := 3) (v := .int .i64 (wrap64 (pY.deep - 1))) (p' := { pY with deep := wrap64 (pY.deep - 1) }) rfl)
      have HBZ := Lib.hid (show BadX { pY with deep := wrap64 (pY.deep - 1) } a m from ⟨HBY.out.at', HBY.out.bad, HBY.out.ne⟩)
      clear hVA oA
      obtain ⟨Y, hY⟩ : ∃ y, y = rxGroup pY.x nu nme := ⟨_, rfl⟩
      have KTO := Lib.hid (fun W => show Calls Try.prog 57 #[pAgg L { pY with deep := wrap64 (pY.deep - 1) }, .agg #[.int .i64 9, .int .i64 0, .int .i64 0, .slice (some ⟨VA.heap.size, 0, none⟩) 1 1, .int .i64 0, .int .i64 0, .bool false, .bool false, .int .i64 (nu : Int), .string ⟨nme.toArray⟩]] W (RetE (pAgg L (toldX { pY with deep := wrap64 (pY.deep - 1) } Y (some ⟨VA.heap.size, 0, none⟩) 1 1)) fun w' => Below W.heap.size W w') by rw [hY]; exact rfTold L { pY with deep := wrap64 (pY.deep - 1) } (rxGroup pY.x nu nme) (some ⟨VA.heap.size, 0, none⟩) 1 1 W)
      clear hY
      go_wp2_with (first
        | (with_reducible refine load_p (by with_reducible rfl) _ (by with_reducible rfl) w.heap.size (by first | (simp [Act.eval]; done) | simp [Act.eval, Act.put]) HD.out ?_)
        | ((with_reducible refine load_px (by with_reducible rfl) _ (by with_reducible rfl) w.heap.size (by first | (simp [Act.eval]; done) | simp [Act.eval, Act.put]) HD.out ?_); simp only [rxAgg])
        | (go_at_call 57; (with_reducible refine (KTO.out _).mono ?_)))
      rintro e wT ⟨rfl, hbT⟩
      have hsz : VA.heap.size + 1 = (VA.setCell ⟨w.heap.size, 3, none⟩ (.int .i64 (wrap64 (pY.deep - 1)))).heap.size + 1 := by simp [World.setCell]
      have HT9 := Lib.hid (HD.out.callA hbT (by first | exact hsz | exact World.size_alloc ..))
      clear hbT hsz
      go_wp2_with (first
        | (with_reducible refine store_r (by with_reducible rfl) _ _ (by with_reducible rfl) (w.heap.size + 1) (p' := toldX { pY with deep := wrap64 (pY.deep - 1) } Y (some ⟨VA.heap.size, 0, none⟩) 1 1) (by first | (simp [Act.eval]; done) | simp [Act.eval, Act.put]) (by first | (simp [Act.eval]; done) | simp [Act.eval, Act.put]) HT9.out ?_))
      intro W2 h2 b2 _
      go_wp2
      refine ret_p (k := 2) Try.results97 h2 (by first | (simp; done) | simp [Act.put]) rfl ?_
      rw [HRB.out]
      exact RxP.bad_of HBZ.out _ _ _ _ b2


set_option maxHeartbeats 4000000 in
set_option maxRecDepth 100000 in
theorem rfGroup_b (L : LX) (l : List Int) (s : PS) (p : PX) (w : World) (rec : PS → PR Rx) (hadv : ∀ s v s', rec s = .ok v s' → Adv l s s') (h40 : due l s.pos = 40)
    (KP : s.deep < 50 → ∀ (s' : PS) (p' : PX) (W : World), s'.deep = s.deep + 1 → Lv W L l s' p' → Calls Try.prog 31 #[pAgg L p'] W (RxP L l W (rec s')))
    (h : Lv w L l s p) (hd : ¬ s.deep = 50) (h63 : due l (s.pos + 1) = 63) (h58 : due l (s.pos + 2) = 58) :
    Calls Try.prog 97 #[pAgg L p] w (RxP L l w (groupR l rec s)) := by
  have HLv := Lib.hid h
  have HPT := Lib.hid h.pat
  have hl := h.fin.len
  have hp := h.fin.pos
  have hdp := h.fin.deep
  have hlt := due_lt h40 (by decide)
  have hd2 : s.deep < 50 := by omega
  have KPA := Lib.hid (KP hd2)
  have HG := Lib.hid (show groupR l rec s = (headR l { s with pos := s.pos + 1, deep := s.deep + 1 }).bind fun n s' => restR l rec (n.map fun _ => s.names.length + 1) (n.getD []) s' by unfold groupR; rw [if_neg hd])
  have HV1 := Lib.hid (h.opened hd2)
  have k1 := fun (p' : PX) (W : World) (h : Lv W L l { s with deep := s.deep + 1 } p') => show Calls Try.prog 55 #[pAgg L p', .int .i64 1] W (RetE (.int .i64 (due l (s.pos + 1))) fun w' => Below W.heap.size W w') from rfSignL L l { s with deep := s.deep + 1 } p' 1 W h (by omega)
  have k2 := fun (p' : PX) (W : World) (h : Lv W L l { s with deep := s.deep + 1 } p') => show Calls Try.prog 55 #[pAgg L p', .int .i64 2] W (RetE (.int .i64 (due l (s.pos + 2))) fun w' => Below W.heap.size W w') from rfSignL L l { s with deep := s.deep + 1 } p' 2 W h (by omega)
  have HDD := Lib.hid h.deep
  clear KP h
  obtain ⟨p1, hp1⟩ : ∃ q : PX, q = { p with deep := (s.deep : Int) + 1 } := ⟨_, rfl⟩
  rw [← hp1] at HV1
  have HP1 := Lib.hid hp1
  clear hp1 hd
  have hlt63 := due_lt h63 (by decide)
  have HG2 := Lib.hid (show groupR l rec s = (if due l (s.pos + 2) = 58 then restR l rec none [] { s with pos := s.pos + 3, deep := s.deep + 1 }
    else if due l (s.pos + 2) = 60 then (nameR l { s with pos := s.pos + 3, deep := s.deep + 1 }).bind fun n s' => restR l rec (some (s.names.length + 1)) n { s' with names := s'.names ++ [n] } else failR l (s.pos + 2)) by
    rw [HG.out]; unfold headR; simp only; rw [if_pos h63]
    by_cases a : due l (s.pos + 1 + 1) = 58
    · rw [if_pos a, if_pos a]; rfl
    rw [if_neg a, if_neg a]
    by_cases b : due l (s.pos + 1 + 1) = 60
    · rw [if_pos b, if_pos b]
      show ((nameR l { s with pos := s.pos + 3, deep := s.deep + 1 }).bind _).bind _ = _
      cases nameR l { s with pos := s.pos + 3, deep := s.deep + 1 } <;> rfl
    · rw [if_neg b, if_neg b]; unfold failR; split <;> rfl)
  rw [h63] at k1
  have K1 := Lib.hid k1
  clear k1 HG h63
  have hlt2 := due_lt h58 (by decide)
  have HRB0 := Lib.hid (show groupR l rec s = restR l rec none [] { s with pos := s.pos + 3, deep := s.deep + 1 } by rw [HG2.out, if_pos h58])
  rw [h58] at k2
  have K2 := Lib.hid k2
  clear k2 HG2 h58
  go_enter Try.func97, Try.ntmps97
  go_wp2_with (with_reducible refine box_p (by with_reducible rfl) _ (by with_reducible rfl) (L := L) (p := p) (by simp [Act.eval]) ?_)
  intro V hV bV sV
  go_wp2_with (with_reducible refine room_p (by with_reducible rfl) (by with_reducible rfl) hV ?_)
  intro W hW bW sW
  clear hV bV sV bW sW
  have c3 := hW.deep
  rw [HDD.out] at c3
  have f3 := hW.frozen 3
  have H1 := Lib.hid (show PF w (W.setCell ⟨w.heap.size, 3, none⟩ (.int .i64 ((s.deep : Int) + 1))) w.heap.size (w.heap.size + 1) L p1 by rw [HP1.out]; exact hW.set (j := 3) (v := .int .i64 ((s.deep : Int) + 1)) rfl)
  clear hW
  go_wp2_with (first
    | (with_reducible refine load_p (by with_reducible rfl) _ (by with_reducible rfl) w.heap.size (by first | (simp [Act.eval]; done) | simp [Act.eval, Act.put]) H1.out ?_)
    | (go_at_call 55; (with_reducible refine (K1.out p1 _ (HV1.out.below H1.out.below)).mono ?_)))
  rintro e w2 ⟨rfl, hb2⟩
  have H2 := Lib.hid (show PF w w2 w.heap.size (w.heap.size + 1) L p1 by
    exact H1.out.call hb2)
  have HV2 := Lib.hid (HV1.out.below H2.out.below)
  clear hb2 H1
  go_wp2_with (first
    | (with_reducible refine load_p (by with_reducible rfl) _ (by with_reducible rfl) w.heap.size (by first | (simp [Act.eval]; done) | simp [Act.eval, Act.put]) H2.out ?_)
    | (go_at_call 55; (with_reducible refine (K2.out p1 _ HV2.out).mono ?_)))
  rintro e w4 ⟨rfl, hb4⟩
  have H4 := Lib.hid (H2.out.call hb4)
  have HV4 := Lib.hid (HV2.out.below hb4)
  clear hb4 H2 HV2
  obtain ⟨pM, hpM⟩ : ∃ q : PX, q = { p1 with i := wrap64 (p1.i + 3) } := ⟨_, rfl⟩
  have KON := Lib.hid (fun W => show Calls Try.prog 56 #[pAgg L p1, .int .i64 3] W (RetE (pAgg L pM) fun w' => Below W.heap.size W w') by rw [hpM]; exact rfOn L p1 3 W)
  have HLA := Lib.hid (show Lv w4 L l { s with pos := s.pos + 3, deep := s.deep + 1 } pM by rw [hpM]; exact HV4.out.on 3 hlt2)
  clear hpM
  go_wp2_with (first
    | (with_reducible refine load_p (by with_reducible rfl) _ (by with_reducible rfl) w.heap.size (by first | (simp [Act.eval]; done) | simp [Act.eval, Act.put]) H4.out ?_)
    | (go_at_call 56; (with_reducible refine (KON.out _).mono ?_)))
  rintro e w5 ⟨rfl, hb5⟩
  have H5 := Lib.hid (H4.out.call hb5)
  have HLB := Lib.hid (HLA.out.below hb5)
  clear hb5
  go_wp2_with (first
    | (with_reducible refine store_p (by with_reducible rfl) _ _ (by with_reducible rfl) w.heap.size (p' := pM) (by first | (simp [Act.eval]; done) | simp [Act.eval, Act.put]) (by first | (simp [Act.eval]; done) | simp [Act.eval, Act.put]) H5.out ?_))
  intro V2 hV2 o2
  have HPW := Lib.hid hV2
  obtain ⟨sM, hsM⟩ : ∃ q : PS, q = { s with pos := s.pos + 3, deep := s.deep + 1 } := ⟨_, rfl⟩
  rw [← hsM] at HLB HRB0
  have HLM := Lib.hid (HLB.out.off o2 (HPT.out.below hV2.below))
  have HSD := Lib.hid (show sM.deep = s.deep + 1 by rw [hsM])
  clear hV2 o2 hsM HLA HLB H5 H4
  -- behind the head, all well: at V2: HPW: the state pM, HLM: sM; HRB0: what is left
  have hsd := HLM.out.fin.deep
  have c16 := HPW.out.bad
  rw [HLM.out.bad] at c16
  have ka := fun (W : World) (h : Lv W L l sM pM) => KPA.out sM pM W HSD.out h
  cases hrec : rec sM with
  | bad a m =>
    rw [hrec] at ka
    have KA := Lib.hid (fun (W : World) (h : Lv W L l sM pM) => show Calls Try.prog 31 #[pAgg L pM] W (fun e w' => ∃ p, e = .returned (pAgg L p) ∧ BadX p a m ∧ Below W.heap.size W w') from ka W h)
    have HRB := Lib.hid (show groupR l rec s = .bad a m by rw [HRB0.out, rest_eq, hrec]; rfl)
    clear ka hrec HRB0
    go_wp2_with (first
      | (with_reducible refine load_p (by with_reducible rfl) _ (by with_reducible rfl) w.heap.size (by first | (simp [Act.eval]; done) | simp [Act.eval, Act.put]) HPW.out ?_)
      | (go_at_call 31; (with_reducible refine (KA.out _ HLM.out).mono ?_)))
    rintro e w5 ⟨pX, rfl, hbx, hb5⟩
    have H5 := Lib.hid (HPW.out.call hb5)
    have HBX := Lib.hid hbx
    have z16 : (pX.bad == 0) = false := by simp [hbx.ne0]
    clear hb5 hbx HPW HLM c16
    go_wp2_with (first
      | (with_reducible refine store_p (by with_reducible rfl) _ _ (by with_reducible rfl) w.heap.size (p' := pX) (by first | (simp [Act.eval]; done) | simp [Act.eval, Act.put]) (by first | (simp [Act.eval]; done) | simp [Act.eval, Act.put]) H5.out ?_))
    intro V6 hV6 o6
    have HPW := Lib.hid hV6
    have c16 := hV6.bad
    clear hV6 o6 H5
    -- .. of a group that is none
    -- wrong already, from where the sign behind is taken: HPW: the state pX, wrong, at w4
    have KON := Lib.hid (fun W => rfOn L pX 1 W)
    go_wp2_with (first
      | (with_reducible refine load_p (by with_reducible rfl) _ (by with_reducible rfl) w.heap.size (by first | (simp [Act.eval]; done) | simp [Act.eval, Act.put]) HPW.out ?_)
      | (go_at_call 56; (with_reducible refine (KON.out _).mono ?_)))
    rintro e wA ⟨rfl, hbA⟩
    have HA := Lib.hid (HPW.out.call hbA)
    clear hbA
    go_wp2_with (first
      | (with_reducible refine store_p (by with_reducible rfl) _ _ (by with_reducible rfl) w.heap.size (p' := { pX with i := wrap64 (pX.i + 1) }) (by first | (simp [Act.eval]; done) | simp [Act.eval, Act.put]) (by first | (simp [Act.eval]; done) | simp [Act.eval, Act.put]) HA.out ?_))
    intro VA hVA oA
    have HBY := Lib.hid (HBX.out.on (wrap64 (pX.i + 1)))
    generalize ({ pX with i := wrap64 (pX.i + 1) } : PX) = pY at *
    have HVA := Lib.hid hVA
    have c3 := hVA.deep
    have f3 := hVA.frozen 3
    have HD := Lib.hid (hVA.set (j := 3) (v := .int .i64 (wrap64 (pY.deep - 1))) (p' := { pY with deep := wrap64 (pY.deep - 1) }) rfl)
    have HBZ := Lib.hid (show BadX { pY with deep := wrap64 (pY.deep - 1) } a m from ⟨HBY.out.at', HBY.out.bad, HBY.out.ne⟩)
    clear hVA oA
    go_wp2_with (first
      | (with_reducible refine load_p (by with_reducible rfl) _ (by with_reducible rfl) w.heap.size (by first | (simp [Act.eval]; done) | simp [Act.eval, Act.put]) HD.out ?_)
      | (with_reducible refine store_r (by with_reducible rfl) _ _ (by with_reducible rfl) (w.heap.size + 1) (p' := { pY with deep := wrap64 (pY.deep - 1) }) (by first | (simp [Act.eval]; done) | simp [Act.eval, Act.put]) (by first | (simp [Act.eval]; done) | simp [Act.eval, Act.put]) HD.out ?_))
    intro W2 h2 b2 _
    go_wp2
    refine ret_p (k := 2) Try.results97 h2 (by first | (simp; done) | simp [Act.put]) rfl ?_
    rw [HRB.out]
    exact ⟨_, rfl, HBZ.out, b2⟩
  | ok x s1 =>
    rw [hrec] at ka
    have KA := Lib.hid (fun (W : World) (h : Lv W L l sM pM) => show Calls Try.prog 31 #[pAgg L pM] W (fun e w' => ∃ p, e = .returned (pAgg L p) ∧ Lv w' L l s1 p ∧ p.x = x ∧ TX W.heap.size w' p ∧ Below W.heap.size W w') from ka W h)
    have ha := hadv _ _ _ hrec
    have hsd1 : s1.deep = s.deep + 1 := by rw [ha.deep]; exact HSD.out
    have hres := show groupR l rec s = if due l s1.pos = 41 then .ok x { s1 with pos := s1.pos + 1, deep := s1.deep - 1 } else failR l s1.pos by rw [HRB0.out, rest_eq, hrec]; rfl
    have HRES := Lib.hid hres
    clear ka hrec HRB0 ha hres
    go_wp2_with (first
      | (with_reducible refine load_p (by with_reducible rfl) _ (by with_reducible rfl) w.heap.size (by first | (simp [Act.eval]; done) | simp [Act.eval, Act.put]) HPW.out ?_)
      | (go_at_call 31; (with_reducible refine (KA.out _ HLM.out).mono ?_)))
    rintro e w5 ⟨pR, rfl, hl5, hx5, ht5, hb5⟩
    have hsw := HPW.out.size
    have H5 := Lib.hid (HPW.out.call hb5)
    have HL5 := Lib.hid hl5
    have HTX5 := Lib.hid (show pR.x = x ∧ pR.xn = x.kids.length ∧ KX (fun q => w.heap.size ≤ q) w5 x (.slice pR.xa pR.xn pR.xc) by
      rw [← hx5]; exact ⟨rfl, ht5.1, ht5.2.kept fun _ _ _ hq hh => ⟨hh, by omega⟩⟩)
    clear hb5 hl5 hx5 ht5 HPW HLM c16
    go_wp2_with (first
      | (with_reducible refine store_p (by with_reducible rfl) _ _ (by with_reducible rfl) w.heap.size (p' := pR) (by first | (simp [Act.eval]; done) | simp [Act.eval, Act.put]) (by first | (simp [Act.eval]; done) | simp [Act.eval, Act.put]) H5.out ?_))
    intro V6 hV6 o6
    have HPW := Lib.hid hV6
    have HLR := Lib.hid (HL5.out.off o6 (HPT.out.below hV6.below))
    have HTX := Lib.hid (And.intro HTX5.out.1 (And.intro HTX5.out.2.1 (KX.off HTX5.out.2.2 o6)))
    have c16 := hV6.bad
    rw [HLR.out.bad] at c16
    have kd := show Calls Try.prog 55 #[pAgg L pR, .int .i64 0] V6 (RetE (.int .i64 (due l s1.pos)) fun w' => Below V6.heap.size V6 w') from rfSignL L l s1 pR 0 V6 HLR.out (by omega)
    clear hV6 o6 H5 HL5 HTX5
    by_cases h41 : due l s1.pos = 41
    · have HOK := Lib.hid (show groupR l rec s = .ok x { s1 with pos := s1.pos + 1, deep := s1.deep - 1 } by rw [HRES.out, if_pos h41])
      have hlt1 := due_lt h41 (by decide)
      rw [h41] at kd
      have KD := Lib.hid kd
      have KON := Lib.hid (fun W => rfOn L pR 1 W)
      clear kd h41 HRES
      go_wp2_with (first
        | (with_reducible refine load_pG (by with_unfolding_all rfl) _ (by with_reducible rfl) w.heap.size (by first | (simp [Act.eval]; done) | simp [Act.eval, Act.put]) HPW.out ?_)
        | (go_at_call 55; (with_reducible refine (KD.out).mono ?_)))
      rintro e w7 ⟨rfl, hb7⟩
      have H7 := Lib.hid (HPW.out.call hb7)
      have HL7 := Lib.hid (HLR.out.below hb7)
      have HTX7 := Lib.hid (And.intro HTX.out.1 (And.intro HTX.out.2.1 (KX.off HTX.out.2.2 (OffP.call hb7))))
      clear hb7 HPW HLR HTX c16
      go_wp2_with (first
        | (with_reducible refine load_p (by with_reducible rfl) _ (by with_reducible rfl) w.heap.size (by first | (simp [Act.eval]; done) | simp [Act.eval, Act.put]) H7.out ?_)
        | (go_at_call 56; (with_reducible refine (KON.out _).mono ?_)))
      rintro e w8 ⟨rfl, hb8⟩
      have H8 := Lib.hid (H7.out.call hb8)
      have HL8 := Lib.hid ((HL7.out.below hb8).on 1 hlt1)
      have HTX8 := Lib.hid (And.intro HTX7.out.1 (And.intro HTX7.out.2.1 (KX.off HTX7.out.2.2 (OffP.call hb8))))
      clear hb8 H7 HL7 HTX7
      go_wp2_with (first
        | (with_reducible refine store_p (by with_reducible rfl) _ _ (by with_reducible rfl) w.heap.size (p' := { pR with i := wrap64 (pR.i + 1) }) (by first | (simp [Act.eval]; done) | simp [Act.eval, Act.put]) (by first | (simp [Act.eval]; done) | simp [Act.eval, Act.put]) H8.out ?_))
      intro V9 hV9 o9
      have HL9 := Lib.hid (HL8.out.off o9 (HPT.out.below hV9.below))
      have htx9 : ({ pR with i := wrap64 (pR.i + 1) } : PX).x = x ∧ ({ pR with i := wrap64 (pR.i + 1) } : PX).xn = x.kids.length ∧ KX (fun q => w.heap.size ≤ q) V9 x (.slice ({ pR with i := wrap64 (pR.i + 1) } : PX).xa ({ pR with i := wrap64 (pR.i + 1) } : PX).xn ({ pR with i := wrap64 (pR.i + 1) } : PX).xc) := ⟨HTX8.out.1, HTX8.out.2.1, KX.off HTX8.out.2.2 o9⟩
      generalize ({ pR with i := wrap64 (pR.i + 1) } : PX) = pY at *
      have HTX9 := Lib.hid htx9
      have HVA := Lib.hid hV9
      have c3 := hV9.deep
      have f3 := hV9.frozen 3
      have HD := Lib.hid (hV9.set (j := 3) (v := .int .i64 (wrap64 (pY.deep - 1))) (p' := { pY with deep := wrap64 (pY.deep - 1) }) rfl)
      have OD := Lib.hid (hV9.setOff 3 (.int .i64 (wrap64 (pY.deep - 1))))
      have HLS := Lib.hid (HL9.out.shut (by show 1 ≤ s1.deep; omega))
      clear hV9 o9 htx9 H8 HL8 HTX8 HL9
      go_wp2_with (first
        | (with_reducible refine load_p (by with_reducible rfl) _ (by with_reducible rfl) w.heap.size (by first | (simp [Act.eval]; done) | simp [Act.eval, Act.put]) HD.out ?_)
        | (with_reducible refine store_r (by with_reducible rfl) _ _ (by with_reducible rfl) (w.heap.size + 1) (p' := { pY with deep := wrap64 (pY.deep - 1) }) (by first | (simp [Act.eval]; done) | simp [Act.eval, Act.put]) (by first | (simp [Act.eval]; done) | simp [Act.eval, Act.put]) HD.out ?_))
      intro W2 h2 b2 o2
      go_wp2
      refine ret_p (k := 2) Try.results97 h2 (by first | (simp; done) | simp [Act.put]) rfl ?_
      rw [HOK.out]
      refine ⟨_, rfl, HLS.out.off (OD.out.trans o2) (HPT.out.below b2), HTX9.out.1, ⟨?_, ?_⟩, b2⟩
      · show pY.xn = pY.x.kids.length
        rw [HTX9.out.1]; exact HTX9.out.2.1
      · show KX _ _ pY.x (.slice pY.xa pY.xn pY.xc)
        rw [HTX9.out.1]; exact KX.off HTX9.out.2.2 (OD.out.trans o2)
    · obtain ⟨a, m, hf, hbx⟩ := stopX_fail (α := Rx) (L := L) (l := l) (p := pR) (i := s1.pos) HPT.out.1.symm
      have HRB := Lib.hid (show groupR l rec s = .bad a m by rw [HRES.out, if_neg h41, hf])
      have z41 : (due l s1.pos != 41) = true := by simp [h41]
      have HI := Lib.hid HLR.out.i
      have KST := Lib.hid (fun W => rfStop L pR (s1.pos : Int) W)
      clear HRES hf h41
      generalize due l s1.pos = d at *
      have KD := Lib.hid kd
      clear kd
      go_wp2_with (first
        | (with_reducible refine load_pG (by with_unfolding_all rfl) _ (by with_reducible rfl) w.heap.size (by first | (simp [Act.eval]; done) | simp [Act.eval, Act.put]) HPW.out ?_)
        | (go_at_call 55; (with_reducible refine (KD.out).mono ?_)))
      rintro e w7 ⟨rfl, hb7⟩
      have H7 := Lib.hid (HPW.out.call hb7)
      have c1 := H7.out.i
      rw [HI.out] at c1
      clear hb7 HPW HLR HTX c16
      go_wp2_with (first
        | (with_reducible refine load_p (by with_reducible rfl) _ (by with_reducible rfl) w.heap.size (by first | (simp [Act.eval]; done) | simp [Act.eval, Act.put]) H7.out ?_)
        | (go_at_call 32; (with_reducible refine (KST.out _).mono ?_)))
      rintro e w8 ⟨rfl, hb8⟩
      have H8 := Lib.hid (H7.out.call hb8)
      clear hb8 c1 H7
      go_wp2_with (first
        | (with_reducible refine store_p (by with_reducible rfl) _ _ (by with_reducible rfl) w.heap.size (p' := stopX L pR (s1.pos : Int)) (by first | (simp [Act.eval]; done) | simp [Act.eval, Act.put]) (by first | (simp [Act.eval]; done) | simp [Act.eval, Act.put]) H8.out ?_))
      intro V6 hV6 o6
      have HPW := Lib.hid hV6
      clear hV6 o6 H8
      generalize stopX L pR (s1.pos : Int) = pX at *
      have HBX := Lib.hid hbx
      clear hbx
      -- .. of a group that is none
      -- wrong already, from where the sign behind is taken: HPW: the state pX, wrong, at w4
      have KON := Lib.hid (fun W => rfOn L pX 1 W)
      go_wp2_with (first
        | (with_reducible refine load_p (by with_reducible rfl) _ (by with_reducible rfl) w.heap.size (by first | (simp [Act.eval]; done) | simp [Act.eval, Act.put]) HPW.out ?_)
        | (go_at_call 56; (with_reducible refine (KON.out _).mono ?_)))
      rintro e wA ⟨rfl, hbA⟩
      have HA := Lib.hid (HPW.out.call hbA)
      clear hbA
      go_wp2_with (first
        | (with_reducible refine store_p (by with_reducible rfl) _ _ (by with_reducible rfl) w.heap.size (p' := { pX with i := wrap64 (pX.i + 1) }) (by first | (simp [Act.eval]; done) | simp [Act.eval, Act.put]) (by first | (simp [Act.eval]; done) | simp [Act.eval, Act.put]) HA.out ?_))
      intro VA hVA oA
      have HBY := Lib.hid (HBX.out.on (wrap64 (pX.i + 1)))
      generalize ({ pX with i := wrap64 (pX.i + 1) } : PX) = pY at *
      have HVA := Lib.hid hVA
      have c3 := hVA.deep
      have f3 := hVA.frozen 3
      have HD := Lib.hid (hVA.set (j := 3) (v := .int .i64 (wrap64 (pY.deep - 1))) (p' := { pY with deep := wrap64 (pY.deep - 1) }) rfl)
      have HBZ := Lib.hid (show BadX { pY with deep := wrap64 (pY.deep - 1) } a m from ⟨HBY.out.at', HBY.out.bad, HBY.out.ne⟩)
      clear hVA oA
      go_wp2_with (first
        | (with_reducible refine load_p (by with_reducible rfl) _ (by with_reducible rfl) w.heap.size (by first | (simp [Act.eval]; done) | simp [Act.eval, Act.put]) HD.out ?_)
        | (with_reducible refine store_r (by with_reducible rfl) _ _ (by with_reducible rfl) (w.heap.size + 1) (p' := { pY with deep := wrap64 (pY.deep - 1) }) (by first | (simp [Act.eval]; done) | simp [Act.eval, Act.put]) (by first | (simp [Act.eval]; done) | simp [Act.eval, Act.put]) HD.out ?_))
      intro W2 h2 b2 _
      go_wp2
      refine ret_p (k := 2) Try.results97 h2 (by first | (simp; done) | simp [Act.put]) rfl ?_
      rw [HRB.out]
      exact ⟨_, rfl, HBZ.out, b2⟩

set_option maxHeartbeats 4000000 in
set_option maxRecDepth 100000 in
theorem rfGroup_c (L : LX) (l : List Int) (s : PS) (p : PX) (w : World) (rec : PS → PR Rx) (hadv : ∀ s v s', rec s = .ok v s' → Adv l s s') (h40 : due l s.pos = 40)
    (KP : s.deep < 50 → ∀ (s' : PS) (p' : PX) (W : World), s'.deep = s.deep + 1 → Lv W L l s' p' → Calls Try.prog 31 #[pAgg L p'] W (RxP L l W (rec s')))
    (h : Lv w L l s p) (hd : ¬ s.deep = 50) (h63 : due l (s.pos + 1) = 63) (h58 : ¬ due l (s.pos + 2) = 58) (h60 : due l (s.pos + 2) = 60) :
    Calls Try.prog 97 #[pAgg L p] w (RxP L l w (groupR l rec s)) := by
  have HLv := Lib.hid h
  have HPT := Lib.hid h.pat
  have hl := h.fin.len
  have hp := h.fin.pos
  have hdp := h.fin.deep
  have hlt := due_lt h40 (by decide)
  have hd2 : s.deep < 50 := by omega
  have KPA := Lib.hid (KP hd2)
  have HG := Lib.hid (show groupR l rec s = (headR l { s with pos := s.pos + 1, deep := s.deep + 1 }).bind fun n s' => restR l rec (n.map fun _ => s.names.length + 1) (n.getD []) s' by unfold groupR; rw [if_neg hd])
  have HV1 := Lib.hid (h.opened hd2)
  have k1 := fun (p' : PX) (W : World) (h : Lv W L l { s with deep := s.deep + 1 } p') => show Calls Try.prog 55 #[pAgg L p', .int .i64 1] W (RetE (.int .i64 (due l (s.pos + 1))) fun w' => Below W.heap.size W w') from rfSignL L l { s with deep := s.deep + 1 } p' 1 W h (by omega)
  have k2 := fun (p' : PX) (W : World) (h : Lv W L l { s with deep := s.deep + 1 } p') => show Calls Try.prog 55 #[pAgg L p', .int .i64 2] W (RetE (.int .i64 (due l (s.pos + 2))) fun w' => Below W.heap.size W w') from rfSignL L l { s with deep := s.deep + 1 } p' 2 W h (by omega)
  have HDD := Lib.hid h.deep
  clear KP h
  obtain ⟨p1, hp1⟩ : ∃ q : PX, q = { p with deep := (s.deep : Int) + 1 } := ⟨_, rfl⟩
  rw [← hp1] at HV1
  have HP1 := Lib.hid hp1
  clear hp1 hd
  have hlt63 := due_lt h63 (by decide)
  have HG2 := Lib.hid (show groupR l rec s = (if due l (s.pos + 2) = 58 then restR l rec none [] { s with pos := s.pos + 3, deep := s.deep + 1 }
    else if due l (s.pos + 2) = 60 then (nameR l { s with pos := s.pos + 3, deep := s.deep + 1 }).bind fun n s' => restR l rec (some (s.names.length + 1)) n { s' with names := s'.names ++ [n] } else failR l (s.pos + 2)) by
    rw [HG.out]; unfold headR; simp only; rw [if_pos h63]
    by_cases a : due l (s.pos + 1 + 1) = 58
    · rw [if_pos a, if_pos a]; rfl
    rw [if_neg a, if_neg a]
    by_cases b : due l (s.pos + 1 + 1) = 60
    · rw [if_pos b, if_pos b]
      show ((nameR l { s with pos := s.pos + 3, deep := s.deep + 1 }).bind _).bind _ = _
      cases nameR l { s with pos := s.pos + 3, deep := s.deep + 1 } <;> rfl
    · rw [if_neg b, if_neg b]; unfold failR; split <;> rfl)
  rw [h63] at k1
  have K1 := Lib.hid k1
  clear k1 HG h63
  have hlt2 := due_lt h60 (by decide)
  have HG3 := Lib.hid (show groupR l rec s = (nameR l { s with pos := s.pos + 3, deep := s.deep + 1 }).bind fun n s' => restR l rec (some (s.names.length + 1)) n { s' with names := s'.names ++ [n] } by rw [HG2.out, if_neg h58, if_pos h60])
  rw [h60] at k2
  have K2 := Lib.hid k2
  clear k2 HG2 h58 h60
  go_enter Try.func97, Try.ntmps97
  go_wp2_with (with_reducible refine box_p (by with_reducible rfl) _ (by with_reducible rfl) (L := L) (p := p) (by simp [Act.eval]) ?_)
  intro V hV bV sV
  go_wp2_with (with_reducible refine room_p (by with_reducible rfl) (by with_reducible rfl) hV ?_)
  intro W hW bW sW
  clear hV bV sV bW sW
  have c3 := hW.deep
  rw [HDD.out] at c3
  have f3 := hW.frozen 3
  have H1 := Lib.hid (show PF w (W.setCell ⟨w.heap.size, 3, none⟩ (.int .i64 ((s.deep : Int) + 1))) w.heap.size (w.heap.size + 1) L p1 by rw [HP1.out]; exact hW.set (j := 3) (v := .int .i64 ((s.deep : Int) + 1)) rfl)
  clear hW
  go_wp2_with (first
    | (with_reducible refine load_p (by with_reducible rfl) _ (by with_reducible rfl) w.heap.size (by first | (simp [Act.eval]; done) | simp [Act.eval, Act.put]) H1.out ?_)
    | (go_at_call 55; (with_reducible refine (K1.out p1 _ (HV1.out.below H1.out.below)).mono ?_)))
  rintro e w2 ⟨rfl, hb2⟩
  have H2 := Lib.hid (show PF w w2 w.heap.size (w.heap.size + 1) L p1 by
    exact H1.out.call hb2)
  have HV2 := Lib.hid (HV1.out.below H2.out.below)
  clear hb2 H1
  go_wp2_with (first
    | (with_reducible refine load_p (by with_reducible rfl) _ (by with_reducible rfl) w.heap.size (by first | (simp [Act.eval]; done) | simp [Act.eval, Act.put]) H2.out ?_)
    | (go_at_call 55; (with_reducible refine (K2.out p1 _ HV2.out).mono ?_)))
  rintro e w4 ⟨rfl, hb4⟩
  have H4 := Lib.hid (H2.out.call hb4)
  have HV4 := Lib.hid (HV2.out.below hb4)
  clear hb4 H2 HV2
  go_wp2_with (first
    | (with_reducible refine load_p (by with_reducible rfl) _ (by with_reducible rfl) w.heap.size (by first | (simp [Act.eval]; done) | simp [Act.eval, Act.put]) H4.out ?_)
    | (go_at_call 55; (with_reducible refine (K2.out p1 _ HV4.out).mono ?_)))
  rintro e w9 ⟨rfl, hb9⟩
  have HV9 := Lib.hid (HV4.out.below hb9)
  have H9 := Lib.hid (H4.out.call hb9)
  clear hb9 H4 HV4
  generalize w9 = w4 at *
  have H4 := H9
  have HV4 := HV9
  clear H9 HV9
  obtain ⟨pB, hpB⟩ : ∃ q : PX, q = { p1 with i := wrap64 (p1.i + 3) } := ⟨_, rfl⟩
  have KON := Lib.hid (fun W => show Calls Try.prog 56 #[pAgg L p1, .int .i64 3] W (RetE (pAgg L pB) fun w' => Below W.heap.size W w') by rw [hpB]; exact rfOn L p1 3 W)
  have HLA := Lib.hid (show Lv w4 L l { s with pos := s.pos + 3, deep := s.deep + 1 } pB by rw [hpB]; exact HV4.out.on 3 hlt2)
  have HPB := Lib.hid (show pB.na = p.na ∧ pB.nn = p.nn ∧ pB.nc = p.nc by rw [hpB, HP1.out]; exact ⟨rfl, rfl, rfl⟩)
  clear hpB
  go_wp2_with (first
    | (with_reducible refine load_p (by with_reducible rfl) _ (by with_reducible rfl) w.heap.size (by first | (simp [Act.eval]; done) | simp [Act.eval, Act.put]) H4.out ?_)
    | (go_at_call 56; (with_reducible refine (KON.out _).mono ?_)))
  rintro e w5 ⟨rfl, hb5⟩
  have H5 := Lib.hid (H4.out.call hb5)
  have HLB := Lib.hid (HLA.out.below hb5)
  clear hb5 HLA H4
  have kn := fun W h => rfNamed_any L l { s with pos := s.pos + 3, deep := s.deep + 1 } pB W h
  cases hnr : nameR l { s with pos := s.pos + 3, deep := s.deep + 1 } with
  | bad a m =>
    rw [hnr] at kn
    have KN := Lib.hid (fun (W : World) (h : Lv W L l { s with pos := s.pos + 3, deep := s.deep + 1 } pB) => show Calls Try.prog 108 #[pAgg L pB] W (fun e w' => ∃ (p : PX) (t : List UInt8), e = .returned (.tuple #[pAgg L p, .string ⟨t.toArray⟩]) ∧ BadX p a m ∧ p.na = pB.na ∧ p.nn = pB.nn ∧ p.nc = pB.nc ∧ Below W.heap.size W w') from kn W h)
    have HRB := Lib.hid (show groupR l rec s = .bad a m by rw [HG3.out, hnr]; rfl)
    clear kn hnr HG3
    go_wp2_with (first
      | (go_at_call 108; (with_reducible refine (KN.out _ HLB.out).mono ?_)))
    rintro e w6 ⟨pN, nme, rfl, hbx, hna, hnn', hnc, hb6⟩
    have H6 := Lib.hid (H5.out.call hb6)
    have HBN := Lib.hid hbx
    have HNA := Lib.hid (show pN.na = p.na ∧ pN.nn = p.nn ∧ pN.nc = p.nc from ⟨hna.trans HPB.out.1, hnn'.trans HPB.out.2.1, hnc.trans HPB.out.2.2⟩)
    clear hb6 hbx hna hnn' hnc
    go_wp2_with (first
      | (with_reducible refine store_p (by with_reducible rfl) _ _ (by with_reducible rfl) w.heap.size (p' := pN) (by first | (simp [Act.eval]; done) | simp [Act.eval, Act.put]) (by first | (simp [Act.eval]; done) | simp [Act.eval, Act.put]) H6.out ?_))
    intro V hV oV
    have HPV := Lib.hid hV
    have HOWN := Lib.hid (show V.ownsRow 0 9 1 (.slice pN.na pN.nn pN.nc) pN.nn (strCells s.names) by
      rw [HNA.out.1, HNA.out.2.1, HNA.out.2.2]; exact rowns_below HLv.out.names hV.below)
    have hnn : pN.nn ≤ 1000 := by have h0 := HNA.out.2.1; have h1 := HLv.out.nn; have h2 := HLv.out.fin.names; omega
    clear hV oV HLB H6 H5
    go_upto_region 18 with fail
    -- the name nme is laid behind the names: at V: HPV: the state pN, HOWN: the names
    obtain ⟨j0, hj0, hjz, hj1, hj2⟩ := info_parts infoStr
    have hbe := (Below.refl V.heap.size V).alloc (Nat.le_refl _) (.cells #[] 9)
    obtain ⟨v3, Y3, hr3, ho3, hb3, _, _⟩ := copy_run (P := Try.prog) (ty := 26) Try.underlying26 hj0 hjz hj1 hj2 rfl (by decide) hbe HOWN.out (str_one _) (Go.heap_alloc_new V _) (Nat.le_refl _) (by unfold maxLen; omega) (by omega)
    obtain ⟨v6, Y6, hr6, ho6, hb6⟩ := push_run (P := Try.prog) (ty := 26) (ys := [.string ⟨nme.toArray⟩]) Try.underlying26 hj0 hjz hj1 hj2 rfl (by decide) (hb3.alloc hb3.size (.cells #[.string ⟨nme.toArray⟩] 9)) (rowns_below ho3 ((Below.refl _ Y3).alloc (Nat.le_refl _) _)) (Go.heap_alloc_new Y3 _) rfl (fun u hu => by obtain rfl := List.mem_singleton.1 hu; rfl) (by unfold maxLen; omega) (by omega)
    obtain ⟨A6, c6, rfl⟩ := rowns_slice ho6
    have c4 := (HPV.out.alloc (.cells #[] 9)).names
    have c4' := (HPV.out.call hb6).names
    have f4' := (HPV.out.call hb6).frozen 4
    have HR3 := Lib.hid hr3
    have HR6 := Lib.hid hr6
    have HO6 := Lib.hid ho6
    have HB6 := Lib.hid hb6
    clear hr3 hr6 ho6 hb6 ho3 hb3 hbe
    go_upto_region 20 with (first
      | (with_reducible refine wpList_app (by with_reducible rfl) _ _ (by with_reducible rfl) (by simp [Act.eval]) (by simp [Act.eval]) HR3.out ?_)
      | (with_reducible refine wpList_app (by with_reducible rfl) _ _ (by with_reducible rfl) (by first | (simp [Act.eval]; done) | simp [Act.eval, Act.put]) (by first | (simp [Act.eval]; done) | simp [Act.eval, Act.put]) HR6.out ?_))
    have hwf := HB6.out
    have HPW := Lib.hid (show PF w (Y6.setCell ⟨w.heap.size, 4, none⟩ (.slice A6 (pN.nn + 1) c6)) w.heap.size (w.heap.size + 1) L { pN with na := A6, nn := pN.nn + 1, nc := c6 } from (HPV.out.call hwf).set (j := 4) (v := .slice A6 (pN.nn + 1) c6) rfl)
    have HBX := Lib.hid (show BadX { pN with na := A6, nn := pN.nn + 1, nc := c6 } a m from ⟨HBN.out.at', HBN.out.bad, HBN.out.ne⟩)
    have HNU := Lib.hid (show ((pN.nn : Int) + 1) = ((pN.nn + 1 : Nat) : Int) by omega)
    rw [HNU.out]
    clear HNU HPV HO6 HR3 HR6 HB6 hwf HOWN c4 c4' f4' hnn HNA HBN
    generalize Y6.setCell ⟨w.heap.size, 4, none⟩ (.slice A6 (pN.nn + 1) c6) = V2 at *
    generalize ({ pN with na := A6, nn := pN.nn + 1, nc := c6 } : PX) = pX at *
    generalize pN.nn + 1 = nu at *
    have c16 := HPW.out.bad
    have z16 : (pX.bad == 0) = false := by simp [HBX.out.ne0]
    -- .. of a group; nu: its number, nme: its name
    -- wrong already, from where the sign behind is taken: HPW: the state pX, wrong, at w4
    have KON := Lib.hid (fun W => rfOn L pX 1 W)
    go_wp2_with (first
      | (with_reducible refine load_p (by with_reducible rfl) _ (by with_reducible rfl) w.heap.size (by first | (simp [Act.eval]; done) | simp [Act.eval, Act.put]) HPW.out ?_)
      | (go_at_call 56; (with_reducible refine (KON.out _).mono ?_)))
    rintro e wA ⟨rfl, hbA⟩
    have HA := Lib.hid (HPW.out.call hbA)
    clear hbA
    go_wp2_with (first
      | (with_reducible refine store_p (by with_reducible rfl) _ _ (by with_reducible rfl) w.heap.size (p' := { pX with i := wrap64 (pX.i + 1) }) (by first | (simp [Act.eval]; done) | simp [Act.eval, Act.put]) (by first | (simp [Act.eval]; done) | simp [Act.eval, Act.put]) HA.out ?_))
    intro VA hVA oA
    have HBY := Lib.hid (HBX.out.on (wrap64 (pX.i + 1)))
    generalize ({ pX with i := wrap64 (pX.i + 1) } : PX) = pY at *
    have HVA := Lib.hid hVA
    have c3 := hVA.deep
    have f3 := hVA.frozen 3
    have HD := Lib.hid (hVA.set (j := 3) (v := .int .i64 (wrap64 (pY.deep - 1))) (p' := { pY with deep := wrap64 (pY.deep - 1) }) rfl)
    have HBZ := Lib.hid (show BadX { pY with deep := wrap64 (pY.deep - 1) } a m from ⟨HBY.out.at', HBY.out.bad, HBY.out.ne⟩)
    clear hVA oA
    obtain ⟨Y, hY⟩ : ∃ y, y = rxGroup pY.x nu nme := ⟨_, rfl⟩
    have KTO := Lib.hid (fun W => show Calls Try.prog 57 #[pAgg L { pY with deep := wrap64 (pY.deep - 1) }, .agg #[.int .i64 9, .int .i64 0, .int .i64 0, .slice (some ⟨VA.heap.size, 0, none⟩) 1 1, .int .i64 0, .int .i64 0, .bool false, .bool false, .int .i64 (nu : Int), .string ⟨nme.toArray⟩]] W (RetE (pAgg L (toldX { pY with deep := wrap64 (pY.deep - 1) } Y (some ⟨VA.heap.size, 0, none⟩) 1 1)) fun w' => Below W.heap.size W w') by rw [hY]; exact rfTold L { pY with deep := wrap64 (pY.deep - 1) } (rxGroup pY.x nu nme) (some ⟨VA.heap.size, 0, none⟩) 1 1 W)
    clear hY
    go_wp2_with (first
      | (with_reducible refine load_p (by with_reducible rfl) _ (by with_reducible rfl) w.heap.size (by first | (simp [Act.eval]; done) | simp [Act.eval, Act.put]) HD.out ?_)
      | ((with_reducible refine load_px (by with_reducible rfl) _ (by with_reducible rfl) w.heap.size (by first | (simp [Act.eval]; done) | simp [Act.eval, Act.put]) HD.out ?_); simp only [rxAgg])
      | (go_at_call 57; (with_reducible refine (KTO.out _).mono ?_)))
    rintro e wT ⟨rfl, hbT⟩
    have hsz : VA.heap.size + 1 = (VA.setCell ⟨w.heap.size, 3, none⟩ (.int .i64 (wrap64 (pY.deep - 1)))).heap.size + 1 := by simp [World.setCell]
    have HT9 := Lib.hid (HD.out.callA hbT (by first | exact hsz | exact World.size_alloc ..))
    clear hbT hsz
    go_wp2_with (first
      | (with_reducible refine store_r (by with_reducible rfl) _ _ (by with_reducible rfl) (w.heap.size + 1) (p' := toldX { pY with deep := wrap64 (pY.deep - 1) } Y (some ⟨VA.heap.size, 0, none⟩) 1 1) (by first | (simp [Act.eval]; done) | simp [Act.eval, Act.put]) (by first | (simp [Act.eval]; done) | simp [Act.eval, Act.put]) HT9.out ?_))
    intro W2 h2 b2 _
    go_wp2
    refine ret_p (k := 2) Try.results97 h2 (by first | (simp; done) | simp [Act.put]) rfl ?_
    rw [HRB.out]
    exact RxP.bad_of HBZ.out _ _ _ _ b2
  | ok n s2 =>
    rw [hnr] at kn
    have hs2 : s2.names = s.names ∧ s2.deep = s.deep + 1 ∧ s.names.length + 1 ≤ s2.pos := by
      unfold nameR at hnr
      simp only at hnr
      split at hnr
      · exact absurd hnr (fun h => failR_ok h)
      · split at hnr
        · exact absurd hnr (fun h => failR_ok h)
        · injection hnr with _ h2
          subst h2
          have := HLv.out.fin.names
          refine ⟨rfl, rfl, ?_⟩
          show s.names.length + 1 ≤ s.pos + 3 + _ + 1
          omega
    have HRB0 := Lib.hid (show groupR l rec s = restR l rec (some (s.names.length + 1)) n { s2 with names := s2.names ++ [n] } by rw [HG3.out, hnr]; rfl)
    have KN := Lib.hid (fun (W : World) (h : Lv W L l { s with pos := s.pos + 3, deep := s.deep + 1 } pB) => show Calls Try.prog 108 #[pAgg L pB] W (fun e w' => ∃ p, e = .returned (.tuple #[pAgg L p, .string ⟨n.toArray⟩]) ∧ Lv w' L l s2 p ∧ Below W.heap.size W w') from kn W h)
    have HSN := Lib.hid hs2
    clear kn hnr HG3 hs2
    go_wp2_with (first
      | (go_at_call 108; (with_reducible refine (KN.out _ HLB.out).mono ?_)))
    rintro e w6 ⟨pN, rfl, hlN, hb6⟩
    have H6 := Lib.hid (H5.out.call hb6)
    have HLC := Lib.hid hlN
    clear hb6 hlN
    go_wp2_with (first
      | (with_reducible refine store_p (by with_reducible rfl) _ _ (by with_reducible rfl) w.heap.size (p' := pN) (by first | (simp [Act.eval]; done) | simp [Act.eval, Act.put]) (by first | (simp [Act.eval]; done) | simp [Act.eval, Act.put]) H6.out ?_))
    intro V hV oV
    have HPV := Lib.hid hV
    generalize s2 = sN at *
    generalize n = nme at *
    have HLN := Lib.hid (HLC.out.off oV (HPT.out.below hV.below))
    have HOWN := Lib.hid (show V.ownsRow 0 9 1 (.slice pN.na pN.nn pN.nc) pN.nn (strCells s.names) by rw [← HSN.out.1]; exact HLN.out.names)
    have hnn : pN.nn ≤ 1000 := by have h1 := HLN.out.nn; have h2 := HLN.out.fin.names; have h3 := HLN.out.fin.pos; omega
    clear hV oV HLB HLC H6 H5
    go_upto_region 18 with fail
    -- the name nme is laid behind the names: at V: HPV: the state pN, HOWN: the names
    obtain ⟨j0, hj0, hjz, hj1, hj2⟩ := info_parts infoStr
    have hbe := (Below.refl V.heap.size V).alloc (Nat.le_refl _) (.cells #[] 9)
    obtain ⟨v3, Y3, hr3, ho3, hb3, _, _⟩ := copy_run (P := Try.prog) (ty := 26) Try.underlying26 hj0 hjz hj1 hj2 rfl (by decide) hbe HOWN.out (str_one _) (Go.heap_alloc_new V _) (Nat.le_refl _) (by unfold maxLen; omega) (by omega)
    obtain ⟨v6, Y6, hr6, ho6, hb6⟩ := push_run (P := Try.prog) (ty := 26) (ys := [.string ⟨nme.toArray⟩]) Try.underlying26 hj0 hjz hj1 hj2 rfl (by decide) (hb3.alloc hb3.size (.cells #[.string ⟨nme.toArray⟩] 9)) (rowns_below ho3 ((Below.refl _ Y3).alloc (Nat.le_refl _) _)) (Go.heap_alloc_new Y3 _) rfl (fun u hu => by obtain rfl := List.mem_singleton.1 hu; rfl) (by unfold maxLen; omega) (by omega)
    obtain ⟨A6, c6, rfl⟩ := rowns_slice ho6
    have c4 := (HPV.out.alloc (.cells #[] 9)).names
    have c4' := (HPV.out.call hb6).names
    have f4' := (HPV.out.call hb6).frozen 4
    have HR3 := Lib.hid hr3
    have HR6 := Lib.hid hr6
    have HO6 := Lib.hid ho6
    have HB6 := Lib.hid hb6
    clear hr3 hr6 ho6 hb6 ho3 hb3 hbe
    go_upto_region 20 with (first
      | (with_reducible refine wpList_app (by with_reducible rfl) _ _ (by with_reducible rfl) (by simp [Act.eval]) (by simp [Act.eval]) HR3.out ?_)
      | (with_reducible refine wpList_app (by with_reducible rfl) _ _ (by with_reducible rfl) (by first | (simp [Act.eval]; done) | simp [Act.eval, Act.put]) (by first | (simp [Act.eval]; done) | simp [Act.eval, Act.put]) HR6.out ?_))
    -- the names are laid: the state behind them, all well
    have hwf := HB6.out
    have HPW := Lib.hid (show PF w (Y6.setCell ⟨w.heap.size, 4, none⟩ (.slice A6 (pN.nn + 1) c6)) w.heap.size (w.heap.size + 1) L { pN with na := A6, nn := pN.nn + 1, nc := c6 } from (HPV.out.call hwf).set (j := 4) (v := .slice A6 (pN.nn + 1) c6) rfl)
    have HLM := Lib.hid (HLN.out.named (HPT.out.below HPW.out.below) nme (by rw [HSN.out.1]; exact HSN.out.2.2) (by rw [HSN.out.1]; exact rowns_far HO6.out (HPV.out.call hwf).heap (by decide) (.slice A6 (pN.nn + 1) c6)))
    have HSD := Lib.hid (show ({ sN with names := sN.names ++ [nme] } : PS).deep = s.deep + 1 from HSN.out.2.1)
    have HNN := Lib.hid (show pN.nn = s.names.length by rw [HLN.out.nn, HSN.out.1])
    have HNU := Lib.hid (show ((pN.nn : Int) + 1) = ((pN.nn + 1 : Nat) : Int) by omega)
    have HRB1 := Lib.hid (show groupR l rec s = restR l rec (some (pN.nn + 1)) nme { sN with names := sN.names ++ [nme] } by have h9 := HRB0.out; rw [← HNN.out] at h9; exact h9)
    rw [HNU.out]
    clear HRB0 HNU HNN HLN HPV HO6 HR3 HR6 HB6 hwf HOWN c4 c4' f4' hnn
    generalize Y6.setCell ⟨w.heap.size, 4, none⟩ (.slice A6 (pN.nn + 1) c6) = V2 at *
    generalize ({ pN with na := A6, nn := pN.nn + 1, nc := c6 } : PX) = pM at *
    generalize ({ sN with names := sN.names ++ [nme] } : PS) = sM at *
    generalize pN.nn + 1 = nu at *
    have HRB0 := HRB1
    clear HRB1
    -- behind the head, all well: at V2: HPW: the state pM, HLM: sM; HRB0: what is left
    have hsd := HLM.out.fin.deep
    have c16 := HPW.out.bad
    rw [HLM.out.bad] at c16
    have ka := fun (W : World) (h : Lv W L l sM pM) => KPA.out sM pM W HSD.out h
    cases hrec : rec sM with
    | bad a m =>
      rw [hrec] at ka
      have KA := Lib.hid (fun (W : World) (h : Lv W L l sM pM) => show Calls Try.prog 31 #[pAgg L pM] W (fun e w' => ∃ p, e = .returned (pAgg L p) ∧ BadX p a m ∧ Below W.heap.size W w') from ka W h)
      have HRB := Lib.hid (show groupR l rec s = .bad a m by rw [HRB0.out, rest_eq, hrec]; rfl)
      clear ka hrec HRB0
      go_wp2_with (first
        | (with_reducible refine load_p (by with_reducible rfl) _ (by with_reducible rfl) w.heap.size (by first | (simp [Act.eval]; done) | simp [Act.eval, Act.put]) HPW.out ?_)
        | (go_at_call 31; (with_reducible refine (KA.out _ HLM.out).mono ?_)))
      rintro e w5 ⟨pX, rfl, hbx, hb5⟩
      have H5 := Lib.hid (HPW.out.call hb5)
      have HBX := Lib.hid hbx
      have z16 : (pX.bad == 0) = false := by simp [hbx.ne0]
      clear hb5 hbx HPW HLM c16
      go_wp2_with (first
        | (with_reducible refine store_p (by with_reducible rfl) _ _ (by with_reducible rfl) w.heap.size (p' := pX) (by first | (simp [Act.eval]; done) | simp [Act.eval, Act.put]) (by first | (simp [Act.eval]; done) | simp [Act.eval, Act.put]) H5.out ?_))
      intro V6 hV6 o6
      have HPW := Lib.hid hV6
      have c16 := hV6.bad
      clear hV6 o6 H5
      -- .. of a group; nu: its number, nme: its name
      -- wrong already, from where the sign behind is taken: HPW: the state pX, wrong, at w4
      have KON := Lib.hid (fun W => rfOn L pX 1 W)
      go_wp2_with (first
        | (with_reducible refine load_p (by with_reducible rfl) _ (by with_reducible rfl) w.heap.size (by first | (simp [Act.eval]; done) | simp [Act.eval, Act.put]) HPW.out ?_)
        | (go_at_call 56; (with_reducible refine (KON.out _).mono ?_)))
      rintro e wA ⟨rfl, hbA⟩
      have HA := Lib.hid (HPW.out.call hbA)
      clear hbA
      go_wp2_with (first
        | (with_reducible refine store_p (by with_reducible rfl) _ _ (by with_reducible rfl) w.heap.size (p' := { pX with i := wrap64 (pX.i + 1) }) (by first | (simp [Act.eval]; done) | simp [Act.eval, Act.put]) (by first | (simp [Act.eval]; done) | simp [Act.eval, Act.put]) HA.out ?_))
      intro VA hVA oA
      have HBY := Lib.hid (HBX.out.on (wrap64 (pX.i + 1)))
      generalize ({ pX with i := wrap64 (pX.i + 1) } : PX) = pY at *
      have HVA := Lib.hid hVA
      have c3 := hVA.deep
      have f3 := hVA.frozen 3
      have HD := Lib.hid (hVA.set (j := 3) (v := .int .i64 (wrap64 (pY.deep - 1))) (p' := { pY with deep := wrap64 (pY.deep - 1) }) rfl)
      have HBZ := Lib.hid (show BadX { pY with deep := wrap64 (pY.deep - 1) } a m from ⟨HBY.out.at', HBY.out.bad, HBY.out.ne⟩)
      clear hVA oA
      obtain ⟨Y, hY⟩ : ∃ y, y = rxGroup pY.x nu nme := ⟨_, rfl⟩
      have KTO := Lib.hid (fun W => show Calls Try.prog 57 #[pAgg L { pY with deep := wrap64 (pY.deep - 1) }, .agg #[.int .i64 9, .int .i64 0, .int .i64 0, .slice (some ⟨VA.heap.size, 0, none⟩) 1 1, .int .i64 0, .int .i64 0, .bool false, .bool false, .int .i64 (nu : Int), .string ⟨nme.toArray⟩]] W (RetE (pAgg L (toldX { pY with deep := wrap64 (pY.deep - 1) } Y (some ⟨VA.heap.size, 0, none⟩) 1 1)) fun w' => Below W.heap.size W w') by rw [hY]; exact rfTold L { pY with deep := wrap64 (pY.deep - 1) } (rxGroup pY.x nu nme) (some ⟨VA.heap.size, 0, none⟩) 1 1 W)
      clear hY
      go_wp2_with (first
        | (with_reducible refine load_p (by with_reducible rfl) _ (by with_reducible rfl) w.heap.size (by first | (simp [Act.eval]; done) | simp [Act.eval, Act.put]) HD.out ?_)
        | ((with_reducible refine load_px (by with_reducible rfl) _ (by with_reducible rfl) w.heap.size (by first | (simp [Act.eval]; done) | simp [Act.eval, Act.put]) HD.out ?_); simp only [rxAgg])
        | (go_at_call 57; (with_reducible refine (KTO.out _).mono ?_)))
      rintro e wT ⟨rfl, hbT⟩
      have hsz : VA.heap.size + 1 = (VA.setCell ⟨w.heap.size, 3, none⟩ (.int .i64 (wrap64 (pY.deep - 1)))).heap.size + 1 := by simp [World.setCell]
      have HT9 := Lib.hid (HD.out.callA hbT (by first | exact hsz | exact World.size_alloc ..))
      clear hbT hsz
      go_wp2_with (first
        | (with_reducible refine store_r (by with_reducible rfl) _ _ (by with_reducible rfl) (w.heap.size + 1) (p' := toldX { pY with deep := wrap64 (pY.deep - 1) } Y (some ⟨VA.heap.size, 0, none⟩) 1 1) (by first | (simp [Act.eval]; done) | simp [Act.eval, Act.put]) (by first | (simp [Act.eval]; done) | simp [Act.eval, Act.put]) HT9.out ?_))
      intro W2 h2 b2 _
      go_wp2
      refine ret_p (k := 2) Try.results97 h2 (by first | (simp; done) | simp [Act.put]) rfl ?_
      rw [HRB.out]
      exact RxP.bad_of HBZ.out _ _ _ _ b2
    | ok x s1 =>
      rw [hrec] at ka
      have KA := Lib.hid (fun (W : World) (h : Lv W L l sM pM) => show Calls Try.prog 31 #[pAgg L pM] W (fun e w' => ∃ p, e = .returned (pAgg L p) ∧ Lv w' L l s1 p ∧ p.x = x ∧ TX W.heap.size w' p ∧ Below W.heap.size W w') from ka W h)
      have ha := hadv _ _ _ hrec
      have hsd1 : s1.deep = s.deep + 1 := by rw [ha.deep]; exact HSD.out
      have hres := show groupR l rec s = if due l s1.pos = 41 then .ok (rxGroup x nu nme) { s1 with pos := s1.pos + 1, deep := s1.deep - 1 } else failR l s1.pos by rw [HRB0.out, rest_eq, hrec]; rfl
      have HRES := Lib.hid hres
      clear ka hrec HRB0 ha hres
      go_wp2_with (first
        | (with_reducible refine load_p (by with_reducible rfl) _ (by with_reducible rfl) w.heap.size (by first | (simp [Act.eval]; done) | simp [Act.eval, Act.put]) HPW.out ?_)
        | (go_at_call 31; (with_reducible refine (KA.out _ HLM.out).mono ?_)))
      rintro e w5 ⟨pR, rfl, hl5, hx5, ht5, hb5⟩
      have hsw := HPW.out.size
      have H5 := Lib.hid (HPW.out.call hb5)
      have HL5 := Lib.hid hl5
      have HTX5 := Lib.hid (show pR.x = x ∧ pR.xn = x.kids.length ∧ KX (fun q => w.heap.size ≤ q) w5 x (.slice pR.xa pR.xn pR.xc) by
        rw [← hx5]; exact ⟨rfl, ht5.1, ht5.2.kept fun _ _ _ hq hh => ⟨hh, by omega⟩⟩)
      clear hb5 hl5 hx5 ht5 HPW HLM c16
      go_wp2_with (first
        | (with_reducible refine store_p (by with_reducible rfl) _ _ (by with_reducible rfl) w.heap.size (p' := pR) (by first | (simp [Act.eval]; done) | simp [Act.eval, Act.put]) (by first | (simp [Act.eval]; done) | simp [Act.eval, Act.put]) H5.out ?_))
      intro V6 hV6 o6
      have HPW := Lib.hid hV6
      have HLR := Lib.hid (HL5.out.off o6 (HPT.out.below hV6.below))
      have HTX := Lib.hid (And.intro HTX5.out.1 (And.intro HTX5.out.2.1 (KX.off HTX5.out.2.2 o6)))
      have c16 := hV6.bad
      rw [HLR.out.bad] at c16
      have kd := show Calls Try.prog 55 #[pAgg L pR, .int .i64 0] V6 (RetE (.int .i64 (due l s1.pos)) fun w' => Below V6.heap.size V6 w') from rfSignL L l s1 pR 0 V6 HLR.out (by omega)
      clear hV6 o6 H5 HL5 HTX5
      by_cases h41 : due l s1.pos = 41
      · have HOK := Lib.hid (show groupR l rec s = .ok (rxGroup x nu nme) { s1 with pos := s1.pos + 1, deep := s1.deep - 1 } by rw [HRES.out, if_pos h41])
        have hlt1 := due_lt h41 (by decide)
        rw [h41] at kd
        have KD := Lib.hid kd
        have KON := Lib.hid (fun W => rfOn L pR 1 W)
        clear kd h41 HRES
        go_wp2_with (first
          | (with_reducible refine load_pG (by with_unfolding_all rfl) _ (by with_reducible rfl) w.heap.size (by first | (simp [Act.eval]; done) | simp [Act.eval, Act.put]) HPW.out ?_)
          | (go_at_call 55; (with_reducible refine (KD.out).mono ?_)))
        rintro e w7 ⟨rfl, hb7⟩
        have H7 := Lib.hid (HPW.out.call hb7)
        have HL7 := Lib.hid (HLR.out.below hb7)
        have HTX7 := Lib.hid (And.intro HTX.out.1 (And.intro HTX.out.2.1 (KX.off HTX.out.2.2 (OffP.call hb7))))
        clear hb7 HPW HLR HTX c16
        go_wp2_with (first
          | (with_reducible refine load_p (by with_reducible rfl) _ (by with_reducible rfl) w.heap.size (by first | (simp [Act.eval]; done) | simp [Act.eval, Act.put]) H7.out ?_)
          | (go_at_call 56; (with_reducible refine (KON.out _).mono ?_)))
        rintro e w8 ⟨rfl, hb8⟩
        have H8 := Lib.hid (H7.out.call hb8)
        have HL8 := Lib.hid ((HL7.out.below hb8).on 1 hlt1)
        have HTX8 := Lib.hid (And.intro HTX7.out.1 (And.intro HTX7.out.2.1 (KX.off HTX7.out.2.2 (OffP.call hb8))))
        clear hb8 H7 HL7 HTX7
        go_wp2_with (first
          | (with_reducible refine store_p (by with_reducible rfl) _ _ (by with_reducible rfl) w.heap.size (p' := { pR with i := wrap64 (pR.i + 1) }) (by first | (simp [Act.eval]; done) | simp [Act.eval, Act.put]) (by first | (simp [Act.eval]; done) | simp [Act.eval, Act.put]) H8.out ?_))
        intro V9 hV9 o9
        have HL9 := Lib.hid (HL8.out.off o9 (HPT.out.below hV9.below))
        have htx9 : ({ pR with i := wrap64 (pR.i + 1) } : PX).x = x ∧ ({ pR with i := wrap64 (pR.i + 1) } : PX).xn = x.kids.length ∧ KX (fun q => w.heap.size ≤ q) V9 x (.slice ({ pR with i := wrap64 (pR.i + 1) } : PX).xa ({ pR with i := wrap64 (pR.i + 1) } : PX).xn ({ pR with i := wrap64 (pR.i + 1) } : PX).xc) := ⟨HTX8.out.1, HTX8.out.2.1, KX.off HTX8.out.2.2 o9⟩
        generalize ({ pR with i := wrap64 (pR.i + 1) } : PX) = pY at *
        have HTX9 := Lib.hid htx9
        have HVA := Lib.hid hV9
        have c3 := hV9.deep
        have f3 := hV9.frozen 3
        have HD := Lib.hid (hV9.set (j := 3) (v := .int .i64 (wrap64 (pY.deep - 1))) (p' := { pY with deep := wrap64 (pY.deep - 1) }) rfl)
        have OD := Lib.hid (hV9.setOff 3 (.int .i64 (wrap64 (pY.deep - 1))))
        have HLS := Lib.hid (HL9.out.shut (by show 1 ≤ s1.deep; omega))
        clear hV9 o9 htx9 H8 HL8 HTX8 HL9
        obtain ⟨e1, e2, e3⟩ := HTX9.out
        subst e1
        have E2 := Lib.hid e2
        clear e2 HTX9
        obtain ⟨Y, hY⟩ : ∃ y, y = rxGroup pY.x nu nme := ⟨_, rfl⟩
        have HBA := HVA.out.size
        have KTO := Lib.hid (fun W => show Calls Try.prog 57 #[pAgg L { pY with deep := wrap64 (pY.deep - 1) }, .agg #[.int .i64 9, .int .i64 0, .int .i64 0, .slice (some ⟨V9.heap.size, 0, none⟩) 1 1, .int .i64 0, .int .i64 0, .bool false, .bool false, .int .i64 (nu : Int), .string ⟨nme.toArray⟩]] W (RetE (pAgg L (toldX { pY with deep := wrap64 (pY.deep - 1) } Y (some ⟨V9.heap.size, 0, none⟩) 1 1)) fun w' => Below W.heap.size W w') by rw [hY]; exact rfTold L { pY with deep := wrap64 (pY.deep - 1) } (rxGroup pY.x nu nme) (some ⟨V9.heap.size, 0, none⟩) 1 1 W)
        have HOK2 := Lib.hid (show groupR l rec s = .ok Y { s1 with pos := s1.pos + 1, deep := s1.deep - 1 } by rw [hY]; exact HOK.out)
        have HYK := Lib.hid (show Y.kids = [pY.x] by rw [hY]; rfl)
        clear hY HOK
        go_wp2_with (first
          | (with_reducible refine load_p (by with_reducible rfl) _ (by with_reducible rfl) w.heap.size (by first | (simp [Act.eval]; done) | simp [Act.eval, Act.put]) HD.out ?_)
          | ((with_reducible refine load_px (by with_reducible rfl) _ (by with_reducible rfl) w.heap.size (by first | (simp [Act.eval]; done) | simp [Act.eval, Act.put]) HD.out ?_); simp only [rxAgg])
          | (go_at_call 57; (with_reducible refine (KTO.out _).mono ?_)))
        rintro e wT ⟨rfl, hbT⟩
        have hsz : V9.heap.size + 1 = (V9.setCell ⟨w.heap.size, 3, none⟩ (.int .i64 (wrap64 (pY.deep - 1)))).heap.size + 1 := by simp [World.setCell]
        have HT9 := Lib.hid (HD.out.callA hbT (by first | exact hsz | exact World.size_alloc ..))
        have OT := Lib.hid (offA hbT (by first | exact hsz | exact World.size_alloc ..))
        have HKX := Lib.hid (kx_one (m := V9.heap.size) (by first | exact hsz | exact World.size_alloc ..) (by simp [World.setCell]) HD.out.size (KX.off e3 OD.out) hbT HYK.out)
        clear hbT hsz
        go_wp2_with (first
          | (with_reducible refine store_r (by with_reducible rfl) _ _ (by with_reducible rfl) (w.heap.size + 1) (p' := toldX { pY with deep := wrap64 (pY.deep - 1) } Y (some ⟨V9.heap.size, 0, none⟩) 1 1) (by first | (simp [Act.eval]; done) | simp [Act.eval, Act.put]) (by first | (simp [Act.eval]; done) | simp [Act.eval, Act.put]) HT9.out ?_))
        intro W2 h2 b2 o2
        go_wp2
        refine ret_p (k := 2) Try.results97 h2 (by first | (simp; done) | simp [Act.put]) rfl ?_
        rw [HOK2.out]
        have hok := RxP.ok_of (w := w) (x := Y) (A := some ⟨V9.heap.size, 0, none⟩) (c := 1) (HLS.out.off (OD.out.trans (OT.out.trans o2)) (HPT.out.below b2)) (by rw [HYK.out]; exact KX.off HKX.out o2) b2
        rw [HYK.out] at hok
        exact hok
      · obtain ⟨a, m, hf, hbx⟩ := stopX_fail (α := Rx) (L := L) (l := l) (p := pR) (i := s1.pos) HPT.out.1.symm
        have HRB := Lib.hid (show groupR l rec s = .bad a m by rw [HRES.out, if_neg h41, hf])
        have z41 : (due l s1.pos != 41) = true := by simp [h41]
        have HI := Lib.hid HLR.out.i
        have KST := Lib.hid (fun W => rfStop L pR (s1.pos : Int) W)
        clear HRES hf h41
        generalize due l s1.pos = d at *
        have KD := Lib.hid kd
        clear kd
        go_wp2_with (first
          | (with_reducible refine load_pG (by with_unfolding_all rfl) _ (by with_reducible rfl) w.heap.size (by first | (simp [Act.eval]; done) | simp [Act.eval, Act.put]) HPW.out ?_)
          | (go_at_call 55; (with_reducible refine (KD.out).mono ?_)))
        rintro e w7 ⟨rfl, hb7⟩
        have H7 := Lib.hid (HPW.out.call hb7)
        have c1 := H7.out.i
        rw [HI.out] at c1
        clear hb7 HPW HLR HTX c16
        go_wp2_with (first
          | (with_reducible refine load_p (by with_reducible rfl) _ (by with_reducible rfl) w.heap.size (by first | (simp [Act.eval]; done) | simp [Act.eval, Act.put]) H7.out ?_)
          | (go_at_call 32; (with_reducible refine (KST.out _).mono ?_)))
        rintro e w8 ⟨rfl, hb8⟩
        have H8 := Lib.hid (H7.out.call hb8)
        clear hb8 c1 H7
        go_wp2_with (first
          | (with_reducible refine store_p (by with_reducible rfl) _ _ (by with_reducible rfl) w.heap.size (p' := stopX L pR (s1.pos : Int)) (by first | (simp [Act.eval]; done) | simp [Act.eval, Act.put]) (by first | (simp [Act.eval]; done) | simp [Act.eval, Act.put]) H8.out ?_))
        intro V6 hV6 o6
        have HPW := Lib.hid hV6
        clear hV6 o6 H8
        generalize stopX L pR (s1.pos : Int) = pX at *
        have HBX := Lib.hid hbx
        clear hbx
        -- .. of a group; nu: its number, nme: its name
        -- wrong already, from where the sign behind is taken: HPW: the state pX, wrong, at w4
        have KON := Lib.hid (fun W => rfOn L pX 1 W)
        go_wp2_with (first
          | (with_reducible refine load_p (by with_reducible rfl) _ (by with_reducible rfl) w.heap.size (by first | (simp [Act.eval]; done) | simp [Act.eval, Act.put]) HPW.out ?_)
          | (go_at_call 56; (with_reducible refine (KON.out _).mono ?_)))
        rintro e wA ⟨rfl, hbA⟩
        have HA := Lib.hid (HPW.out.call hbA)
        clear hbA
        go_wp2_with (first
          | (with_reducible refine store_p (by with_reducible rfl) _ _ (by with_reducible rfl) w.heap.size (p' := { pX with i := wrap64 (pX.i + 1) }) (by first | (simp [Act.eval]; done) | simp [Act.eval, Act.put]) (by first | (simp [Act.eval]; done) | simp [Act.eval, Act.put]) HA.out ?_))
        intro VA hVA oA
        have HBY := Lib.hid (HBX.out.on (wrap64 (pX.i + 1)))
        generalize ({ pX with i := wrap64 (pX.i + 1) } : PX) = pY at *
        have HVA := Lib.hid hVA
        have c3 := hVA.deep
        have f3 := hVA.frozen 3
        have HD := Lib.hid (hVA.set (j := 3) (v := .int .i64 (wrap64 (pY.deep - 1))) (p' := { pY with deep := wrap64 (pY.deep - 1) }) rfl)
        have HBZ := Lib.hid (show BadX { pY with deep := wrap64 (pY.deep - 1) } a m from ⟨HBY.out.at', HBY.out.bad, HBY.out.ne⟩)
        clear hVA oA
        obtain ⟨Y, hY⟩ : ∃ y, y = rxGroup pY.x nu nme := ⟨_, rfl⟩
        have KTO := Lib.hid (fun W => show Calls Try.prog 57 #[pAgg L { pY with deep := wrap64 (pY.deep - 1) }, .agg #[.int .i64 9, .int .i64 0, .int .i64 0, .slice (some ⟨VA.heap.size, 0, none⟩) 1 1, .int .i64 0, .int .i64 0, .bool false, .bool false, .int .i64 (nu : Int), .string ⟨nme.toArray⟩]] W (RetE (pAgg L (toldX { pY with deep := wrap64 (pY.deep - 1) } Y (some ⟨VA.heap.size, 0, none⟩) 1 1)) fun w' => Below W.heap.size W w') by rw [hY]; exact rfTold L { pY with deep := wrap64 (pY.deep - 1) } (rxGroup pY.x nu nme) (some ⟨VA.heap.size, 0, none⟩) 1 1 W)
        clear hY
        go_wp2_with (first
          | (with_reducible refine load_p (by with_reducible rfl) _ (by with_reducible rfl) w.heap.size (by first | (simp [Act.eval]; done) | simp [Act.eval, Act.put]) HD.out ?_)
          | ((with_reducible refine load_px (by with_reducible rfl) _ (by with_reducible rfl) w.heap.size (by first | (simp [Act.eval]; done) | simp [Act.eval, Act.put]) HD.out ?_); simp only [rxAgg])
          | (go_at_call 57; (with_reducible refine (KTO.out _).mono ?_)))
        rintro e wT ⟨rfl, hbT⟩
        have hsz : VA.heap.size + 1 = (VA.setCell ⟨w.heap.size, 3, none⟩ (.int .i64 (wrap64 (pY.deep - 1)))).heap.size + 1 := by simp [World.setCell]
        have HT9 := Lib.hid (HD.out.callA hbT (by first | exact hsz | exact World.size_alloc ..))
        clear hbT hsz
        go_wp2_with (first
          | (with_reducible refine store_r (by with_reducible rfl) _ _ (by with_reducible rfl) (w.heap.size + 1) (p' := toldX { pY with deep := wrap64 (pY.deep - 1) } Y (some ⟨VA.heap.size, 0, none⟩) 1 1) (by first | (simp [Act.eval]; done) | simp [Act.eval, Act.put]) (by first | (simp [Act.eval]; done) | simp [Act.eval, Act.put]) HT9.out ?_))
        intro W2 h2 b2 _
        go_wp2
        refine ret_p (k := 2) Try.results97 h2 (by first | (simp; done) | simp [Act.put]) rfl ?_
        rw [HRB.out]
        exact RxP.bad_of HBZ.out _ _ _ _ b2

set_option maxHeartbeats 4000000 in
set_option maxRecDepth 100000 in
theorem rfGroup_d (L : LX) (l : List Int) (s : PS) (p : PX) (w : World) (rec : PS → PR Rx) (_ : ∀ s v s', rec s = .ok v s' → Adv l s s') (h40 : due l s.pos = 40)
    (KP : s.deep < 50 → ∀ (s' : PS) (p' : PX) (W : World), s'.deep = s.deep + 1 → Lv W L l s' p' → Calls Try.prog 31 #[pAgg L p'] W (RxP L l W (rec s')))
    (h : Lv w L l s p) (hd : ¬ s.deep = 50) (h63 : due l (s.pos + 1) = 63) (h58 : ¬ due l (s.pos + 2) = 58) (h60 : ¬ due l (s.pos + 2) = 60) :
    Calls Try.prog 97 #[pAgg L p] w (RxP L l w (groupR l rec s)) := by
  have HLv := Lib.hid h
  have HPT := Lib.hid h.pat
  have hl := h.fin.len
  have hp := h.fin.pos
  have hdp := h.fin.deep
  have hlt := due_lt h40 (by decide)
  have hd2 : s.deep < 50 := by omega
  have KPA := Lib.hid (KP hd2)
  have HG := Lib.hid (show groupR l rec s = (headR l { s with pos := s.pos + 1, deep := s.deep + 1 }).bind fun n s' => restR l rec (n.map fun _ => s.names.length + 1) (n.getD []) s' by unfold groupR; rw [if_neg hd])
  have HV1 := Lib.hid (h.opened hd2)
  have k1 := fun (p' : PX) (W : World) (h : Lv W L l { s with deep := s.deep + 1 } p') => show Calls Try.prog 55 #[pAgg L p', .int .i64 1] W (RetE (.int .i64 (due l (s.pos + 1))) fun w' => Below W.heap.size W w') from rfSignL L l { s with deep := s.deep + 1 } p' 1 W h (by omega)
  have k2 := fun (p' : PX) (W : World) (h : Lv W L l { s with deep := s.deep + 1 } p') => show Calls Try.prog 55 #[pAgg L p', .int .i64 2] W (RetE (.int .i64 (due l (s.pos + 2))) fun w' => Below W.heap.size W w') from rfSignL L l { s with deep := s.deep + 1 } p' 2 W h (by omega)
  have HDD := Lib.hid h.deep
  clear KP h
  obtain ⟨p1, hp1⟩ : ∃ q : PX, q = { p with deep := (s.deep : Int) + 1 } := ⟨_, rfl⟩
  rw [← hp1] at HV1
  have HP1 := Lib.hid hp1
  clear hp1 hd
  have hlt63 := due_lt h63 (by decide)
  have HG2 := Lib.hid (show groupR l rec s = (if due l (s.pos + 2) = 58 then restR l rec none [] { s with pos := s.pos + 3, deep := s.deep + 1 }
    else if due l (s.pos + 2) = 60 then (nameR l { s with pos := s.pos + 3, deep := s.deep + 1 }).bind fun n s' => restR l rec (some (s.names.length + 1)) n { s' with names := s'.names ++ [n] } else failR l (s.pos + 2)) by
    rw [HG.out]; unfold headR; simp only; rw [if_pos h63]
    by_cases a : due l (s.pos + 1 + 1) = 58
    · rw [if_pos a, if_pos a]; rfl
    rw [if_neg a, if_neg a]
    by_cases b : due l (s.pos + 1 + 1) = 60
    · rw [if_pos b, if_pos b]
      show ((nameR l { s with pos := s.pos + 3, deep := s.deep + 1 }).bind _).bind _ = _
      cases nameR l { s with pos := s.pos + 3, deep := s.deep + 1 } <;> rfl
    · rw [if_neg b, if_neg b]; unfold failR; split <;> rfl)
  rw [h63] at k1
  have K1 := Lib.hid k1
  clear k1 HG h63
  obtain ⟨a, m, hf, hbx⟩ := stopX_fail (α := Rx) (L := L) (l := l) (p := p1) (i := s.pos + 2) HPT.out.1.symm
  have HRB := Lib.hid (show groupR l rec s = .bad a m by rw [HG2.out, if_neg h58, if_neg h60, hf])
  have HBX := Lib.hid (show BadX (stopX L p1 ((s.pos : Int) + 2)) a m from hbx)
  have z58 : (due l (s.pos + 2) == 58) = false := beq_false_of_ne h58
  have z60 : (due l (s.pos + 2) == 60) = false := beq_false_of_ne h60
  have KST := Lib.hid (fun W => rfStop L p1 ((s.pos : Int) + 2) W)
  clear hf hbx HG2 h58 h60
  generalize due l (s.pos + 2) = d2 at *
  have K2 := Lib.hid k2
  clear k2
  go_enter Try.func97, Try.ntmps97
  go_wp2_with (with_reducible refine box_p (by with_reducible rfl) _ (by with_reducible rfl) (L := L) (p := p) (by simp [Act.eval]) ?_)
  intro V hV bV sV
  go_wp2_with (with_reducible refine room_p (by with_reducible rfl) (by with_reducible rfl) hV ?_)
  intro W hW bW sW
  clear hV bV sV bW sW
  have c3 := hW.deep
  rw [HDD.out] at c3
  have f3 := hW.frozen 3
  have H1 := Lib.hid (show PF w (W.setCell ⟨w.heap.size, 3, none⟩ (.int .i64 ((s.deep : Int) + 1))) w.heap.size (w.heap.size + 1) L p1 by rw [HP1.out]; exact hW.set (j := 3) (v := .int .i64 ((s.deep : Int) + 1)) rfl)
  clear hW
  go_wp2_with (first
    | (with_reducible refine load_p (by with_reducible rfl) _ (by with_reducible rfl) w.heap.size (by first | (simp [Act.eval]; done) | simp [Act.eval, Act.put]) H1.out ?_)
    | (go_at_call 55; (with_reducible refine (K1.out p1 _ (HV1.out.below H1.out.below)).mono ?_)))
  rintro e w2 ⟨rfl, hb2⟩
  have H2 := Lib.hid (show PF w w2 w.heap.size (w.heap.size + 1) L p1 by
    exact H1.out.call hb2)
  have HV2 := Lib.hid (HV1.out.below H2.out.below)
  clear hb2 H1
  go_wp2_with (first
    | (with_reducible refine load_p (by with_reducible rfl) _ (by with_reducible rfl) w.heap.size (by first | (simp [Act.eval]; done) | simp [Act.eval, Act.put]) H2.out ?_)
    | (go_at_call 55; (with_reducible refine (K2.out p1 _ HV2.out).mono ?_)))
  rintro e w4 ⟨rfl, hb4⟩
  have H4 := Lib.hid (H2.out.call hb4)
  have HV4 := Lib.hid (HV2.out.below hb4)
  clear hb4 H2 HV2
  go_wp2_with (first
    | (with_reducible refine load_p (by with_reducible rfl) _ (by with_reducible rfl) w.heap.size (by first | (simp [Act.eval]; done) | simp [Act.eval, Act.put]) H4.out ?_)
    | (go_at_call 55; (with_reducible refine (K2.out p1 _ HV4.out).mono ?_)))
  rintro e w5 ⟨rfl, hb5⟩
  have H5 := Lib.hid (H4.out.call hb5)
  have c1 := H5.out.i
  rw [HV4.out.i] at c1
  clear hb5 H4
  go_wp2_with (first
    | (with_reducible refine load_p (by with_reducible rfl) _ (by with_reducible rfl) w.heap.size (by first | (simp [Act.eval]; done) | simp [Act.eval, Act.put]) H5.out ?_)
    | (go_at_call 32; (with_reducible refine (KST.out _).mono ?_)))
  rintro e w6 ⟨rfl, hb6⟩
  have H6 := Lib.hid (H5.out.call hb6)
  clear hb6 c1
  go_wp2_with (first
    | (with_reducible refine store_r (by with_reducible rfl) _ _ (by with_reducible rfl) (w.heap.size + 1) (p' := stopX L p1 ((s.pos : Int) + 2)) (by first | (simp [Act.eval]; done) | simp [Act.eval, Act.put]) (by first | (simp [Act.eval]; done) | simp [Act.eval, Act.put]) H6.out ?_))
  intro W2 h2 b2 _
  go_wp2
  refine ret_p (k := 2) Try.results97 h2 (by first | (simp; done) | simp [Act.put]) rfl ?_
  rw [HRB.out]
  exact ⟨_, rfl, HBX.out, b2⟩

set_option maxHeartbeats 4000000 in
set_option maxRecDepth 100000 in
theorem rfGroup_any (L : LX) (l : List Int) (s : PS) (p : PX) (w : World) (rec : PS → PR Rx) (hadv : ∀ s v s', rec s = .ok v s' → Adv l s s') (h40 : due l s.pos = 40)
    (KP : s.deep < 50 → ∀ (s' : PS) (p' : PX) (W : World), s'.deep = s.deep + 1 → Lv W L l s' p' → Calls Try.prog 31 #[pAgg L p'] W (RxP L l W (rec s')))
    (h : Lv w L l s p) :
    Calls Try.prog 97 #[pAgg L p] w (RxP L l w (groupR l rec s)) := by
  have HLv := Lib.hid h
  have HPT := Lib.hid h.pat
  have hl := h.fin.len
  have hp := h.fin.pos
  have hdp := h.fin.deep
  have hlt := due_lt h40 (by decide)
  by_cases hd : s.deep = 50
  · have HM := Lib.hid (show groupR l rec s = .bad s.pos 6 by unfold groupR; rw [if_pos hd])
    have HI := Lib.hid h.i
    have HDD := Lib.hid (show p.deep = 50 by rw [h.deep, hd]; rfl)
    clear KP h hd
    go_enter Try.func97, Try.ntmps97
    go_wp2_with (with_reducible refine box_p (by with_reducible rfl) _ (by with_reducible rfl) (L := L) (p := p) (by simp [Act.eval]) ?_)
    intro V hV bV sV
    go_wp2_with (with_reducible refine room_p (by with_reducible rfl) (by with_reducible rfl) hV ?_)
    intro W hW bW sW
    clear hV bV sV bW sW
    have c3 := hW.deep
    rw [HDD.out] at c3
    have c1 := hW.i
    rw [HI.out] at c1
    have c15 := hW.at
    have c16 := hW.bad
    have f15 := hW.frozen 15
    have f16 := hW.frozen 16
    have H2 := Lib.hid ((hW.set (j := 15) (v := .int .i64 (s.pos : Int)) (p' := { p with at' := (s.pos : Int) }) rfl).set (j := 16) (v := .int .i64 6) (p' := { p with at' := (s.pos : Int), bad := 6 }) rfl)
    clear hW
    go_wp2_with (first
      | (with_reducible refine load_p (by with_reducible rfl) _ (by with_reducible rfl) w.heap.size (by first | (simp [Act.eval]; done) | simp [Act.eval, Act.put]) H2.out ?_)
      | (with_reducible refine store_r (by with_reducible rfl) _ _ (by with_reducible rfl) (w.heap.size + 1) (p' := { p with at' := (s.pos : Int), bad := 6 }) (by first | (simp [Act.eval]; done) | simp [Act.eval, Act.put]) (by first | (simp [Act.eval]; done) | simp [Act.eval, Act.put]) H2.out ?_))
    intro W2 h2 b2 _
    go_wp2
    refine ret_p (k := 2) Try.results97 h2 (by first | (simp; done) | simp [Act.put]) rfl ?_
    rw [HM.out]
    exact ⟨_, rfl, ⟨rfl, rfl, by decide⟩, b2⟩
  by_cases h63 : due l (s.pos + 1) = 63
  · by_cases h58 : due l (s.pos + 2) = 58
    · exact rfGroup_b L l s p w rec hadv h40 KP h hd h63 h58
    · by_cases h60 : due l (s.pos + 2) = 60
      · exact rfGroup_c L l s p w rec hadv h40 KP h hd h63 h58 h60
      · exact rfGroup_d L l s p w rec hadv h40 KP h hd h63 h58 h60
  · exact rfGroup_a L l s p w rec hadv h40 KP h hd h63

end Go.Proofs.Ytoniccokohjenaa
