/-
  The walk of the reference's alt (chapter 18).
-/
import Derived.Test.YtoniccokohjenaaRfJ
import Derived.Test.YtoniccokohjenaaRegAl
namespace Go.Proofs.Ytoniccokohjenaa
open Go.RowKit

theorem RowC.lit {B : Nat} {w : World} (t : Rx) (A : Option Addr) (n c : Nat) (hB : B ≤ w.heap.size) : RowC B (w.alloc (.cells (rxCells t (.slice A n c)).toArray TRx)) (.slice (some ⟨w.heap.size, 0, none⟩) 1 1) [(t, .slice A n c)] := by
  refine ⟨?_, fun z hz => ?_⟩
  · have := World.ownsRow_lit (base := B) (e := TRx) (size := 10) w (rxCells t (.slice A n c)).toArray 1 hB (by unfold maxLen; omega) rfl
    simpa [zCells] using this
  · obtain rfl := List.mem_singleton.1 hz; exact ⟨A, n, c, rfl⟩

/-- how far alt's loop has come, all well -/
structure AltG (L : LX) (l : List Int) (B : Nat) (w : World) (s' : PS) (p : PX) (zs : List (Rx × Value)) (x0 : Rx) (xs : List Rx) : Prop where
  lv : Lv w L l s' p
  heads : zs.map Prod.fst = x0 :: xs
  tr : TrZ B w zs
  last : xs = [] → p.x = x0 ∧ p.xn = x0.kids.length ∧ KX (fun q => B ≤ q) w x0 (.slice p.xa p.xn p.xc)
theorem AltG.below {L : LX} {l : List Int} {B : Nat} {w w' : World} {s' : PS} {p : PX} {zs : List (Rx × Value)} {x0 : Rx} {xs : List Rx} (h : AltG L l B w s' p zs x0 xs) (hb : Below w.heap.size w w') : AltG L l B w' s' p zs x0 xs :=
  ⟨h.lv.below hb, h.heads, h.tr.below hb, fun e => ⟨(h.last e).1, (h.last e).2.1, KX.off (h.last e).2.2 (OffP.call hb)⟩⟩
theorem AltG.off {L : LX} {l : List Int} {B : Nat} {w w' : World} {s' : PS} {p : PX} {zs : List (Rx × Value)} {x0 : Rx} {xs : List Rx} (h : AltG L l B w s' p zs x0 xs) (ho : OffP w w') (hp : LRd w' L l) : AltG L l B w' s' p zs x0 xs :=
  ⟨h.lv.off ho hp, h.heads, h.tr.off ho, fun e => ⟨(h.last e).1, (h.last e).2.1, KX.off (h.last e).2.2 ho⟩⟩
/-- where alt's loop ends -/
def AltE (L : LX) (l : List Int) (B : Nat) (w : World) (R : PR Rx) (p : PX) (zs : List (Rx × Value)) : Prop :=
  (∃ s x0 xs, AltG L l B w s p zs x0 xs ∧ R = .ok (altOf x0 xs) s) ∨ ∃ a m, BadX p a m ∧ R = .bad a m
theorem AltE.off {L : LX} {l : List Int} {B : Nat} {w w' : World} {R : PR Rx} {p : PX} {zs : List (Rx × Value)} (h : AltE L l B w R p zs) (ho : OffP w w') (hp : LRd w' L l) : AltE L l B w' R p zs := by
  rcases h with ⟨s, x0, xs, h1, h2⟩ | h
  · exact .inl ⟨s, x0, xs, h1.off ho hp, h2⟩
  · exact .inr h

set_option maxHeartbeats 4000000 in
set_option maxRecDepth 100000 in
theorem rfAlt_any (L : LX) (l : List Int) (s : PS) (p : PX) (w : World) (rec : PS → PR Rx) (hadv : ∀ s v s', rec s = .ok v s' → Adv l s s')
    (KP : ∀ (s' : PS) (p' : PX) (W : World), s'.deep = s.deep → Lv W L l s' p' → Calls Try.prog 54 #[pAgg L p'] W (RxP L l W (seqR L.free l rec s')))
    (h : Lv w L l s p) :
    Calls Try.prog 31 #[pAgg L p] w (RxP L l w (altR L.free l rec s)) := by
  obtain ⟨i0, hi0, hz0, hz1, hz2⟩ := info_parts infoRx
  have HLv := Lib.hid h
  have HPT := Lib.hid h.pat
  have KPA := Lib.hid KP
  have hl := h.fin.len
  have hp := h.fin.pos
  have HALT := Lib.hid (show altR L.free l rec s = (seqR L.free l rec s).bind fun x s => (altsR L.free l rec (l.length + 1) s).bind fun xs s => .ok (altOf x xs) s from rfl)
  -- the first seq, in both ways
  have K1 : ∀ W, Lv W L l s p → Calls Try.prog 54 #[pAgg L p] W (fun e w' => ∃ p1, e = .returned (pAgg L p1) ∧ Below W.heap.size W w' ∧
      ((∃ s1 x, Lv w' L l s1 p1 ∧ s1.deep = s.deep ∧ s.pos ≤ s1.pos ∧ p1.x = x ∧ TX W.heap.size w' p1 ∧ altR L.free l rec s = (altsR L.free l rec (l.length + 1) s1).bind fun xs s => .ok (altOf x xs) s) ∨ ∃ a m, BadX p1 a m ∧ altR L.free l rec s = .bad a m)) := fun W hW => by
    have k := KP s p W rfl hW
    cases hs : seqR L.free l rec s with
    | bad a m =>
      rw [hs] at k
      refine k.mono ?_
      rintro e w' ⟨p1, rfl, hb, hbe⟩
      exact ⟨p1, rfl, hbe, .inr ⟨a, m, hb, by rw [HALT.out, hs]; rfl⟩⟩
    | ok x s1 =>
      rw [hs] at k
      refine k.mono ?_
      rintro e w' ⟨p1, rfl, hl1, hx, ht, hbe⟩
      have ha := seq_adv hadv hs
      exact ⟨p1, rfl, hbe, .inl ⟨s1, x, hl1, ha.deep, ha.pos, hx, ht, by rw [HALT.out, hs]; rfl⟩⟩
  have HK1 := Lib.hid K1
  clear h KP K1
  go_enter Try.func31, Try.ntmps31
  go_wp2_with (with_reducible refine box_p (by with_reducible rfl) _ (by with_reducible rfl) (L := L) (p := p) (by simp [Act.eval]) ?_)
  intro V hV bV sV
  go_wp2_with (with_reducible refine room_p (by with_reducible rfl) (by with_reducible rfl) hV ?_)
  intro W hW bW sW
  clear hV bV sV bW sW
  have H := Lib.hid hW
  clear hW
  go_wp2_with (first
    | (with_reducible refine load_p (by with_reducible rfl) _ (by with_reducible rfl) w.heap.size (by first | (simp [Act.eval]; done) | simp [Act.eval, Act.put]) H.out ?_)
    | (go_at_call 54; (with_reducible refine (HK1.out _ (HLv.out.below H.out.below)).mono ?_)))
  rintro e w1 ⟨p1, rfl, hb1, hst⟩
  have H1 := Lib.hid (H.out.call hb1)
  have HS1 := Lib.hid hst
  have hsw := H.out.size
  clear hb1 hst
  go_wp2_with (first
    | (with_reducible refine store_p (by with_reducible rfl) _ _ (by with_reducible rfl) w.heap.size (p' := p1) (by first | (simp [Act.eval]; done) | simp [Act.eval, Act.put]) (by first | (simp [Act.eval]; done) | simp [Act.eval, Act.put]) H1.out ?_))
  intro V1 hV1 o1
  have H2 := Lib.hid hV1
  have HG := Lib.hid (show (∃ s1 x0, AltG L l w.heap.size V1 s1 p1 [(p1.x, .slice p1.xa p1.xn p1.xc)] x0 [] ∧ s1.deep = s.deep ∧ altR L.free l rec s = (altsR L.free l rec (l.length + 1) s1).bind fun xs s => .ok (altOf x0 xs) s) ∨ ∃ a m, BadX p1 a m ∧ altR L.free l rec s = .bad a m by
    rcases HS1.out with ⟨s1, x, h1, h2, _, h4, h5, h6⟩ | h
    · have hk : KX (fun q => w.heap.size ≤ q) V1 p1.x (.slice p1.xa p1.xn p1.xc) := KX.off (h5.2.kept fun _ _ _ hq hh => ⟨hh, by omega⟩) o1
      refine .inl ⟨s1, x, ⟨h1.off o1 (HPT.out.below hV1.below), by rw [← h4]; rfl, fun z hz => ?_, fun _ => ⟨h4, by rw [← h4]; exact h5.1, by rw [← h4]; exact hk⟩⟩, h2, h6⟩
      obtain rfl := List.mem_singleton.1 hz
      exact hk
    · exact .inr h)
  clear hV1 o1 HS1 H1
  go_wp2_with (first
    | ((with_reducible refine load_px (by with_reducible rfl) _ (by with_reducible rfl) w.heap.size (by first | (simp [Act.eval]; done) | simp [Act.eval, Act.put]) H2.out ?_); simp only [rxAgg]))
  go_loopg [3] (l.length + 2) (fun kx v wr => ∃ (pr : PX) (zs : List (Rx × Value)), PF w wr w.heap.size (w.heap.size + 1) L pr ∧ RowC w.heap.size wr v zs ∧ zs.length ≤ 1003 ∧ zs ≠ [] ∧
    ((∃ (s' : PS) (f : Nat) (x0 : Rx) (xs : List Rx), f + 1 ≤ kx ∧ AltG L l w.heap.size wr s' pr zs x0 xs ∧ s'.deep = s.deep ∧ l.length < f + s'.pos ∧ zs.length ≤ s'.pos + 1 ∧ Hid (altR L.free l rec s = (altsR L.free l rec f s').bind fun ys s => .ok (altOf x0 (xs ++ ys)) s)) ∨
      (∃ a m, BadX pr a m ∧ Hid (altR L.free l rec s = .bad a m))))
  case atStart =>
    refine ⟨p1, [(p1.x, .slice p1.xa p1.xn p1.xc)], H2.out.alloc _, RowC.lit p1.x p1.xa p1.xn p1.xc H2.out.size, by simp, by simp, ?_⟩
    rcases HG.out with ⟨s1, x0, h1, h2, h3⟩ | ⟨a, m, h1, h2⟩
    · exact .inl ⟨s1, l.length + 1, x0, [], Nat.le_refl _, h1.below ((Below.refl _ V1).alloc (Nat.le_refl _) _), h2, by omega, by simp, h3⟩
    · exact .inr ⟨a, m, h1, h2⟩
  case round =>
    obtain ⟨pr, zs, hv, hz, hzl, hzn, hst⟩ := hrel
    obtain ⟨A, cap, rfl⟩ := hz.slice
    have hz1' := Lib.hid hzn
    have H3 := Lib.hid hv
    have HZ3 := Lib.hid hz
    have c16 := hv.bad
    clear hv hz hzn HG
    rcases hst with ⟨s', f, x0, xs, hfk, hg, hd', hfu, hzp, hrel⟩ | ⟨a, m, hbx, hrel⟩
    · have hb0 := hg.lv.bad
      rw [hb0] at c16
      have HGG := Lib.hid hg
      have HREL := Lib.hid hrel.out
      have HD := Lib.hid hd'
      have hpl := hg.lv.fin.pos
      have kd := fun (W : World) (h : Lv W L l s' pr) => show Calls Try.prog 55 #[pAgg L pr, .int .i64 0] W (RetE (.int .i64 (due l s'.pos)) fun w' => Below W.heap.size W w') from rfSignL L l s' pr 0 W h (by omega)
      obtain ⟨f, rfl⟩ : ∃ k, f = k + 1 := ⟨f - 1, by omega⟩
      clear hg hrel hd' hb0
      by_cases h124 : due l s'.pos = 124
      · have hlt := due_lt h124 (by decide)
        rw [h124] at kd
        have KD := Lib.hid kd
        obtain ⟨pB, hpB⟩ : ∃ q : PX, q = { pr with i := wrap64 (pr.i + 1) } := ⟨_, rfl⟩
        have KON := Lib.hid (fun W => show Calls Try.prog 56 #[pAgg L pr, .int .i64 1] W (RetE (pAgg L pB) fun w' => Below W.heap.size W w') by rw [hpB]; exact rfOn L pr 1 W)
        have HLB := Lib.hid (show Lv wr L l { s' with pos := s'.pos + 1 } pB by rw [hpB]; exact HGG.out.lv.on 1 hlt)
        have kp := fun W h => KPA.out { s' with pos := s'.pos + 1 } pB W HD.out h
        have HZO := Lib.hid (z_one zs HZ3.out.form)
        have hzl2 : zs.length ≤ 1001 := by omega
        have HHD := Lib.hid HGG.out.heads
        have HT3 := Lib.hid HGG.out.tr
        have H124 := Lib.hid h124
        clear hpB kd h124
        go_wp2_with (first
          | (with_reducible refine load_pG (by with_unfolding_all rfl) _ (by with_reducible rfl) w.heap.size (by first | (simp [Act.eval]; done) | simp [Act.eval, Act.put]) H3.out ?_)
          | (go_at_call 55; (with_reducible refine (KD.out _ HGG.out.lv).mono ?_)))
        rintro e w4 ⟨rfl, hb4⟩
        have H4 := Lib.hid (H3.out.call hb4)
        have HZ4 := Lib.hid (HZ3.out.below hb4)
        have HT4 := Lib.hid (HT3.out.below hb4)
        have HL4 := Lib.hid (HLB.out.below hb4)
        clear hb4 c16 HZ3 H3 HT3 HLB
        go_wp2_with (first
          | (with_reducible refine load_p (by with_reducible rfl) _ (by with_reducible rfl) w.heap.size (by first | (simp [Act.eval]; done) | simp [Act.eval, Act.put]) H4.out ?_)
          | (go_at_call 56; (with_reducible refine (KON.out _).mono ?_)))
        rintro e w5 ⟨rfl, hb5⟩
        have H5 := Lib.hid (H4.out.call hb5)
        have HZ5 := Lib.hid (HZ4.out.below hb5)
        have HT5 := Lib.hid (HT4.out.below hb5)
        have HL5 := Lib.hid (HL4.out.below hb5)
        clear hb5 HZ4 H4 HT4 HL4
        cases hsq : seqR L.free l rec { s' with pos := s'.pos + 1 } with
        | bad a m =>
          rw [hsq] at kp
          have KPT := Lib.hid (fun (W : World) (h : Lv W L l { s' with pos := s'.pos + 1 } pB) => show Calls Try.prog 54 #[pAgg L pB] W (fun e w' => ∃ p, e = .returned (pAgg L p) ∧ BadX p a m ∧ Below W.heap.size W w') from kp W h)
          have HBAD := Lib.hid (show altR L.free l rec s = .bad a m by rw [HREL.out, alts_bad H124.out hsq]; rfl)
          clear kp hsq HREL
          go_wp2_with (first
            | (go_at_call 54; (with_reducible refine (KPT.out _ HL5.out).mono ?_)))
          rintro e w6 ⟨pn, rfl, hbn, hb6⟩
          have H6 := Lib.hid (H5.out.call hb6)
          have HZ6 := Lib.hid (HZ5.out.below hb6)
          have HBN := Lib.hid hbn
          clear hb6 hbn H5 HZ5 HL5
          go_wp2_with (first
            | (with_reducible refine store_p (by with_reducible rfl) _ _ (by with_reducible rfl) w.heap.size (p' := pn) (by first | (simp [Act.eval]; done) | simp [Act.eval, Act.put]) (by first | (simp [Act.eval]; done) | simp [Act.eval, Act.put]) H6.out ?_))
          intro V7 hV7 o7
          have HP5 := Lib.hid hV7
          have ZR := Lib.hid (HZ6.out.off o7)
          clear hV7 o7 H6 HZ6
          -- the tree of pn is laid behind a copy of the row, at V7: HP5: the state, ZR: the row
          go_upto_region 5 with fail
          have HYO := Lib.hid (rx_one pn.x pn.xa pn.xn pn.xc)
          have ZO := HZO
          refine wp_region_held_drew (S := (fun Y => Below V7.heap.size V7 Y)) (by kernel_rfl) (Below.refl _ V7).drew (fun hS0 => ?_)
          have HB := Lib.hid hS0
          refine wpAnyH_take (i := 1) (v := Value.slice A zs.length cap) rfl (by kernel_rfl) (by kernel_rfl) (by kernel_rfl) (fun _ _ _ h => h) (.inl ⟨by rfl, fun _ _ => by go_simp⟩) hS0 ?_
          refine wpAnyH_take (i := 3) (v := Value.pointer (some ⟨w.heap.size, 5, none⟩)) rfl (by kernel_rfl) (by kernel_rfl) (by kernel_rfl) (fun _ _ _ h => h) (.inl ⟨by rfl, fun _ _ => by go_simp⟩) hS0 ?_
          refine wpAnyH_take (i := 4) (v := rxAgg pn.x (.slice pn.xa pn.xn pn.xc)) rfl (by kernel_rfl) (by kernel_rfl) (by kernel_rfl) (fun _ _ _ h => h) (yields_xr (fun _ h => (HP5.out.call h).xrange) (by rfl) _ rfl rfl) hS0 ?_
          simp only [rxAgg]
          generalize V7.drew = Y0 at *
          clear hS0
          refine wpAnyH_ready (rs := [0, 5]) (by kernel_rfl) (by simp) ?_
          refine AllReadyH.cons rfl (fun K hK => ?_) (AllReadyH.cons rfl (fun K hK => ?_) AllReadyH.nil)
          · skip
            go_simp
            refine hK.out _ _ (HB.out.alloc HB.out.size (.cells #[] 25)) (fun hS0 => ?_)
            clear hK K
            have E0 := Lib.hid (And.intro (Go.heap_alloc_new Y0 (.cells #[] 25)) HB.out.size)
            have HB := Lib.hid (HB.out.alloc HB.out.size (.cells #[] 25))
            generalize Y0.alloc (.cells #[] 25) = Y1 at *
            refine wpAnyH_ready (rs := [2, 5]) (by kernel_rfl) (by simp) ?_
            refine AllReadyH.cons rfl (fun K hK => ?_) (AllReadyH.cons rfl (fun K hK => ?_) AllReadyH.nil)
            · skip
              rw [if_pos (by rfl)]
              obtain ⟨v3, Y2, hr, ho, hb, hke, hob⟩ := copy_run (P := Try.prog) (ty := 23) Try.underlying23 hi0 hz0 hz1 hz2 rfl (by decide) HB.out ZR.out.own ZO.out E0.out.1 E0.out.2 (by unfold maxLen; omega) (by omega)
              refine wp_app _ _ rfl rfl rfl hr ?_
              refine hK.out _ _ hb (fun hS0 => ?_)
              clear hK K hr
              have C3 := Lib.hid ho
              have HB := Lib.hid hb
              clear ho hb hke hob E0
              refine wpAnyH_ready (rs := [5]) (by kernel_rfl) (by simp) ?_
              refine AllReadyH.cons rfl (fun K hK => ?_) AllReadyH.nil
              go_simp
              refine hK.out _ _ (HB.out.alloc HB.out.size (.cells #[.int .i64 (pn.x.kind : Int), .int .i64 pn.x.rune, .int .i64 pn.x.to, .slice pn.xa pn.xn pn.xc, .int .i64 pn.x.min, .int .i64 pn.x.max, .bool pn.x.lazy, .bool pn.x.not, .int .i64 (pn.x.group : Int), .string ⟨pn.x.name.toArray⟩] 25)) (fun hS0 => ?_)
              clear hK K
              have F5 := Lib.hid (Go.heap_alloc_new Y2 (.cells #[.int .i64 (pn.x.kind : Int), .int .i64 pn.x.rune, .int .i64 pn.x.to, .slice pn.xa pn.xn pn.xc, .int .i64 pn.x.min, .int .i64 pn.x.max, .bool pn.x.lazy, .bool pn.x.not, .int .i64 (pn.x.group : Int), .string ⟨pn.x.name.toArray⟩] 25))
              have C3 := Lib.hid (rowns_below C3.out ((Below.refl _ Y2).alloc (Nat.le_refl _) (.cells #[.int .i64 (pn.x.kind : Int), .int .i64 pn.x.rune, .int .i64 pn.x.to, .slice pn.xa pn.xn pn.xc, .int .i64 pn.x.min, .int .i64 pn.x.max, .bool pn.x.lazy, .bool pn.x.not, .int .i64 (pn.x.group : Int), .string ⟨pn.x.name.toArray⟩] 25)))
              have HB := Lib.hid (HB.out.alloc HB.out.size (.cells #[.int .i64 (pn.x.kind : Int), .int .i64 pn.x.rune, .int .i64 pn.x.to, .slice pn.xa pn.xn pn.xc, .int .i64 pn.x.min, .int .i64 pn.x.max, .bool pn.x.lazy, .bool pn.x.not, .int .i64 (pn.x.group : Int), .string ⟨pn.x.name.toArray⟩] 25))
              generalize Y2.alloc (.cells #[.int .i64 (pn.x.kind : Int), .int .i64 pn.x.rune, .int .i64 pn.x.to, .slice pn.xa pn.xn pn.xc, .int .i64 pn.x.min, .int .i64 pn.x.max, .bool pn.x.lazy, .bool pn.x.not, .int .i64 (pn.x.group : Int), .string ⟨pn.x.name.toArray⟩] 25) = Y3 at *
              refine wpAnyH_ready (rs := [6]) (by kernel_rfl) (by simp) ?_
              refine AllReadyH.cons rfl (fun K hK => ?_) AllReadyH.nil
              rw [if_pos (by rfl)]
              obtain ⟨v6, Y4, hr, ho, hb⟩ := push_run (P := Try.prog) (ty := 23) Try.underlying23 hi0 hz0 hz1 hz2 rfl (by decide) HB.out C3.out F5.out rfl HYO.out (by unfold maxLen; omega) (by omega)
              refine wp_app _ _ rfl rfl rfl hr ?_
              refine hK.out _ _ hb (fun hS0 => ?_)
              clear hK K hr
              have C6 := Lib.hid ho
              have HB := Lib.hid hb
              clear ho hb C3 F5
              refine wpAnyH_ready (rs := [7]) (by kernel_rfl) (by simp) ?_
              refine AllReadyH.cons rfl (fun K hK => ?_) AllReadyH.nil
              go_simp
              refine hK.out _ _ HB.out (fun hS0 => ?_)
              clear hK K hS0
              refine wpAnyH_done (by kernel_rfl) ?_ _
              have HR := Lib.hid (ZR.out.pushed HP5.out.size C6.out)
              have H9 := Lib.hid (HP5.out.call HB.out)
              go_wp2_with fail
              go_roundg f
              case measure => omega
              case rel => exact ⟨pn, zs ++ [(pn.x, .slice pn.xa pn.xn pn.xc)], H9.out, HR.out, by simp; omega, by simp, .inr ⟨a, m, HBN.out, HBAD.out⟩⟩
            · skip
              go_simp
              refine hK.out _ _ (HB.out.alloc HB.out.size (.cells #[.int .i64 (pn.x.kind : Int), .int .i64 pn.x.rune, .int .i64 pn.x.to, .slice pn.xa pn.xn pn.xc, .int .i64 pn.x.min, .int .i64 pn.x.max, .bool pn.x.lazy, .bool pn.x.not, .int .i64 (pn.x.group : Int), .string ⟨pn.x.name.toArray⟩] 25)) (fun hS0 => ?_)
              clear hK K
              have F5 := Lib.hid (Go.heap_alloc_new Y1 (.cells #[.int .i64 (pn.x.kind : Int), .int .i64 pn.x.rune, .int .i64 pn.x.to, .slice pn.xa pn.xn pn.xc, .int .i64 pn.x.min, .int .i64 pn.x.max, .bool pn.x.lazy, .bool pn.x.not, .int .i64 (pn.x.group : Int), .string ⟨pn.x.name.toArray⟩] 25))
              have E0 := Lib.hid (And.intro ((Below.heap_alloc Y1 (.cells #[.int .i64 (pn.x.kind : Int), .int .i64 pn.x.rune, .int .i64 pn.x.to, .slice pn.xa pn.xn pn.xc, .int .i64 pn.x.min, .int .i64 pn.x.max, .bool pn.x.lazy, .bool pn.x.not, .int .i64 (pn.x.group : Int), .string ⟨pn.x.name.toArray⟩] 25) _ (Array.getElem?_eq_some_iff.1 E0.out.1).1).trans E0.out.1) E0.out.2)
              have HB := Lib.hid (HB.out.alloc HB.out.size (.cells #[.int .i64 (pn.x.kind : Int), .int .i64 pn.x.rune, .int .i64 pn.x.to, .slice pn.xa pn.xn pn.xc, .int .i64 pn.x.min, .int .i64 pn.x.max, .bool pn.x.lazy, .bool pn.x.not, .int .i64 (pn.x.group : Int), .string ⟨pn.x.name.toArray⟩] 25))
              generalize Y1.alloc (.cells #[.int .i64 (pn.x.kind : Int), .int .i64 pn.x.rune, .int .i64 pn.x.to, .slice pn.xa pn.xn pn.xc, .int .i64 pn.x.min, .int .i64 pn.x.max, .bool pn.x.lazy, .bool pn.x.not, .int .i64 (pn.x.group : Int), .string ⟨pn.x.name.toArray⟩] 25) = Y2 at *
              refine wpAnyH_ready (rs := [2]) (by kernel_rfl) (by simp) ?_
              refine AllReadyH.cons rfl (fun K hK => ?_) AllReadyH.nil
              rw [if_pos (by rfl)]
              obtain ⟨v3, Y3, hr, ho, hb, hke, hob⟩ := copy_run (P := Try.prog) (ty := 23) Try.underlying23 hi0 hz0 hz1 hz2 rfl (by decide) HB.out ZR.out.own ZO.out E0.out.1 E0.out.2 (by unfold maxLen; omega) (by omega)
              refine wp_app _ _ rfl rfl rfl hr ?_
              refine hK.out _ _ hb (fun hS0 => ?_)
              clear hK K hr
              have C3 := Lib.hid ho
              have HB := Lib.hid hb
              have F5 := Lib.hid (hke _ _ F5.out (cells_ne F5.out E0.out.1 rfl))
              clear ho hb hke hob E0
              refine wpAnyH_ready (rs := [6]) (by kernel_rfl) (by simp) ?_
              refine AllReadyH.cons rfl (fun K hK => ?_) AllReadyH.nil
              rw [if_pos (by rfl)]
              obtain ⟨v6, Y4, hr, ho, hb⟩ := push_run (P := Try.prog) (ty := 23) Try.underlying23 hi0 hz0 hz1 hz2 rfl (by decide) HB.out C3.out F5.out rfl HYO.out (by unfold maxLen; omega) (by omega)
              refine wp_app _ _ rfl rfl rfl hr ?_
              refine hK.out _ _ hb (fun hS0 => ?_)
              clear hK K hr
              have C6 := Lib.hid ho
              have HB := Lib.hid hb
              clear ho hb C3 F5
              refine wpAnyH_ready (rs := [7]) (by kernel_rfl) (by simp) ?_
              refine AllReadyH.cons rfl (fun K hK => ?_) AllReadyH.nil
              go_simp
              refine hK.out _ _ HB.out (fun hS0 => ?_)
              clear hK K hS0
              refine wpAnyH_done (by kernel_rfl) ?_ _
              have HR := Lib.hid (ZR.out.pushed HP5.out.size C6.out)
              have H9 := Lib.hid (HP5.out.call HB.out)
              go_wp2_with fail
              go_roundg f
              case measure => omega
              case rel => exact ⟨pn, zs ++ [(pn.x, .slice pn.xa pn.xn pn.xc)], H9.out, HR.out, by simp; omega, by simp, .inr ⟨a, m, HBN.out, HBAD.out⟩⟩
          · skip
            go_simp
            refine hK.out _ _ (HB.out.alloc HB.out.size (.cells #[.int .i64 (pn.x.kind : Int), .int .i64 pn.x.rune, .int .i64 pn.x.to, .slice pn.xa pn.xn pn.xc, .int .i64 pn.x.min, .int .i64 pn.x.max, .bool pn.x.lazy, .bool pn.x.not, .int .i64 (pn.x.group : Int), .string ⟨pn.x.name.toArray⟩] 25)) (fun hS0 => ?_)
            clear hK K
            have F5 := Lib.hid (Go.heap_alloc_new Y0 (.cells #[.int .i64 (pn.x.kind : Int), .int .i64 pn.x.rune, .int .i64 pn.x.to, .slice pn.xa pn.xn pn.xc, .int .i64 pn.x.min, .int .i64 pn.x.max, .bool pn.x.lazy, .bool pn.x.not, .int .i64 (pn.x.group : Int), .string ⟨pn.x.name.toArray⟩] 25))
            have HB := Lib.hid (HB.out.alloc HB.out.size (.cells #[.int .i64 (pn.x.kind : Int), .int .i64 pn.x.rune, .int .i64 pn.x.to, .slice pn.xa pn.xn pn.xc, .int .i64 pn.x.min, .int .i64 pn.x.max, .bool pn.x.lazy, .bool pn.x.not, .int .i64 (pn.x.group : Int), .string ⟨pn.x.name.toArray⟩] 25))
            generalize Y0.alloc (.cells #[.int .i64 (pn.x.kind : Int), .int .i64 pn.x.rune, .int .i64 pn.x.to, .slice pn.xa pn.xn pn.xc, .int .i64 pn.x.min, .int .i64 pn.x.max, .bool pn.x.lazy, .bool pn.x.not, .int .i64 (pn.x.group : Int), .string ⟨pn.x.name.toArray⟩] 25) = Y1 at *
            refine wpAnyH_ready (rs := [0]) (by kernel_rfl) (by simp) ?_
            refine AllReadyH.cons rfl (fun K hK => ?_) AllReadyH.nil
            go_simp
            refine hK.out _ _ (HB.out.alloc HB.out.size (.cells #[] 25)) (fun hS0 => ?_)
            clear hK K
            have E0 := Lib.hid (And.intro (Go.heap_alloc_new Y1 (.cells #[] 25)) HB.out.size)
            have HB := Lib.hid (HB.out.alloc HB.out.size (.cells #[] 25))
            have F5 := Lib.hid ((Below.heap_alloc Y1 (.cells #[] 25) _ (Array.getElem?_eq_some_iff.1 F5.out).1).trans F5.out)
            generalize Y1.alloc (.cells #[] 25) = Y2 at *
            refine wpAnyH_ready (rs := [2]) (by kernel_rfl) (by simp) ?_
            refine AllReadyH.cons rfl (fun K hK => ?_) AllReadyH.nil
            rw [if_pos (by rfl)]
            obtain ⟨v3, Y3, hr, ho, hb, hke, hob⟩ := copy_run (P := Try.prog) (ty := 23) Try.underlying23 hi0 hz0 hz1 hz2 rfl (by decide) HB.out ZR.out.own ZO.out E0.out.1 E0.out.2 (by unfold maxLen; omega) (by omega)
            refine wp_app _ _ rfl rfl rfl hr ?_
            refine hK.out _ _ hb (fun hS0 => ?_)
            clear hK K hr
            have C3 := Lib.hid ho
            have HB := Lib.hid hb
            have F5 := Lib.hid (hke _ _ F5.out (cells_ne F5.out E0.out.1 rfl))
            clear ho hb hke hob E0
            refine wpAnyH_ready (rs := [6]) (by kernel_rfl) (by simp) ?_
            refine AllReadyH.cons rfl (fun K hK => ?_) AllReadyH.nil
            rw [if_pos (by rfl)]
            obtain ⟨v6, Y4, hr, ho, hb⟩ := push_run (P := Try.prog) (ty := 23) Try.underlying23 hi0 hz0 hz1 hz2 rfl (by decide) HB.out C3.out F5.out rfl HYO.out (by unfold maxLen; omega) (by omega)
            refine wp_app _ _ rfl rfl rfl hr ?_
            refine hK.out _ _ hb (fun hS0 => ?_)
            clear hK K hr
            have C6 := Lib.hid ho
            have HB := Lib.hid hb
            clear ho hb C3 F5
            refine wpAnyH_ready (rs := [7]) (by kernel_rfl) (by simp) ?_
            refine AllReadyH.cons rfl (fun K hK => ?_) AllReadyH.nil
            go_simp
            refine hK.out _ _ HB.out (fun hS0 => ?_)
            clear hK K hS0
            refine wpAnyH_done (by kernel_rfl) ?_ _
            have HR := Lib.hid (ZR.out.pushed HP5.out.size C6.out)
            have H9 := Lib.hid (HP5.out.call HB.out)
            go_wp2_with fail
            go_roundg f
            case measure => omega
            case rel => exact ⟨pn, zs ++ [(pn.x, .slice pn.xa pn.xn pn.xc)], H9.out, HR.out, by simp; omega, by simp, .inr ⟨a, m, HBN.out, HBAD.out⟩⟩
        | ok x s2 =>
          rw [hsq] at kp
          have KPT := Lib.hid (fun (W : World) (h : Lv W L l { s' with pos := s'.pos + 1 } pB) => show Calls Try.prog 54 #[pAgg L pB] W (fun e w' => ∃ p, e = .returned (pAgg L p) ∧ Lv w' L l s2 p ∧ p.x = x ∧ TX W.heap.size w' p ∧ Below W.heap.size W w') from kp W h)
          have ha := seq_adv hadv hsq
          have hd2 : s2.deep = s.deep := by rw [← HD.out, ha.deep]
          have hpos2 : s'.pos + 1 ≤ s2.pos := ha.pos
          have hst2 : altR L.free l rec s = (altsR L.free l rec f s2).bind fun ys s => .ok (altOf x0 ((xs ++ [x]) ++ ys)) s := by
            rw [HREL.out, alts_more H124.out hsq]
            cases altsR L.free l rec f s2 with
            | ok v s => simp [PR.bind]
            | bad a n => rfl
          clear kp hsq HREL ha
          go_wp2_with (first
            | (go_at_call 54; (with_reducible refine (KPT.out _ HL5.out).mono ?_)))
          rintro e w6 ⟨pn, rfl, hln, hxn, htn, hb6⟩
          have hsw5 := H5.out.size
          have H6 := Lib.hid (H5.out.call hb6)
          have HZ6 := Lib.hid (HZ5.out.below hb6)
          have HT6 := Lib.hid (HT5.out.below hb6)
          have HST := Lib.hid (show altR L.free l rec s = (altsR L.free l rec f s2).bind fun ys s => .ok (altOf x0 ((xs ++ [pn.x]) ++ ys)) s by rw [hxn]; exact hst2)
          have HGN6 := Lib.hid (show Lv w6 L l s2 pn ∧ KX (fun q => w.heap.size ≤ q) w6 pn.x (.slice pn.xa pn.xn pn.xc) from ⟨hln, htn.2.kept fun _ _ _ hq hh => ⟨hh, by omega⟩⟩)
          clear hb6 hln htn hxn hst2 H5 HZ5 HT5 HL5
          go_wp2_with (first
            | (with_reducible refine store_p (by with_reducible rfl) _ _ (by with_reducible rfl) w.heap.size (p' := pn) (by first | (simp [Act.eval]; done) | simp [Act.eval, Act.put]) (by first | (simp [Act.eval]; done) | simp [Act.eval, Act.put]) H6.out ?_))
          intro V7 hV7 o7
          have HP5 := Lib.hid hV7
          have ZR := Lib.hid (HZ6.out.off o7)
          have HTZ7 := Lib.hid (HT6.out.off o7)
          have HGN := Lib.hid (And.intro (HGN6.out.1.off o7 (HPT.out.below hV7.below)) (KX.off HGN6.out.2 o7))
          clear hV7 o7 H6 HZ6 HT6 HGN6
          -- the tree of pn is laid behind a copy of the row, at V7: HP5: the state, ZR: the row
          go_upto_region 5 with fail
          have HYO := Lib.hid (rx_one pn.x pn.xa pn.xn pn.xc)
          have ZO := HZO
          refine wp_region_held_drew (S := (fun Y => Below V7.heap.size V7 Y)) (by kernel_rfl) (Below.refl _ V7).drew (fun hS0 => ?_)
          have HB := Lib.hid hS0
          refine wpAnyH_take (i := 1) (v := Value.slice A zs.length cap) rfl (by kernel_rfl) (by kernel_rfl) (by kernel_rfl) (fun _ _ _ h => h) (.inl ⟨by rfl, fun _ _ => by go_simp⟩) hS0 ?_
          refine wpAnyH_take (i := 3) (v := Value.pointer (some ⟨w.heap.size, 5, none⟩)) rfl (by kernel_rfl) (by kernel_rfl) (by kernel_rfl) (fun _ _ _ h => h) (.inl ⟨by rfl, fun _ _ => by go_simp⟩) hS0 ?_
          refine wpAnyH_take (i := 4) (v := rxAgg pn.x (.slice pn.xa pn.xn pn.xc)) rfl (by kernel_rfl) (by kernel_rfl) (by kernel_rfl) (fun _ _ _ h => h) (yields_xr (fun _ h => (HP5.out.call h).xrange) (by rfl) _ rfl rfl) hS0 ?_
          simp only [rxAgg]
          generalize V7.drew = Y0 at *
          clear hS0
          refine wpAnyH_ready (rs := [0, 5]) (by kernel_rfl) (by simp) ?_
          refine AllReadyH.cons rfl (fun K hK => ?_) (AllReadyH.cons rfl (fun K hK => ?_) AllReadyH.nil)
          · skip
            go_simp
            refine hK.out _ _ (HB.out.alloc HB.out.size (.cells #[] 25)) (fun hS0 => ?_)
            clear hK K
            have E0 := Lib.hid (And.intro (Go.heap_alloc_new Y0 (.cells #[] 25)) HB.out.size)
            have HB := Lib.hid (HB.out.alloc HB.out.size (.cells #[] 25))
            generalize Y0.alloc (.cells #[] 25) = Y1 at *
            refine wpAnyH_ready (rs := [2, 5]) (by kernel_rfl) (by simp) ?_
            refine AllReadyH.cons rfl (fun K hK => ?_) (AllReadyH.cons rfl (fun K hK => ?_) AllReadyH.nil)
            · skip
              rw [if_pos (by rfl)]
              obtain ⟨v3, Y2, hr, ho, hb, hke, hob⟩ := copy_run (P := Try.prog) (ty := 23) Try.underlying23 hi0 hz0 hz1 hz2 rfl (by decide) HB.out ZR.out.own ZO.out E0.out.1 E0.out.2 (by unfold maxLen; omega) (by omega)
              refine wp_app _ _ rfl rfl rfl hr ?_
              refine hK.out _ _ hb (fun hS0 => ?_)
              clear hK K hr
              have C3 := Lib.hid ho
              have HB := Lib.hid hb
              clear ho hb hke hob E0
              refine wpAnyH_ready (rs := [5]) (by kernel_rfl) (by simp) ?_
              refine AllReadyH.cons rfl (fun K hK => ?_) AllReadyH.nil
              go_simp
              refine hK.out _ _ (HB.out.alloc HB.out.size (.cells #[.int .i64 (pn.x.kind : Int), .int .i64 pn.x.rune, .int .i64 pn.x.to, .slice pn.xa pn.xn pn.xc, .int .i64 pn.x.min, .int .i64 pn.x.max, .bool pn.x.lazy, .bool pn.x.not, .int .i64 (pn.x.group : Int), .string ⟨pn.x.name.toArray⟩] 25)) (fun hS0 => ?_)
              clear hK K
              have F5 := Lib.hid (Go.heap_alloc_new Y2 (.cells #[.int .i64 (pn.x.kind : Int), .int .i64 pn.x.rune, .int .i64 pn.x.to, .slice pn.xa pn.xn pn.xc, .int .i64 pn.x.min, .int .i64 pn.x.max, .bool pn.x.lazy, .bool pn.x.not, .int .i64 (pn.x.group : Int), .string ⟨pn.x.name.toArray⟩] 25))
              have C3 := Lib.hid (rowns_below C3.out ((Below.refl _ Y2).alloc (Nat.le_refl _) (.cells #[.int .i64 (pn.x.kind : Int), .int .i64 pn.x.rune, .int .i64 pn.x.to, .slice pn.xa pn.xn pn.xc, .int .i64 pn.x.min, .int .i64 pn.x.max, .bool pn.x.lazy, .bool pn.x.not, .int .i64 (pn.x.group : Int), .string ⟨pn.x.name.toArray⟩] 25)))
              have HB := Lib.hid (HB.out.alloc HB.out.size (.cells #[.int .i64 (pn.x.kind : Int), .int .i64 pn.x.rune, .int .i64 pn.x.to, .slice pn.xa pn.xn pn.xc, .int .i64 pn.x.min, .int .i64 pn.x.max, .bool pn.x.lazy, .bool pn.x.not, .int .i64 (pn.x.group : Int), .string ⟨pn.x.name.toArray⟩] 25))
              generalize Y2.alloc (.cells #[.int .i64 (pn.x.kind : Int), .int .i64 pn.x.rune, .int .i64 pn.x.to, .slice pn.xa pn.xn pn.xc, .int .i64 pn.x.min, .int .i64 pn.x.max, .bool pn.x.lazy, .bool pn.x.not, .int .i64 (pn.x.group : Int), .string ⟨pn.x.name.toArray⟩] 25) = Y3 at *
              refine wpAnyH_ready (rs := [6]) (by kernel_rfl) (by simp) ?_
              refine AllReadyH.cons rfl (fun K hK => ?_) AllReadyH.nil
              rw [if_pos (by rfl)]
              obtain ⟨v6, Y4, hr, ho, hb⟩ := push_run (P := Try.prog) (ty := 23) Try.underlying23 hi0 hz0 hz1 hz2 rfl (by decide) HB.out C3.out F5.out rfl HYO.out (by unfold maxLen; omega) (by omega)
              refine wp_app _ _ rfl rfl rfl hr ?_
              refine hK.out _ _ hb (fun hS0 => ?_)
              clear hK K hr
              have C6 := Lib.hid ho
              have HB := Lib.hid hb
              clear ho hb C3 F5
              refine wpAnyH_ready (rs := [7]) (by kernel_rfl) (by simp) ?_
              refine AllReadyH.cons rfl (fun K hK => ?_) AllReadyH.nil
              go_simp
              refine hK.out _ _ HB.out (fun hS0 => ?_)
              clear hK K hS0
              refine wpAnyH_done (by kernel_rfl) ?_ _
              have HR := Lib.hid (ZR.out.pushed HP5.out.size C6.out)
              have H9 := Lib.hid (HP5.out.call HB.out)
              have HG9 := Lib.hid (And.intro (HGN.out.1.below HB.out) (KX.off HGN.out.2 (OffP.call HB.out)))
              have HT9 := Lib.hid (HTZ7.out.below HB.out)
              go_wp2_with fail
              go_roundg (f + 1)
              case measure => omega
              case rel =>
                refine ⟨pn, zs ++ [(pn.x, .slice pn.xa pn.xn pn.xc)], H9.out, HR.out, by simp; omega, by simp, .inl ⟨s2, f, x0, xs ++ [pn.x], Nat.le_refl _, ?_, hd2, by omega, by simp; omega, HST.out⟩⟩
                exact ⟨HG9.out.1, by simp [HHD.out], ZV.snoc HT9.out HG9.out.2, fun e => absurd e (by simp)⟩
            · skip
              go_simp
              refine hK.out _ _ (HB.out.alloc HB.out.size (.cells #[.int .i64 (pn.x.kind : Int), .int .i64 pn.x.rune, .int .i64 pn.x.to, .slice pn.xa pn.xn pn.xc, .int .i64 pn.x.min, .int .i64 pn.x.max, .bool pn.x.lazy, .bool pn.x.not, .int .i64 (pn.x.group : Int), .string ⟨pn.x.name.toArray⟩] 25)) (fun hS0 => ?_)
              clear hK K
              have F5 := Lib.hid (Go.heap_alloc_new Y1 (.cells #[.int .i64 (pn.x.kind : Int), .int .i64 pn.x.rune, .int .i64 pn.x.to, .slice pn.xa pn.xn pn.xc, .int .i64 pn.x.min, .int .i64 pn.x.max, .bool pn.x.lazy, .bool pn.x.not, .int .i64 (pn.x.group : Int), .string ⟨pn.x.name.toArray⟩] 25))
              have E0 := Lib.hid (And.intro ((Below.heap_alloc Y1 (.cells #[.int .i64 (pn.x.kind : Int), .int .i64 pn.x.rune, .int .i64 pn.x.to, .slice pn.xa pn.xn pn.xc, .int .i64 pn.x.min, .int .i64 pn.x.max, .bool pn.x.lazy, .bool pn.x.not, .int .i64 (pn.x.group : Int), .string ⟨pn.x.name.toArray⟩] 25) _ (Array.getElem?_eq_some_iff.1 E0.out.1).1).trans E0.out.1) E0.out.2)
              have HB := Lib.hid (HB.out.alloc HB.out.size (.cells #[.int .i64 (pn.x.kind : Int), .int .i64 pn.x.rune, .int .i64 pn.x.to, .slice pn.xa pn.xn pn.xc, .int .i64 pn.x.min, .int .i64 pn.x.max, .bool pn.x.lazy, .bool pn.x.not, .int .i64 (pn.x.group : Int), .string ⟨pn.x.name.toArray⟩] 25))
              generalize Y1.alloc (.cells #[.int .i64 (pn.x.kind : Int), .int .i64 pn.x.rune, .int .i64 pn.x.to, .slice pn.xa pn.xn pn.xc, .int .i64 pn.x.min, .int .i64 pn.x.max, .bool pn.x.lazy, .bool pn.x.not, .int .i64 (pn.x.group : Int), .string ⟨pn.x.name.toArray⟩] 25) = Y2 at *
              refine wpAnyH_ready (rs := [2]) (by kernel_rfl) (by simp) ?_
              refine AllReadyH.cons rfl (fun K hK => ?_) AllReadyH.nil
              rw [if_pos (by rfl)]
              obtain ⟨v3, Y3, hr, ho, hb, hke, hob⟩ := copy_run (P := Try.prog) (ty := 23) Try.underlying23 hi0 hz0 hz1 hz2 rfl (by decide) HB.out ZR.out.own ZO.out E0.out.1 E0.out.2 (by unfold maxLen; omega) (by omega)
              refine wp_app _ _ rfl rfl rfl hr ?_
              refine hK.out _ _ hb (fun hS0 => ?_)
              clear hK K hr
              have C3 := Lib.hid ho
              have HB := Lib.hid hb
              have F5 := Lib.hid (hke _ _ F5.out (cells_ne F5.out E0.out.1 rfl))
              clear ho hb hke hob E0
              refine wpAnyH_ready (rs := [6]) (by kernel_rfl) (by simp) ?_
              refine AllReadyH.cons rfl (fun K hK => ?_) AllReadyH.nil
              rw [if_pos (by rfl)]
              obtain ⟨v6, Y4, hr, ho, hb⟩ := push_run (P := Try.prog) (ty := 23) Try.underlying23 hi0 hz0 hz1 hz2 rfl (by decide) HB.out C3.out F5.out rfl HYO.out (by unfold maxLen; omega) (by omega)
              refine wp_app _ _ rfl rfl rfl hr ?_
              refine hK.out _ _ hb (fun hS0 => ?_)
              clear hK K hr
              have C6 := Lib.hid ho
              have HB := Lib.hid hb
              clear ho hb C3 F5
              refine wpAnyH_ready (rs := [7]) (by kernel_rfl) (by simp) ?_
              refine AllReadyH.cons rfl (fun K hK => ?_) AllReadyH.nil
              go_simp
              refine hK.out _ _ HB.out (fun hS0 => ?_)
              clear hK K hS0
              refine wpAnyH_done (by kernel_rfl) ?_ _
              have HR := Lib.hid (ZR.out.pushed HP5.out.size C6.out)
              have H9 := Lib.hid (HP5.out.call HB.out)
              have HG9 := Lib.hid (And.intro (HGN.out.1.below HB.out) (KX.off HGN.out.2 (OffP.call HB.out)))
              have HT9 := Lib.hid (HTZ7.out.below HB.out)
              go_wp2_with fail
              go_roundg (f + 1)
              case measure => omega
              case rel =>
                refine ⟨pn, zs ++ [(pn.x, .slice pn.xa pn.xn pn.xc)], H9.out, HR.out, by simp; omega, by simp, .inl ⟨s2, f, x0, xs ++ [pn.x], Nat.le_refl _, ?_, hd2, by omega, by simp; omega, HST.out⟩⟩
                exact ⟨HG9.out.1, by simp [HHD.out], ZV.snoc HT9.out HG9.out.2, fun e => absurd e (by simp)⟩
          · skip
            go_simp
            refine hK.out _ _ (HB.out.alloc HB.out.size (.cells #[.int .i64 (pn.x.kind : Int), .int .i64 pn.x.rune, .int .i64 pn.x.to, .slice pn.xa pn.xn pn.xc, .int .i64 pn.x.min, .int .i64 pn.x.max, .bool pn.x.lazy, .bool pn.x.not, .int .i64 (pn.x.group : Int), .string ⟨pn.x.name.toArray⟩] 25)) (fun hS0 => ?_)
            clear hK K
            have F5 := Lib.hid (Go.heap_alloc_new Y0 (.cells #[.int .i64 (pn.x.kind : Int), .int .i64 pn.x.rune, .int .i64 pn.x.to, .slice pn.xa pn.xn pn.xc, .int .i64 pn.x.min, .int .i64 pn.x.max, .bool pn.x.lazy, .bool pn.x.not, .int .i64 (pn.x.group : Int), .string ⟨pn.x.name.toArray⟩] 25))
            have HB := Lib.hid (HB.out.alloc HB.out.size (.cells #[.int .i64 (pn.x.kind : Int), .int .i64 pn.x.rune, .int .i64 pn.x.to, .slice pn.xa pn.xn pn.xc, .int .i64 pn.x.min, .int .i64 pn.x.max, .bool pn.x.lazy, .bool pn.x.not, .int .i64 (pn.x.group : Int), .string ⟨pn.x.name.toArray⟩] 25))
            generalize Y0.alloc (.cells #[.int .i64 (pn.x.kind : Int), .int .i64 pn.x.rune, .int .i64 pn.x.to, .slice pn.xa pn.xn pn.xc, .int .i64 pn.x.min, .int .i64 pn.x.max, .bool pn.x.lazy, .bool pn.x.not, .int .i64 (pn.x.group : Int), .string ⟨pn.x.name.toArray⟩] 25) = Y1 at *
            refine wpAnyH_ready (rs := [0]) (by kernel_rfl) (by simp) ?_
            refine AllReadyH.cons rfl (fun K hK => ?_) AllReadyH.nil
            go_simp
            refine hK.out _ _ (HB.out.alloc HB.out.size (.cells #[] 25)) (fun hS0 => ?_)
            clear hK K
            have E0 := Lib.hid (And.intro (Go.heap_alloc_new Y1 (.cells #[] 25)) HB.out.size)
            have HB := Lib.hid (HB.out.alloc HB.out.size (.cells #[] 25))
            have F5 := Lib.hid ((Below.heap_alloc Y1 (.cells #[] 25) _ (Array.getElem?_eq_some_iff.1 F5.out).1).trans F5.out)
            generalize Y1.alloc (.cells #[] 25) = Y2 at *
            refine wpAnyH_ready (rs := [2]) (by kernel_rfl) (by simp) ?_
            refine AllReadyH.cons rfl (fun K hK => ?_) AllReadyH.nil
            rw [if_pos (by rfl)]
            obtain ⟨v3, Y3, hr, ho, hb, hke, hob⟩ := copy_run (P := Try.prog) (ty := 23) Try.underlying23 hi0 hz0 hz1 hz2 rfl (by decide) HB.out ZR.out.own ZO.out E0.out.1 E0.out.2 (by unfold maxLen; omega) (by omega)
            refine wp_app _ _ rfl rfl rfl hr ?_
            refine hK.out _ _ hb (fun hS0 => ?_)
            clear hK K hr
            have C3 := Lib.hid ho
            have HB := Lib.hid hb
            have F5 := Lib.hid (hke _ _ F5.out (cells_ne F5.out E0.out.1 rfl))
            clear ho hb hke hob E0
            refine wpAnyH_ready (rs := [6]) (by kernel_rfl) (by simp) ?_
            refine AllReadyH.cons rfl (fun K hK => ?_) AllReadyH.nil
            rw [if_pos (by rfl)]
            obtain ⟨v6, Y4, hr, ho, hb⟩ := push_run (P := Try.prog) (ty := 23) Try.underlying23 hi0 hz0 hz1 hz2 rfl (by decide) HB.out C3.out F5.out rfl HYO.out (by unfold maxLen; omega) (by omega)
            refine wp_app _ _ rfl rfl rfl hr ?_
            refine hK.out _ _ hb (fun hS0 => ?_)
            clear hK K hr
            have C6 := Lib.hid ho
            have HB := Lib.hid hb
            clear ho hb C3 F5
            refine wpAnyH_ready (rs := [7]) (by kernel_rfl) (by simp) ?_
            refine AllReadyH.cons rfl (fun K hK => ?_) AllReadyH.nil
            go_simp
            refine hK.out _ _ HB.out (fun hS0 => ?_)
            clear hK K hS0
            refine wpAnyH_done (by kernel_rfl) ?_ _
            have HR := Lib.hid (ZR.out.pushed HP5.out.size C6.out)
            have H9 := Lib.hid (HP5.out.call HB.out)
            have HG9 := Lib.hid (And.intro (HGN.out.1.below HB.out) (KX.off HGN.out.2 (OffP.call HB.out)))
            have HT9 := Lib.hid (HTZ7.out.below HB.out)
            go_wp2_with fail
            go_roundg (f + 1)
            case measure => omega
            case rel =>
              refine ⟨pn, zs ++ [(pn.x, .slice pn.xa pn.xn pn.xc)], H9.out, HR.out, by simp; omega, by simp, .inl ⟨s2, f, x0, xs ++ [pn.x], Nat.le_refl _, ?_, hd2, by omega, by simp; omega, HST.out⟩⟩
              exact ⟨HG9.out.1, by simp [HHD.out], ZV.snoc HT9.out HG9.out.2, fun e => absurd e (by simp)⟩
      · have z1 : (due l s'.pos == 124) = false := beq_false_of_ne h124
        have HE3 := Lib.hid (show AltE L l w.heap.size wr (altR L.free l rec s) pr zs from .inl ⟨s', x0, xs, HGG.out, by rw [HREL.out, alts_end h124]; simp [PR.bind]⟩)
        clear h124 HREL
        generalize due l s'.pos = d at *
        have KD := Lib.hid kd
        clear kd
        go_wp2_with (first
          | (with_reducible refine load_pG (by with_unfolding_all rfl) _ (by with_reducible rfl) w.heap.size (by first | (simp [Act.eval]; done) | simp [Act.eval, Act.put]) H3.out ?_)
          | (go_at_call 55; (with_reducible refine (KD.out _ HGG.out.lv).mono ?_)))
        rintro e w4 ⟨rfl, hb4⟩
        have HPW := Lib.hid (H3.out.call hb4)
        have HZ := Lib.hid (HZ3.out.below hb4)
        have HE := Lib.hid (HE3.out.off (OffP.call hb4) (HPT.out.below HPW.out.below))
        clear hb4 c16 HZ3 H3 HE3
        -- HE: AltE at the world w4, HPW: the state pr there, HZ: the row there
        match zs, HZ, hzl, hz1', HE with
        | [], HZ, hzl, hz1', HE => exact absurd rfl hz1'.out
        | [y], HZ, hzl, hz1', HE =>
          have HEQ := Lib.hid (show AltE L l w.heap.size w4 (altR L.free l rec s) pr [y] from HE.out)
          clear HE HZ
          go_wp2_with (first
            | (with_reducible refine load_p (by with_reducible rfl) _ (by with_reducible rfl) w.heap.size (by first | (simp [Act.eval]; done) | simp [Act.eval, Act.put]) HPW.out ?_)
            | (with_reducible refine store_r (by with_reducible rfl) _ _ (by with_reducible rfl) (w.heap.size + 1) (p' := pr) (by first | (simp [Act.eval]; done) | simp [Act.eval, Act.put]) (by first | (simp [Act.eval]; done) | simp [Act.eval, Act.put]) HPW.out ?_))
          intro W2 h2 b2 o2
          go_wp2
          refine ret_p (k := 2) Try.results31 h2 (by first | (simp; done) | simp [Act.put]) rfl ?_
          rcases HEQ.out.off o2 (HPT.out.below b2) with ⟨s1, x0, xs, h4, h5⟩ | ⟨a, m, h4, h5⟩
          · have hxs : xs = [] := by have := h4.heads; simp at this; exact this.2
            subst hxs
            obtain ⟨h6, h7, h8⟩ := h4.last rfl
            rw [h5]
            exact ⟨pr, rfl, h4.lv, h6, ⟨by rw [h6]; exact h7, by rw [h6]; exact h8⟩, b2⟩
          · rw [h5]; exact ⟨pr, rfl, h4, b2⟩
        | y1 :: y2 :: ys, HZ, hzl, hz1', HE =>
          have HEQ := Lib.hid (show AltE L l w.heap.size w4 (altR L.free l rec s) pr (y1 :: y2 :: ys) from HE.out)
          have hsq : ∀ x0 xs, (y1 :: y2 :: ys).map Prod.fst = x0 :: xs → altOf x0 xs = rxAlt ((y1 :: y2 :: ys).map Prod.fst) := fun x0 xs e => by
            have e2 := e
            rw [List.map_cons, List.map_cons] at e2
            injection e2 with e3 e4
            rw [e, ← e4]; rfl
          have hm2 : 2 ≤ (y1 :: y2 :: ys).length := by simp
          clear HE
          generalize y1 :: y2 :: ys = zs at *
          have KTO := Lib.hid (fun W => show Calls Try.prog 57 #[pAgg L pr, .agg #[.int .i64 7, .int .i64 0, .int .i64 0, .slice A zs.length cap, .int .i64 0, .int .i64 0, .bool false, .bool false, .int .i64 0, .string ⟨#[]⟩]] W (RetE (pAgg L (toldX pr (rxAlt (zs.map Prod.fst)) A zs.length cap)) fun w' => Below W.heap.size W w') from rfTold L pr (rxAlt (zs.map Prod.fst)) A zs.length cap W)
          have HSQ := Lib.hid hsq
          have HLK := Lib.hid (show (rxAlt (zs.map Prod.fst)).kids.length = zs.length by simp [rxAlt, Rx.kids])
          clear hsq
          generalize zs.length = m at *
          have y1 : ((m : Int) == 1) = false := beq_false_of_ne (by omega)
          go_wp2_with (first
            | (with_reducible refine load_p (by with_reducible rfl) _ (by with_reducible rfl) w.heap.size (by first | (simp [Act.eval]; done) | simp [Act.eval, Act.put]) HPW.out ?_)
            | (go_at_call 57; (with_reducible refine (KTO.out _).mono ?_)))
          rintro e w9 ⟨rfl, hb9⟩
          have H9 := Lib.hid (HPW.out.call hb9)
          have HB9 := Lib.hid (OffP.call hb9)
          clear hb9
          go_wp2_with (first
            | (with_reducible refine store_r (by with_reducible rfl) _ _ (by with_reducible rfl) (w.heap.size + 1) (p' := toldX pr (rxAlt (zs.map Prod.fst)) A m cap) (by first | (simp [Act.eval]; done) | simp [Act.eval, Act.put]) (by first | (simp [Act.eval]; done) | simp [Act.eval, Act.put]) H9.out ?_))
          intro W2 h2 b2 o2
          go_wp2
          refine ret_p (k := 2) Try.results31 h2 (by first | (simp; done) | simp [Act.put]) rfl ?_
          have ho := HB9.out.trans o2
          rcases HEQ.out.off ho (HPT.out.below b2) with ⟨s1, x0, xs, h4, h5⟩ | ⟨a, m', h4, h5⟩
          · rw [h5, HSQ.out x0 xs h4.heads]
            have hk := TrZ.kids (HZ.out.off ho) h4.tr (t := rxAlt (zs.map Prod.fst)) rfl
            have e9 := HLK.out
            have hr := RxP.ok_of (w := w) (x := rxAlt (zs.map Prod.fst)) (A := A) (c := cap) h4.lv (by rw [e9]; exact hk) b2
            rw [e9] at hr
            exact hr
          · rw [h5]; exact RxP.bad_of h4 _ _ _ _ b2
    · have z16 : (pr.bad == 0) = false := by simp [hbx.ne0]
      have HE := Lib.hid (show AltE L l w.heap.size wr (altR L.free l rec s) pr zs from .inr ⟨a, m, hbx, hrel.out⟩)
      obtain ⟨w4, hw4⟩ : ∃ W, W = wr := ⟨_, rfl⟩
      rw [← hw4] at H3 HZ3 HE c16 ⊢
      have HPW := H3
      have HZ := HZ3
      clear hw4 hbx hrel H3 HZ3
      -- HE: AltE at the world w4, HPW: the state pr there, HZ: the row there
      match zs, HZ, hzl, hz1', HE with
      | [], HZ, hzl, hz1', HE => exact absurd rfl hz1'.out
      | [y], HZ, hzl, hz1', HE =>
        have HEQ := Lib.hid (show AltE L l w.heap.size w4 (altR L.free l rec s) pr [y] from HE.out)
        clear HE HZ
        go_wp2_with (first
          | (with_reducible refine load_p (by with_reducible rfl) _ (by with_reducible rfl) w.heap.size (by first | (simp [Act.eval]; done) | simp [Act.eval, Act.put]) HPW.out ?_)
          | (with_reducible refine store_r (by with_reducible rfl) _ _ (by with_reducible rfl) (w.heap.size + 1) (p' := pr) (by first | (simp [Act.eval]; done) | simp [Act.eval, Act.put]) (by first | (simp [Act.eval]; done) | simp [Act.eval, Act.put]) HPW.out ?_))
        intro W2 h2 b2 o2
        go_wp2
        refine ret_p (k := 2) Try.results31 h2 (by first | (simp; done) | simp [Act.put]) rfl ?_
        rcases HEQ.out.off o2 (HPT.out.below b2) with ⟨s1, x0, xs, h4, h5⟩ | ⟨a, m, h4, h5⟩
        · have hxs : xs = [] := by have := h4.heads; simp at this; exact this.2
          subst hxs
          obtain ⟨h6, h7, h8⟩ := h4.last rfl
          rw [h5]
          exact ⟨pr, rfl, h4.lv, h6, ⟨by rw [h6]; exact h7, by rw [h6]; exact h8⟩, b2⟩
        · rw [h5]; exact ⟨pr, rfl, h4, b2⟩
      | y1 :: y2 :: ys, HZ, hzl, hz1', HE =>
        have HEQ := Lib.hid (show AltE L l w.heap.size w4 (altR L.free l rec s) pr (y1 :: y2 :: ys) from HE.out)
        have hsq : ∀ x0 xs, (y1 :: y2 :: ys).map Prod.fst = x0 :: xs → altOf x0 xs = rxAlt ((y1 :: y2 :: ys).map Prod.fst) := fun x0 xs e => by
          have e2 := e
          rw [List.map_cons, List.map_cons] at e2
          injection e2 with e3 e4
          rw [e, ← e4]; rfl
        have hm2 : 2 ≤ (y1 :: y2 :: ys).length := by simp
        clear HE
        generalize y1 :: y2 :: ys = zs at *
        have KTO := Lib.hid (fun W => show Calls Try.prog 57 #[pAgg L pr, .agg #[.int .i64 7, .int .i64 0, .int .i64 0, .slice A zs.length cap, .int .i64 0, .int .i64 0, .bool false, .bool false, .int .i64 0, .string ⟨#[]⟩]] W (RetE (pAgg L (toldX pr (rxAlt (zs.map Prod.fst)) A zs.length cap)) fun w' => Below W.heap.size W w') from rfTold L pr (rxAlt (zs.map Prod.fst)) A zs.length cap W)
        have HSQ := Lib.hid hsq
        have HLK := Lib.hid (show (rxAlt (zs.map Prod.fst)).kids.length = zs.length by simp [rxAlt, Rx.kids])
        clear hsq
        generalize zs.length = m at *
        have y1 : ((m : Int) == 1) = false := beq_false_of_ne (by omega)
        go_wp2_with (first
          | (with_reducible refine load_p (by with_reducible rfl) _ (by with_reducible rfl) w.heap.size (by first | (simp [Act.eval]; done) | simp [Act.eval, Act.put]) HPW.out ?_)
          | (go_at_call 57; (with_reducible refine (KTO.out _).mono ?_)))
        rintro e w9 ⟨rfl, hb9⟩
        have H9 := Lib.hid (HPW.out.call hb9)
        have HB9 := Lib.hid (OffP.call hb9)
        clear hb9
        go_wp2_with (first
          | (with_reducible refine store_r (by with_reducible rfl) _ _ (by with_reducible rfl) (w.heap.size + 1) (p' := toldX pr (rxAlt (zs.map Prod.fst)) A m cap) (by first | (simp [Act.eval]; done) | simp [Act.eval, Act.put]) (by first | (simp [Act.eval]; done) | simp [Act.eval, Act.put]) H9.out ?_))
        intro W2 h2 b2 o2
        go_wp2
        refine ret_p (k := 2) Try.results31 h2 (by first | (simp; done) | simp [Act.put]) rfl ?_
        have ho := HB9.out.trans o2
        rcases HEQ.out.off ho (HPT.out.below b2) with ⟨s1, x0, xs, h4, h5⟩ | ⟨a, m', h4, h5⟩
        · rw [h5, HSQ.out x0 xs h4.heads]
          have hk := TrZ.kids (HZ.out.off ho) h4.tr (t := rxAlt (zs.map Prod.fst)) rfl
          have e9 := HLK.out
          have hr := RxP.ok_of (w := w) (x := rxAlt (zs.map Prod.fst)) (A := A) (c := cap) h4.lv (by rw [e9]; exact hk) b2
          rw [e9] at hr
          exact hr
        · rw [h5]; exact RxP.bad_of h4 _ _ _ _ b2

end Go.Proofs.Ytoniccokohjenaa
