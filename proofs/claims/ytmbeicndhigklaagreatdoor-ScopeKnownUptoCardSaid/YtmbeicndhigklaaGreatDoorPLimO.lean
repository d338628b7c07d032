/-
The walk of limb's Parse.
-/
import Derived.Test.YtmbeicndhigklaaGreatDoorPNum4
import Derived.Lib.Strings
import Derived.Lib.ConvBytes
namespace Go.Proofs.YtmbeicndhigklaaGreatDoor
open Lib (hid)
open Go.RowKit
def bytesN (s:ByteArray):List Nat:=s.data.toList.map UInt8.toNat
theorem bytesN_len (s:ByteArray):(bytesN s).length=s.size:=by unfold bytesN;rw [List.length_map];rfl
theorem bytesN_at (s:ByteArray) (k:Nat) (h:k<s.size):(bytesN s).getD k 0=s[k].toNat:=by
 have h2:k<(bytesN s).length:=by rw [bytesN_len];exact h
 rw [List.getD,List.getElem?_eq_getElem h2]
 simp [bytesN]
 rfl
theorem bytesN_extract (s:ByteArray) (a b:Nat):bytesN (s.extract a b)=((bytesN s).drop a).take (b-a):=by
 unfold bytesN
 rw [Lib.extract_data,List.map_take,List.map_drop]
theorem bytesBelow (w:World) (E:TypeId) (s:ByteArray):Below w.heap.size w (Lib.bytesWorld w E s):=
 ⟨rfl,rfl,rfl,by rw [Lib.bytesWorld_size];omega,fun k hk=>Lib.bytesWorld_at_old w E s k hk⟩
theorem bytesN_getD (s:ByteArray) (j:Nat):(s.data.toList.getD j 0).toNat=(bytesN s).getD j 0:=by
 unfold bytesN
 simp only [List.getD,List.getElem?_map]
 cases s.data.toList[j]? <;> rfl
theorem dec_take_step (T:List Nat) (j:Nat) (hj:j<T.length):decD (T.take (j+1))=10 * decD (T.take j)+T.getD j 0:=by
 rw [List.take_succ_eq_append_getElem hj,dec_snoc,List.getD,List.getElem?_eq_getElem hj];rfl
theorem dec_take_lt (T:List Nat) (j:Nat) (h:∀x∈T,x<10) (hj:j≤8):decD (T.take j)<100000000:=by
 have h1:=dec_lt (T.take j) (fun x hx=>h x (List.mem_of_mem_take hx))
 have h2:(T.take j).length≤8:=by rw [List.length_take];omega
 have h3:10 ^ (T.take j).length≤10 ^ 8:=Nat.pow_le_pow_right (by decide) h2
 omega
def okP (l:List Nat):Bool:=!l.isEmpty&&l.all fun b=>decide (48≤b)&&decide (b≤57)
def digsOf (l:List Nat):List Nat:=l.map (·-48)
theorem digsOf_getD (l:List Nat) (j:Nat) (hj:j<l.length):(digsOf l).getD j 0=l.getD j 0-48:=by
 unfold digsOf
 simp only [List.getD,List.getElem?_map,List.getElem?_eq_getElem hj]
 rfl
theorem okP_bad (l:List Nat) (k:Nat) (h:k<l.length) (hb:¬(48≤l.getD k 0∧l.getD k 0≤57)):okP l=false:=by
 cases e:okP l with
 | false=>rfl
 | true=>
  exfalso
  unfold okP at e
  rw [Bool.and_eq_true,List.all_eq_true] at e
  have:=e.2 (l.getD k 0) (by rw [List.getD,List.getElem?_eq_getElem h];exact List.getElem_mem _)
  rw [Bool.and_eq_true,decide_eq_true_iff,decide_eq_true_iff] at this
  exact hb this
theorem okP_good (l:List Nat) (h0:l.length≠0) (h:∀j,j<l.length→48≤l.getD j 0∧l.getD j 0≤57):okP l=true:=by
 unfold okP
 rw [Bool.and_eq_true,List.all_eq_true]
 refine ⟨?_,fun x hx=>?_⟩
 ·cases l with
  | nil=>simp at h0
  | cons=>rfl
 ·obtain ⟨i,hi,rfl⟩:=List.getElem_of_mem hx
  have:=h i hi
  rw [List.getD,List.getElem?_eq_getElem hi] at this
  rw [Bool.and_eq_true,decide_eq_true_iff,decide_eq_true_iff]
  exact this
def IsParse (s:ByteArray) (w w':World) (e:Ending):Prop:=
 (okP (bytesN s)=true∧∃v,e=.returned (.tuple #[v,.int .i64 0])∧OwnN .u32 152 w.heap.size w' v (digs 1000000000 (decD (digsOf (bytesN s))))∧Below w.heap.size w w') ∨
 (okP (bytesN s)=false∧e=.returned (.tuple #[.slice none 0 0,.int .i64 2])∧Below w.heap.size w w')
set_option maxHeartbeats 2000000 in
set_option maxRecDepth 100000 in
theorem parse_any (s:ByteArray) (w:World) (hs:s.size≤17592186044416) :
    Calls Tryz.prog 105 #[.string s] w fun e w'=>IsParse s w w' e:=by
  obtain ⟨i0,hi0,hz0,hz1,hz2⟩:=info_parts info_u32
  by_cases h0:s.size=0
  · have hse:s=⟨#[]⟩:=by
      cases s with | mk a=>cases a with | mk l=>cases l with
        | nil=>rfl
        | cons x l=>simp [ByteArray.size] at h0
    subst hse
    go_enter Tryz.func105,Tryz.ntmps105
    go_wp2
    go_ret2
    exact .inr ⟨by decide,rfl,Below.refl _ _⟩
  · have HB:=hid (okP_bad (bytesN s))
    have HG:=hid (okP_good (bytesN s) (by rw [bytesN_len];exact h0))
    have HLN:=hid (bytesN_len s)
    have HAT:=hid (bytesN_at s)
    have hemp:s.toList.isEmpty=false:=by
      rw [Lib.toList_data]
      cases e:s.data.toList with
      | nil=>exact absurd (by rw [Lib.size_eq,e];rfl) h0
      | cons=>rfl
    go_enter Tryz.func105,Tryz.ntmps105
    go_wp2
    go_loop [14] (fun iv=>∃k:Nat,k≤s.size∧iv=.int .i64 k∧Hid (∀j,j<k→48≤(bytesN s).getD j 0∧(bytesN s).getD j 0≤57)) (fun iv=>s.size-(intOf iv).toNat)
    case atStart=>exact ⟨0,Nat.zero_le _,rfl,fun j hj=>by omega⟩
    case round=>
      obtain ⟨k,hk,rfl,hv⟩:=hrel
      by_cases hlt:k<s.size
      · have hx:=HAT.out k hlt
        have HBK:=hid (HB.out k (by rw [HLN.out];exact hlt))
        rw [hx] at HBK
        have HV2:=hid (show 48≤s[k].toNat∧s[k].toNat≤57→∀j,j<k+1→48≤(bytesN s).getD j 0∧(bytesN s).getD j 0≤57 from fun h j hj=>by
          by_cases hjk:j=k
          · subst hjk;rw [hx];exact h
          · exact hv.out j (by omega))
        clear hx hv
        by_cases h48:(s[k].toNat:Int)<48
        · have HF:=hid (HBK.out (by omega))
          go_wp2
          go_ret2
          exact .inr ⟨HF.out,rfl,Below.refl _ _⟩
        · by_cases h57:(57:Int)<s[k].toNat
          · have HF:=hid (HBK.out (by omega))
            go_wp2
            go_ret2
            exact .inr ⟨HF.out,rfl,Below.refl _ _⟩
          · have HF:=hid (HV2.out (by omega))
            go_wp2
            go_round
            case rel=>exact ⟨k+1,by omega,by go_num,HF.out⟩
            case measure=>simp [intOf];omega
      · obtain rfl:k=s.size:=by omega
        have HOK:=hid (HG.out (by rw [HLN.out];exact hv.out))
        clear HB HG hemp
        have HS9:=hid (show ∀x∈digsOf (bytesN s),x<10 from fun x hx=>by
          unfold digsOf at hx
          rw [List.mem_map] at hx
          obtain ⟨y,hy,rfl⟩:=hx
          obtain ⟨j,hj,rfl⟩:=List.getElem_of_mem hy
          have:=hv.out j (by rw [←HLN.out];exact hj)
          rw [List.getD,List.getElem?_eq_getElem hj] at this
          simp at this
          omega)
        have HSL:=hid (show (digsOf (bytesN s)).length=s.size by unfold digsOf;rw [List.length_map];exact HLN.out)
        have hpz:=ParIn.zero (digsOf (bytesN s))
        rw [HSL.out] at hpz
        have HPZ:=hid hpz
        clear hpz
        go_wp2
        go_loopw [5,6] (fun v ev wr=>∃(m:Nat) (E:Int) (acc:List Nat),ev=.int .i64 E∧m≤s.size∧(E=m∧m+9 * acc.length=s.size∨m=0∧E≤0∧-9<E)∧acc.length≤s.size∧OwnN .u32 152 w.heap.size wr v acc∧Hid (ParIn (digsOf (bytesN s)) m acc)∧Below w.heap.size w wr) (fun _ ev _=>(intOf ev).toNat)
        case atStart=>exact ⟨s.size,s.size,[],rfl,Nat.le_refl _,.inl ⟨rfl,rfl⟩,Nat.zero_le _,OwnN.nil _ _ _ _,HPZ,Below.refl _ _⟩
        case round=>
          obtain ⟨m,E,acc,rfl,hm,hE,hal,hown,hpar,hb⟩:=hrel
          by_cases hE0:0<E
          · obtain ⟨rfl, hmk⟩ : E = m ∧ m + 9 * acc.length = s.size := by rcases hE with h | h
                                                                          · exact h
                                                                          · omega
            clear hE
            by_cases h9:(m:Int)≤9
            · have hm1:m-9=0:=by omega
              have htz:(s.extract 0 m).size=m-0:=by rw [ByteArray.size_extract];omega
              have hTD:digsOf (bytesN (s.extract 0 m))=((digsOf (bytesN s)).drop 0).take (m-0):=by unfold digsOf;rw [bytesN_extract s 0 m,List.map_take,List.map_drop]
              have hstep:=hpar.out.step HS9.out rfl (by rw [HSL.out];exact hmk) (by omega) 0 (by omega)
              rw [←hTD] at hstep
              have HTL:=hid (bytesN_len (s.extract 0 m))
              have HTD:=hid (show ∀j,j<m-0→(bytesN (s.extract 0 m)).getD j 0=(bytesN s).getD (0+j) 0 from fun j hj=>by
                rw [bytesN_extract s 0 m]
                simp only [List.getD,List.getElem?_take,List.getElem?_drop,if_pos hj])
              have hcv:=Lib.run_convert_string_bytes (P:=Tryz.prog) wr 9 122 5 (s.extract 0 m) rfl rfl rfl
              have hcell:=Lib.bytesWorld_cell wr 5 (s.extract 0 m)
              have hbx:=bytesBelow wr 5 (s.extract 0 m)
              have hsx:=Lib.bytesWorld_size wr 5 (s.extract 0 m)
              rw [htz] at hcv hcell HTL
              have HST:=hid hstep
              clear hstep
              generalize hext:s.extract 0 m=t at *
              generalize Lib.bytesWorld wr 5 t=wx at *
              generalize grownCap wr (m-0) 0 5=gc at *
              generalize hd:m-0=d at *
              have hd9:d≤9:=by omega
              have HT9:=hid (show ∀x∈digsOf (bytesN t),x<10 from fun x hx=>by
                rw [hTD] at hx
                exact HS9.out x (List.mem_of_mem_drop (List.mem_of_mem_take hx)))
              have HTZ:=hid (show (digsOf (bytesN t)).length=d by unfold digsOf;rw [List.length_map];exact HTL.out)
              clear hTD
              go_wp2
              go_loop [7,42] (fun nv jv=>∃j n:Nat,j≤d∧jv=.int .i64 j∧nv=.int .u32 n∧n<1000000000∧Hid (n=decD ((digsOf (bytesN t)).take j))) (fun _ jv=>d-(intOf jv).toNat)
              case atStart=>exact ⟨0,0,Nat.zero_le _,rfl,rfl,by omega,by show _ = _;rw [List.take_zero];rfl⟩
              case round=>
                obtain ⟨j,n,hj,rfl,rfl,hn9,hnv⟩:=hrel
                by_cases hjd:j<d
                · have cj:=hcell j hjd
                  rw [bytesN_getD] at cj
                  have hb2:=hv.out (0+j) (by omega)
                  rw [←HTD.out j hjd] at hb2
                  have hn8:=dec_take_lt (digsOf (bytesN t)) j HT9.out (by omega)
                  rw [←hnv.out] at hn8
                  have hdt:=dec_take_step (digsOf (bytesN t)) j (by rw [HTZ.out];exact hjd)
                  rw [←hnv.out,digsOf_getD _ j (by rw [HTL.out];exact hjd)] at hdt
                  have HDT:=hid hdt
                  clear hdt hcell hnv
                  generalize (bytesN t).getD j 0=c at *
                  obtain ⟨hc1,hc2⟩:=hb2
                  go_wp2
                  go_round
                  case rel=>exact ⟨j+1,10 * n+(c-48),by omega,by go_num,by go_num,by omega,HDT.out.symm⟩
                  case measure=>simp [intOf];omega
                · obtain rfl:j=d:=by omega
                  have hnd:n=decD (digsOf (bytesN t)):=by have:=hnv.out;rw [List.take_of_length_le (by rw [HTZ.out];exact Nat.le_refl _)] at this;exact this
                  have hown1:=hown.below hbx
                  have hbw:=hb.trans (hbx.mono hb.size)
                  have hbws:=hbw.size
                  have HND:=hid hnd
                  clear hnd hnv hcell hown hsx
                  go_wp2_with (at_builtin;refine wpList_append_rd _ rfl _ _ 91 rfl w.heap.size wx.heap.size .u32 152 i0 (.int .u32 0) 4 Tryz.underlying91 hi0 hz0 hz1 hz2 rfl _ _ acc [n] rfl rfl (hown1.below (below_alloc0 wx _)) (OwnN.lit .u32 152 wx.heap.size wx n (Nat.le_refl _)) ?c1 ?c2 ?c3 ?_)
                  case c1=>show acc.length+1≤_;unfold maxLen;omega
                  case c2=>show (acc.length+1) * 4≤_;omega
                  case c3=>omega
                  intro v' w' hown' hgrow
                  go_wp2
                  go_roundw
                  case rel=>
                    refine ⟨0,_,acc++[n],rfl,by omega,by first | exact .inr ⟨rfl,by omega,by omega⟩ | (right;refine ⟨rfl,?_,?_⟩ <;> omega),by simp;omega,hown',by show ParIn _ _ _;rw [HND.out];exact HST.out,(hbw.alloc hbws _).grown hgrow (Nat.le_trans hbws (below_alloc0 wx _).size) (fun q hq=>(hown1.block_ge q hq).1)⟩
                  case measure=>simp [intOf];omega
            · have hm1:(m:Int)-9=((m-9:Nat):Int):=by omega
              have hm2:((m:Int)-9).toNat=m-9:=by omega
              have htz:(s.extract (m-9) m).size=m-(m-9):=by rw [ByteArray.size_extract];omega
              have hTD:digsOf (bytesN (s.extract (m-9) m))=((digsOf (bytesN s)).drop (m-9)).take (m-(m-9)):=by unfold digsOf;rw [bytesN_extract s (m-9) m,List.map_take,List.map_drop]
              have hstep:=hpar.out.step HS9.out rfl (by rw [HSL.out];exact hmk) (by omega) (m-9) (by omega)
              rw [←hTD] at hstep
              have HTL:=hid (bytesN_len (s.extract (m-9) m))
              have HTD:=hid (show ∀j,j<m-(m-9)→(bytesN (s.extract (m-9) m)).getD j 0=(bytesN s).getD ((m-9)+j) 0 from fun j hj=>by
                rw [bytesN_extract s (m-9) m]
                simp only [List.getD,List.getElem?_take,List.getElem?_drop,if_pos hj])
              have hcv:=Lib.run_convert_string_bytes (P:=Tryz.prog) wr 9 122 5 (s.extract (m-9) m) rfl rfl rfl
              have hcell:=Lib.bytesWorld_cell wr 5 (s.extract (m-9) m)
              have hbx:=bytesBelow wr 5 (s.extract (m-9) m)
              have hsx:=Lib.bytesWorld_size wr 5 (s.extract (m-9) m)
              rw [htz] at hcv hcell HTL
              have HST:=hid hstep
              clear hstep
              generalize hext:s.extract (m-9) m=t at *
              generalize Lib.bytesWorld wr 5 t=wx at *
              generalize grownCap wr (m-(m-9)) 0 5=gc at *
              generalize hd:m-(m-9)=d at *
              have hd9:d≤9:=by omega
              have HT9:=hid (show ∀x∈digsOf (bytesN t),x<10 from fun x hx=>by
                rw [hTD] at hx
                exact HS9.out x (List.mem_of_mem_drop (List.mem_of_mem_take hx)))
              have HTZ:=hid (show (digsOf (bytesN t)).length=d by unfold digsOf;rw [List.length_map];exact HTL.out)
              clear hTD
              go_wp2
              go_loop [7,42] (fun nv jv=>∃j n:Nat,j≤d∧jv=.int .i64 j∧nv=.int .u32 n∧n<1000000000∧Hid (n=decD ((digsOf (bytesN t)).take j))) (fun _ jv=>d-(intOf jv).toNat)
              case atStart=>exact ⟨0,0,Nat.zero_le _,rfl,rfl,by omega,by show _ = _;rw [List.take_zero];rfl⟩
              case round=>
                obtain ⟨j,n,hj,rfl,rfl,hn9,hnv⟩:=hrel
                by_cases hjd:j<d
                · have cj:=hcell j hjd
                  rw [bytesN_getD] at cj
                  have hb2:=hv.out ((m-9)+j) (by omega)
                  rw [←HTD.out j hjd] at hb2
                  have hn8:=dec_take_lt (digsOf (bytesN t)) j HT9.out (by omega)
                  rw [←hnv.out] at hn8
                  have hdt:=dec_take_step (digsOf (bytesN t)) j (by rw [HTZ.out];exact hjd)
                  rw [←hnv.out,digsOf_getD _ j (by rw [HTL.out];exact hjd)] at hdt
                  have HDT:=hid hdt
                  clear hdt hcell hnv
                  generalize (bytesN t).getD j 0=c at *
                  obtain ⟨hc1,hc2⟩:=hb2
                  go_wp2
                  go_round
                  case rel=>exact ⟨j+1,10 * n+(c-48),by omega,by go_num,by go_num,by omega,HDT.out.symm⟩
                  case measure=>simp [intOf];omega
                · obtain rfl:j=d:=by omega
                  have hnd:n=decD (digsOf (bytesN t)):=by have:=hnv.out;rw [List.take_of_length_le (by rw [HTZ.out];exact Nat.le_refl _)] at this;exact this
                  have hown1:=hown.below hbx
                  have hbw:=hb.trans (hbx.mono hb.size)
                  have hbws:=hbw.size
                  have HND:=hid hnd
                  clear hnd hnv hcell hown hsx
                  go_wp2_with (at_builtin;refine wpList_append_rd _ rfl _ _ 91 rfl w.heap.size wx.heap.size .u32 152 i0 (.int .u32 0) 4 Tryz.underlying91 hi0 hz0 hz1 hz2 rfl _ _ acc [n] rfl rfl (hown1.below (below_alloc0 wx _)) (OwnN.lit .u32 152 wx.heap.size wx n (Nat.le_refl _)) ?c1 ?c2 ?c3 ?_)
                  case c1=>show acc.length+1≤_;unfold maxLen;omega
                  case c2=>show (acc.length+1) * 4≤_;omega
                  case c3=>omega
                  intro v' w' hown' hgrow
                  go_wp2
                  go_roundw
                  case rel=>
                    refine ⟨(m-9),_,acc++[n],rfl,by omega,by left;exact ⟨by omega,by simp;omega⟩,by simp;omega,hown',by show ParIn _ _ _;rw [HND.out];exact HST.out,(hbw.alloc hbws _).grown hgrow (Nat.le_trans hbws (below_alloc0 wx _).size) (fun q hq=>(hown1.block_ge q hq).1)⟩
                  case measure=>simp [intOf];omega
          · obtain rfl:m=0:=by omega
            have HT:=hid hpar.out.done
            obtain ⟨B3,c3,rfl,hcap3,hrd3,_⟩:=hown.rd
            have K6:=hid (trim_any B3 _ c3 _ wr hrd3 hcap3 (by omega))
            go_wp2_with (go_at_call 136;refine K6.out.mono ?_;rintro e w3 ⟨rfl,rfl⟩)
            go_ret2
            exact .inl ⟨HOK.out,_,rfl,hown.trim.asList HT.out,hb⟩
end Go.Proofs.YtmbeicndhigklaaGreatDoor
