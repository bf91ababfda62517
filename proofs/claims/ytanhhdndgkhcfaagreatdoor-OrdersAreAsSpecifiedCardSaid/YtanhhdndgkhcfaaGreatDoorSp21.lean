/- Part 21 of the proof of lawSpec.card: OrdCheck, OrdLimits, OrdGrow, NatRefB, OrdAppend, NatRefC. Conditions: those of each theorem. -/
import Derived.Test.YtanhhdndgkhcfaaGreatDoorSp01
import Derived.Test.YtanhhdndgkhcfaaGreatDoorSp13
import Derived.Test.YtanhhdndgkhcfaaGreatDoorSp20
set_option maxRecDepth 20000
set_option maxHeartbeats 4000000
namespace Go.Proofs.YtanhhdndgkhcfaaGreatDoor
open Go Go.Proofs Go.RowKit
attribute [local go_sem] Oper.semAt_some
attribute [local go_sem ↓] run_eql_rat' run_neq_rat'
theorem oSupply_any(p q r g:Option Addr) (np nq nr ng cp cq cr cg:Nat) (W:World):Calls Tryz.prog 41 #[.agg #[.slice p np cp,.slice q nq cq,.slice r nr cr],.slice g ng cg] W fun e w'=>e=.returned (.agg #[.slice p np cp,.slice g ng cg])/\Turned (fun _=>False) W w':=by
 go_enter Tryz.func41,Tryz.ntmps41;go_wp2_with fail;refine bodyPost_ret (results_cell_row (fn:=Tryz.f41) rfl _ _ (W.heap.size+1) 65 #[.slice p np cp,.slice g ng cg] (0,0) _ rfl (new_second W (.cells #[.slice p np cp,.slice q nq cq,.slice r nr cr] 25) (.cells #[.slice p np cp,.slice g ng cg] 65)) Tryz.underlying65 rfl (by kernel_rfl)) rfl ?_
 exact⟨rfl,((zr W).alloc _).alloc _⟩
theorem oCheck_any(rs:List Rc) (lo hi:List Rv) (cs:List Cl) (rp lp hp cp:Option Addr) (rc lc hc cc:Nat) (W:World) (hf:FcAt W.heap.size W rs lo hi rp lp hp rc lc hc) (hcl:At W.heap.size W 5 claimCells cs cp cc)
  (sl:∀u∈lo,SzR u 20) (sh:∀u∈hi,SzR u 20) (sc:∀c∈cs,SzR c.amt 20) :
  Calls Tryz.prog 19 #[.agg #[.slice rp rs.length rc,.slice lp lo.length lc,.slice hp hi.length hc],.slice cp cs.length cc] W fun e w'=>e=.returned (.int .i64 (ordE rs lo hi cs))/\Turned (fun _=>False) W w':=by
 have HL:=zh (fun A (hA:Turned (fun _=>False) W A)=>hCheck_any rs lo cs rp lp cp rc lc cc A (hf.on hA).riv (hf.on hA).lo (hcl.on hA) (fun u hu=>(sl u hu).mono (by omega)) (fun c hc=>(sc c hc).mono (by omega)))
 have HH:=zh (fun A (hA:Turned (fun _=>False) W A)=>hCheck_any rs hi cs rp hp cp rc hc cc A (hf.on hA).riv (hf.on hA).hi (hcl.on hA) (fun u hu=>(sh u hu).mono (by omega)) (fun c hc=>(sc c hc).mono (by omega)))
 have HV:Hid (ordE rs lo hi cs=if supE rs lo cs≠0 then supE rs lo cs else if supE rs hi cs≠0 then supE rs hi cs else if crossB lo hi=true then 3 else 0):=zh rfl
 have HLN:Hid (supE rs lo cs=0->supE rs hi cs=0->lo.length=rs.length/\hi.length=rs.length):=zh fun h1 h2=>⟨(supE_zero h1).len,(supE_zero h2).len⟩
 have HFC:=zh hf;have HSZ:=zh (And.intro sl sh);have m1:(lo.length:Int)<=9223372036854775807:=by have:=hf.lo.len;unfold maxLen at this;omega
 obtain⟨nr,hnr⟩ : ∃n,rs.length=n:=⟨_,rfl⟩;obtain⟨nl,hnl⟩ : ∃n,lo.length=n:=⟨_,rfl⟩;obtain⟨nh,hnh⟩ : ∃n,hi.length=n:=⟨_,rfl⟩;obtain⟨nc,hnc⟩ : ∃n,cs.length=n:=⟨_,rfl⟩;obtain⟨e1,he1⟩ : ∃v,supE rs lo cs=v:=⟨_,rfl⟩;obtain⟨e2,he2⟩ : ∃v,supE rs hi cs=v:=⟨_,rfl⟩;obtain⟨ov,hov⟩ : ∃v,ordE rs lo hi cs=v:=⟨_,rfl⟩;rw[hnr,hnl,hnc,he1] at HL;rw[hnr,hnh,hnc,he2] at HH;rw[he1,he2,hov] at HV;rw[he1,he2,hnl,hnh,hnr] at HLN;rw[hnl] at m1;rw[hnr,hnl,hnh,hnc,hov];have HNL:=zh hnl;have HNH:=zh hnh;clear hf hcl sl sh sc hnr hnl hnh hnc he1 he2 hov;have T0:=((zr W).alloc (.cells #[.slice rp nr rc,.slice lp nl lc,.slice hp nh hc] 25)).alloc (.cells #[.slice lp nl lc,.slice hp nh hc] 23);have n0:=new_first W (.cells #[.slice rp nr rc,.slice lp nl lc,.slice hp nh hc] 25) (.cells #[.slice lp nl lc,.slice hp nh hc] 23);have n1:=new_second W (.cells #[.slice rp nr rc,.slice lp nl lc,.slice hp nh hc] 25) (.cells #[.slice lp nl lc,.slice hp nh hc] 23);go_enter Tryz.func19,Tryz.ntmps19;go_wp2_with fail;obtain⟨w0,hw0⟩ : ∃w,w=(W.alloc (.cells #[.slice rp nr rc,.slice lp nl lc,.slice hp nh hc] 25)).alloc (.cells #[.slice lp nl lc,.slice hp nh hc] 23):=⟨_,rfl⟩;rw[<- hw0] at T0 n0 n1 ⊢;obtain⟨B,hB⟩ : ∃o,W.heap.size=o:=⟨_,rfl⟩;rw[hB] at n0 n1 ⊢;have HB:=zh (And.intro n0 n1);have HT0:=zh T0;have CE:∀A,Turned (fun _=>False) w0 A->(A.cell? ⟨B,0,none⟩=some (.slice rp nr rc)/\A.cell? ⟨B,1,none⟩=some (.slice lp nl lc)/\A.cell? ⟨B,2,none⟩=some (.slice hp nh hc))/\A.cell? ⟨B+1,0,none⟩=some (.slice lp nl lc)/\A.cell? ⟨B+1,1,none⟩=some (.slice hp nh hc):=fun A hA=>by
  have h0:=keepB hA HB.out.1;have h1:=keepB hA HB.out.2;exact⟨⟨by simp[World.cell?,h0],by simp[World.cell?,h0],by simp[World.cell?,h0]⟩,by simp[World.cell?,h1],by simp[World.cell?,h1]⟩
 have HCE:=zh CE;obtain⟨⟨c0,c1,c2⟩,d0,d1⟩:=CE w0 (Turned.refl _ _);clear hw0 hB T0 n0 n1 CE;refine wp_loop_rounds 3 ?_;rw[rounds_succ];go_wp2_with fail;refine(oSupply_any rp lp hp lp nr nl nh nl rc lc hc lc w0).mono ?_;rintro e w1 ⟨rfl,t1⟩;have HT1:=zh t1;clear c0 c1 c2 d0 d1 t1;go_wp2_with fail;refine(HL.out w1 (HT0.out.trans HT1.out)).mono ?_;rintro e w2 ⟨rfl,t2⟩;have HT2:=zh (HT1.out.trans t2);clear t2 HT1 HL;by_cases g1:e1=0
 ·subst g1;replace HV:=zh (HV.out.trans (if_neg (by simp)))
  obtain⟨⟨c0,c1,c2⟩,d0,d1⟩:=HCE.out w2 HT2.out;go_wp2_with fail;rw[rounds_succ];go_wp2_with fail;refine(oSupply_any rp lp hp hp nr nl nh nh rc lc hc hc w2).mono ?_;rintro e w3 ⟨rfl,t3⟩;have HT3:=zh (HT2.out.trans t3);clear c0 c1 c2 d0 d1 t3;go_wp2_with fail;refine(HH.out w3 (HT0.out.trans HT3.out)).mono ?_;rintro e w4 ⟨rfl,t4⟩;have HT4:=zh (HT3.out.trans t4);clear t4 HT3 HH HT2;by_cases g1:e2=0
  ·subst g1;replace HV:=zh (HV.out.trans (if_neg (by simp)))
   obtain⟨hl1,hl2⟩:=HLN.out (by simp) (by simp)
   subst hl1;subst hl2;have HBL:Hid (crossB lo hi=(List.range nh).any fun g=>decide (gainQ hi g < gainQ lo g)):=zh (by unfold crossB;rw[HNL.out])
   obtain⟨⟨c0,c1,c2⟩,d0,d1⟩:=HCE.out w4 HT4.out;clear HLN;go_wp2_with fail;rw[rounds_succ];go_wp2_with fail;clear c0 c1 c2 d0 d1
   go_loopw [31] (fun i wr=>∃k:Nat,k<=nh/\i=(.int .i64 k)/\Hid (Turned (fun _=>False) w0 wr/\∀g,g < k->¬gainQ hi g < gainQ lo g)) (fun i _=>nh-(intOf i).toNat)
   case atStart=>exact⟨0,Nat.zero_le _,rfl,zh ⟨HT4.out,fun g h=>by omega⟩⟩
   case round =>
    clear HT4;obtain⟨k,hk,rfl,HI⟩:=hrel;by_cases hlt:k < nh
    ·have hx:lo[k]? = some (lo[k]'(by rw[HNL.out];exact hlt)):=List.getElem?_eq_getElem _
     obtain⟨⟨xn,xx,xd⟩,hxe⟩ : ∃u,lo[k]'(by rw[HNL.out];exact hlt)=u:=⟨_,rfl⟩
     rw[hxe] at hx;have hy:hi[k]? = some (hi[k]'(by rw[HNH.out];exact hlt)):=List.getElem?_eq_getElem _
     obtain⟨⟨yn,yx,yd⟩,hye⟩ : ∃u,hi[k]'(by rw[HNH.out];exact hlt)=u:=⟨_,rfl⟩
     rw[hye] at hy;have HX:=zh hx;have HY:=zh hy;have hF:=HFC.out.turned (HT0.out.trans HI.out.1);obtain⟨b,a,rfl,-,e0,e1,e2⟩:=hF.lo.rats hx;obtain⟨b',a',rfl,-,g0,g1,g2⟩:=hF.hi.rats hy;have hq1:qR ⟨xn,xx,xd⟩=gainQ lo k:=by unfold gainQ;rw[getD_of hx]
     have hq2:qR ⟨yn,yx,yd⟩=gainQ hi k:=by unfold gainQ;rw[getD_of hy]
     have HCMP:=zh (fun W=>qCmp_any ⟨xn,xx,xd⟩ ⟨yn,yx,yd⟩ 20 W (by decide) (by decide) (HSZ.out.1 _ (List.mem_of_getElem? hx)) (HSZ.out.2 _ (List.mem_of_getElem? hy)))
     obtain⟨c,hcq⟩ : ∃c,cmpQ (gainQ lo k) (gainQ hi k)=c:=⟨_,rfl⟩;rw[hq1,hq2,hcq] at HCMP;have hcl:=cmpQ_le (p:=gainQ lo k) (q:=gainQ hi k);rw[hcq] at hcl;have HCL:=zh hcl;obtain⟨⟨c0,c1,c2⟩,-,-⟩:=HCE.out wr HI.out.1;have HK0:Hid ((wr.drew.cell? ⟨B,1,none⟩=some (.slice (some ⟨b,a,none⟩) nh lc)/\wr.drew.cell? ⟨B,2,none⟩=some (.slice (some ⟨b',a',none⟩) nh hc))/\(wr.drew.cell? ⟨b,a+k*3,none⟩=some (.bool xn)/\wr.drew.cell? ⟨b,a+k*3+1,none⟩=some (.string xx)/\wr.drew.cell? ⟨b,a+k*3+2,none⟩=some (.string xd))/\(wr.drew.cell? ⟨b',a'+k*3,none⟩=some (.bool yn)/\wr.drew.cell? ⟨b',a'+k*3+1,none⟩=some (.string yx)/\wr.drew.cell? ⟨b',a'+k*3+2,none⟩=some (.string yd))) :=
      zh ⟨⟨cellT (zr wr).drew id c1,cellT (zr wr).drew id c2⟩,⟨cellT (zr wr).drew id e0,cellT (zr wr).drew id e1,cellT (zr wr).drew id e2⟩,cellT (zr wr).drew id g0,cellT (zr wr).drew id g1,cellT (zr wr).drew id g2⟩
     have HD:=zh (HI.out.1.drew);have hk0:(0:Int)<=k:=by omega
     have hk1:(k:Int) < nh:=by omega
     clear hx hxe hy hye hF e0 e1 e2 g0 g1 g2 hq1 hq2 hcq hcl c0 c1 c2;go_wp2_with fail
     go_region_held3 (fun V=>(V.cell? ⟨B,1,none⟩=some (.slice (some ⟨b,a,none⟩) nh lc)/\V.cell? ⟨B,2,none⟩=some (.slice (some ⟨b',a',none⟩) nh hc))/\(V.cell? ⟨b,a+k*3,none⟩=some (.bool xn)/\V.cell? ⟨b,a+k*3+1,none⟩=some (.string xx)/\V.cell? ⟨b,a+k*3+2,none⟩=some (.string xd))/\(V.cell? ⟨b',a'+k*3,none⟩=some (.bool yn)/\V.cell? ⟨b',a'+k*3+1,none⟩=some (.string yx)/\V.cell? ⟨b',a'+k*3+2,none⟩=some (.string yd)))
      (first | exact HK1.out | exact HK0.out | go_keep)
      (first | (go_at_call 30;refine(HCMP.out _).mono ?_;rintro e w5 ⟨rfl,t5⟩;have HT5:=zh (HD.out.trans t5);have HK1:Hid _:=zh (And.intro (And.intro (cellT t5 id HK0.out.1.1) (cellT t5 id HK0.out.1.2)) (And.intro (And.intro (cellT t5 id HK0.out.2.1.1) (And.intro (cellT t5 id HK0.out.2.1.2.1) (cellT t5 id HK0.out.2.1.2.2))) (And.intro (cellT t5 id HK0.out.2.2.1) (And.intro (cellT t5 id HK0.out.2.2.2.1) (cellT t5 id HK0.out.2.2.2.2)))));clear t5))
     by_cases h0:0 < c
     ·have HBT:Hid (crossB lo hi=true):=zh (by
       rw[HBL.out,List.any_eq_true];refine⟨k,List.mem_range.2 hlt,decide_eq_true ?_⟩;have:=HCL.out;exact Rat.not_le.1 fun h=>by have:=this.2 h;omega)
      replace HV:=zh (HV.out.trans (if_pos HBT.out));go_wp2_with fail;go_ret;rw[HV.out];exact⟨rfl,HT0.out.trans HT5.out⟩
     ·have HG:Hid (Turned (fun _=>False) w0 w5/\∀g,g < k+1->¬gainQ hi g < gainQ lo g):=zh ⟨HT5.out,fun g hg=>by
       rcases Nat.lt_or_ge g k with h1 | h1
       ·exact HI.out.2 g h1
       ·obtain rfl:g=k:=by omega
        exact Rat.not_lt.2 (HCL.out.1 (by omega))⟩
      go_wp2_with fail
      go_roundw
      case rel=>exact⟨k+1,by omega,by go_num,HG⟩
      case measure=>simp[intOf];omega
    ·obtain rfl:k=nh:=by omega
     have HBF:Hid (crossB lo hi=false):=zh (by
      rw[HBL.out,List.any_eq_false];intro g hg;rw[decide_eq_true_eq];exact HI.out.2 g (List.mem_range.1 hg))
     replace HV:=zh (HV.out.trans (if_neg (by rw[HBF.out];simp)))
     go_wp2_with fail;go_ret;rw[HV.out];exact⟨rfl,HT0.out.trans HI.out.1⟩
  ·have g2:(e2 == 0)=false:=by simpa using g1
   have g3:(e2 != 0)=true:=by simpa using g1
   replace HV:=zh (HV.out.trans (if_pos g1));clear g1;go_wp2_with fail;go_ret;rw[HV.out];exact⟨rfl,HT0.out.trans HT4.out⟩
 ·have g2:(e1 == 0)=false:=by simpa using g1
  have g3:(e1 != 0)=true:=by simpa using g1
  replace HV:=zh (HV.out.trans (if_pos g1));clear g1;go_wp2_with fail;go_ret;rw[HV.out];exact⟨rfl,HT0.out.trans HT2.out⟩
attribute [local go_sem ↓] run_eql_rat' run_neq_rat'
theorem three_out{fn:Func} {t u v:Tmp} (h:fn.results=#[.tmp t,.tmp u,.tmp v]) (tmps:Array Value) (P:Program) (w:World):(results fn tmps).run P w=.ok (.tuple #[tmps.getD t undef,tmps.getD u undef,tmps.getD v undef]) w:=by
 simp[results,h]
structure OIn (W:World) (rs:List Rc) (lo hi:List Rv) (cs:List Cl) (rp lp hp cp:Option Addr) (rc lc hc cc:Nat):Prop where
 fc:FcAt W.heap.size W rs lo hi rp lp hp rc lc hc
 cl:At W.heap.size W 5 claimCells cs cp cc
 sl:∀u∈lo,SzR u 20
 sh:∀u∈hi,SzR u 20
 sc:∀c∈cs,SzR c.amt 20
theorem OIn.on{W W':World} {rs:List Rc} {lo hi:List Rv} {cs:List Cl} {rp lp hp cp:Option Addr} {rc lc hc cc:Nat} (h:OIn W rs lo hi cs rp lp hp cp rc lc hc cc) (ht:Turned (fun _=>False) W W'):OIn W' rs lo hi cs rp lp hp cp rc lc hc cc :=
 ⟨h.fc.on ht,h.cl.on ht,h.sl,h.sh,h.sc⟩
theorem oTakes_any(rs:List Rc) (us:List Rv) (cs:List Cl) (rp gp cp lp hp:Option Addr) (rc gc cc nl lc nh hc fb cb:Nat) (W:World) (hr:RivAt W.heap.size W rs rp rc) (hg:At W.heap.size W 3 ratCells us gp gc) (hcl:At W.heap.size W 5 claimCells cs cp cc)
  (hfb:W.heap[fb]? = some (.cells #[.slice rp rs.length rc,.slice lp nl lc,.slice hp nh hc] 25 (0,0))) (hcb:W.heap[cb]? = some (.cells #[.slice cp cs.length cc] 26 (0,0)))
  (hok:supE rs us cs=0) (hn8:rs.length<=8) (hm12:cs.length<=12) (su:∀u∈us,SzR u 20) (sc:∀c∈cs,SzR c.amt 20) :
  Calls Tryz.prog 40 #[.slice gp us.length gc,.pointer (some ⟨fb,0,none⟩),.pointer (some ⟨cb,0,none⟩)] W fun e w'=>∃tk,e=.returned (.slice (some ⟨tk,0,none⟩) cs.length cs.length)/\W.heap.size<=tk/\OwnR w' tk (takesR rs cs us)/\(∀u∈takesR rs cs us,SzR u 24000300)/\Turned (fun _=>False) W w':=by
 have HT:=zh (fun A (hA:Turned (fun _=>False) W A)=>hTakes_any rs us cs rp gp cp rc gc cc A ((hr.turned hA).mono hA.size) (hg.on hA) (hcl.on hA) hok hn8 hm12 su sc)
 have HB:=zh (And.intro hfb hcb);obtain⟨tl,htl⟩ : ∃t,takesR rs cs us=t:=⟨_,rfl⟩;obtain⟨nr,hnr⟩ : ∃n,rs.length=n:=⟨_,rfl⟩;obtain⟨nu,hnu⟩ : ∃n,us.length=n:=⟨_,rfl⟩;obtain⟨nc,hnc⟩ : ∃n,cs.length=n:=⟨_,rfl⟩;rw[hnr,hnu,hnc,htl] at HT;rw[hnr,hnc] at HB;rw[hnu,hnc,htl];clear hr hg hcl hfb hcb hok hn8 hm12 su sc hnr hnu hnc htl;have CE:∀A,Turned (fun _=>False) W A->(A.cell? ⟨fb,0,none⟩=some (.slice rp nr rc)/\A.cell? ⟨fb,1,none⟩=some (.slice lp nl lc)/\A.cell? ⟨fb,2,none⟩=some (.slice hp nh hc))/\A.cell? ⟨cb,0,none⟩=some (.slice cp nc cc):=fun A hA=>by
  have h0:=keepB hA HB.out.1;have h1:=keepB hA HB.out.2;exact⟨⟨by simp[World.cell?,h0],by simp[World.cell?,h0],by simp[World.cell?,h0]⟩,by simp[World.cell?,h1]⟩
 have HCE:=zh CE;have HD:=zh ((zr W).drew);have HK0:=zh (CE _ (zr W).drew);clear CE HB;go_enter Tryz.func40,Tryz.ntmps40;go_wp2_with fail
 go_region_held3 (fun V=>(V.cell? ⟨fb,0,none⟩=some (.slice rp nr rc)/\V.cell? ⟨fb,1,none⟩=some (.slice lp nl lc)/\V.cell? ⟨fb,2,none⟩=some (.slice hp nh hc))/\V.cell? ⟨cb,0,none⟩=some (.slice cp nc cc))
  (first | exact HK2.out | exact HK1.out | exact HK0.out | go_keep)
  (first
   | (have hq:=HK1;clear hq;go_at_call 28;refine(HT.out _ HT1.out).mono ?_;rintro e w2 ⟨tk,rfl,h1,h2,h3,t2⟩;have HT2:=zh (HT1.out.trans t2);have HK2:Hid _:=zh (HCE.out _ HT2.out);have HR:=zh (And.intro (Nat.le_trans HT1.out.size h1) (And.intro h2 h3));clear h1 h2 h3 t2)
   | (go_at_call 41;refine(oSupply_any rp lp hp gp nr nl nh nu rc lc hc gc _).mono ?_;rintro e w1 ⟨rfl,t1⟩;have HT1:=zh (HD.out.trans t1);have HK1:Hid _:=zh (HCE.out _ HT1.out);clear t1))
 go_wp2_with fail;go_ret;exact⟨tk,rfl,HR.out.1,HR.out.2.1,HR.out.2.2,HT2.out⟩
section
variable {rs:List Rc} {lo hi:List Rv} {cs:List Cl} {rp lp hp cp:Option Addr} {rc lc hc cc:Nat} {W:World}
theorem oLimits_bad(h:OIn W rs lo hi cs rp lp hp cp rc lc hc cc) {ev:Int} (he:ordE rs lo hi cs=ev) (h0:ev≠0) :
  Calls Tryz.prog 9 #[.agg #[.slice rp rs.length rc,.slice lp lo.length lc,.slice hp hi.length hc],.slice cp cs.length cc] W fun e w'=>e=.returned (.tuple #[.slice none 0 0,.slice none 0 0,.int .i64 ev])/\Turned (fun _=>False) W w':=by
 have HC:=zh (fun A (hA:Turned (fun _=>False) W A)=>oCheck_any rs lo hi cs rp lp hp cp rc lc hc cc A (h.on hA).fc (h.on hA).cl h.sl h.sh h.sc)
 rw[he] at HC;obtain⟨nr,hnr⟩ : ∃n,rs.length=n:=⟨_,rfl⟩;obtain⟨nl,hnl⟩ : ∃n,lo.length=n:=⟨_,rfl⟩;obtain⟨nh,hnh⟩ : ∃n,hi.length=n:=⟨_,rfl⟩;obtain⟨nc,hnc⟩ : ∃n,cs.length=n:=⟨_,rfl⟩;rw[hnr,hnl,hnh,hnc] at HC ⊢;have g2:(ev == 0)=false:=by simpa using h0
 have g3:(ev != 0)=true:=by simpa using h0
 have HT:=zh (((zr W).alloc (.cells #[.slice rp nr rc,.slice lp nl lc,.slice hp nh hc] 25)).alloc (.cells #[.slice cp nc cc] 26));clear h he hnr hnl hnh hnc h0;go_enter Tryz.func9,Tryz.ntmps9;go_wp2_with fail;refine(HC.out _ HT.out).mono ?_;rintro e w1 ⟨rfl,t1⟩;have HT1:=zh (HT.out.trans t1);clear t1;go_wp2_with fail;refine bodyPost_ret (three_out rfl _ _ _) rfl ?_;exact⟨rfl,HT1.out⟩
theorem oLimits_ok(h:OIn W rs lo hi cs rp lp hp cp rc lc hc cc) (he:ordE rs lo hi cs=0) (hn8:rs.length<=8) (hm12:cs.length<=12) :
  Calls Tryz.prog 9 #[.agg #[.slice rp rs.length rc,.slice lp lo.length lc,.slice hp hi.length hc],.slice cp cs.length cc] W fun e w'=>∃a b,e=.returned (.tuple #[.slice (some ⟨a,0,none⟩) cs.length cs.length,.slice (some ⟨b,0,none⟩) cs.length cs.length,.int .i64 0]) /\
   (W.heap.size<=a/\W.heap.size<=b)/\OwnR w' a (takesR rs cs lo)/\OwnR w' b (takesR rs cs hi)/\((∀u∈takesR rs cs lo,SzR u 24000300)/\∀u∈takesR rs cs hi,SzR u 24000300)/\Turned (fun _=>False) W w':=by
 have hO:=ordE_zero he;have HC:=zh (fun A (hA:Turned (fun _=>False) W A)=>oCheck_any rs lo hi cs rp lp hp cp rc lc hc cc A (h.on hA).fc (h.on hA).cl h.sl h.sh h.sc)
 rw[he] at HC;have HL:=zh (fun A (hA:Turned (fun _=>False) W A) fb cb hfb hcb=>oTakes_any rs lo cs rp lp cp lp hp rc lc cc lo.length lc hi.length hc fb cb A (h.on hA).fc.riv (h.on hA).fc.lo (h.on hA).cl hfb hcb hO.e1 hn8 hm12 h.sl h.sc)
 have HH:=zh (fun A (hA:Turned (fun _=>False) W A) fb cb hfb hcb=>oTakes_any rs hi cs rp hp cp lp hp rc hc cc lo.length lc hi.length hc fb cb A (h.on hA).fc.riv (h.on hA).fc.hi (h.on hA).cl hfb hcb hO.e2 hn8 hm12 h.sh h.sc)
 obtain⟨t1,ht1⟩ : ∃t,takesR rs cs lo=t:=⟨_,rfl⟩;obtain⟨t2,ht2⟩ : ∃t,takesR rs cs hi=t:=⟨_,rfl⟩;obtain⟨nr,hnr⟩ : ∃n,rs.length=n:=⟨_,rfl⟩;obtain⟨nl,hnl⟩ : ∃n,lo.length=n:=⟨_,rfl⟩;obtain⟨nh,hnh⟩ : ∃n,hi.length=n:=⟨_,rfl⟩;obtain⟨nc,hnc⟩ : ∃n,cs.length=n:=⟨_,rfl⟩;rw[hnr,hnl,hnh,hnc] at HC ⊢;rw[hnr,hnl,hnh,hnc,ht1] at HL;rw[hnr,hnl,hnh,hnc,ht2] at HH;rw[ht1,ht2];have T0:=((zr W).alloc (.cells #[.slice rp nr rc,.slice lp nl lc,.slice hp nh hc] 25)).alloc (.cells #[.slice cp nc cc] 26);have n0:=new_first W (.cells #[.slice rp nr rc,.slice lp nl lc,.slice hp nh hc] 25) (.cells #[.slice cp nc cc] 26);have n1:=new_second W (.cells #[.slice rp nr rc,.slice lp nl lc,.slice hp nh hc] 25) (.cells #[.slice cp nc cc] 26);clear h he hO hnr hnl hnh hnc hn8 hm12 ht1 ht2;go_enter Tryz.func9,Tryz.ntmps9;go_wp2_with fail;obtain⟨w0,hw0⟩ : ∃w,w=(W.alloc (.cells #[.slice rp nr rc,.slice lp nl lc,.slice hp nh hc] 25)).alloc (.cells #[.slice cp nc cc] 26):=⟨_,rfl⟩;rw[<- hw0] at T0 n0 n1 ⊢;obtain⟨B,hB⟩ : ∃o,W.heap.size=o:=⟨_,rfl⟩;rw[hB] at n0 n1 ⊢;have HB:=zh (And.intro n0 (And.intro n1 hB));have HT0:=zh T0;have CE:∀A,Turned (fun _=>False) w0 A->(A.cell? ⟨B,1,none⟩=some (.slice lp nl lc)/\A.cell? ⟨B,2,none⟩=some (.slice hp nh hc)):=fun A hA=>by
  have h0:=keepB hA HB.out.1;exact⟨by simp[World.cell?,h0],by simp[World.cell?,h0]⟩
 have HCE:=zh CE;clear hw0 hB T0 n0 n1 CE;refine(HC.out _ HT0.out).mono ?_;rintro e w1 ⟨rfl,t1'⟩;have HT1:=zh t1';clear t1';have HD:=zh (HT1.out.drew);have HK0:=zh (HCE.out _ HT1.out.drew);go_wp2_with fail
 go_region_held3 (fun V=>V.cell? ⟨B,1,none⟩=some (.slice lp nl lc)/\V.cell? ⟨B,2,none⟩=some (.slice hp nh hc))
  (first | exact HK2.out | exact HK1.out | exact HK0.out | go_keep)
  (first
   | (have hq:=HK1;clear hq;go_at_call 40;refine(HH.out _ (HT0.out.trans HT2.out) B (B+1) (keepB HT2.out HB.out.1) (keepB HT2.out HB.out.2.1)).mono ?_;rintro e w3 ⟨b,rfl,h1,h2,h3,t3⟩;have HT3:=zh (HT2.out.trans t3);have HK2:Hid _:=zh (HCE.out _ HT3.out);have HRB:=zh (And.intro (Nat.le_trans (HT0.out.trans HT2.out).size h1) (And.intro h2 h3));have HRC:=zh (HRA.out.2.1.turned t3 id);clear h1 h2 h3 t3)
   | (go_at_call 40;refine(HL.out _ (HT0.out.trans HD.out) B (B+1) (keepB HD.out HB.out.1) (keepB HD.out HB.out.2.1)).mono ?_;rintro e w2 ⟨a,rfl,h1,h2,h3,t3⟩;have HT2:=zh (HD.out.trans t3);have HK1:Hid _:=zh (HCE.out _ HT2.out);have HRA:=zh (And.intro (Nat.le_trans (HT0.out.trans HD.out).size h1) (And.intro h2 h3));clear h1 h2 h3 t3))
 go_wp2_with fail;refine bodyPost_ret (three_out rfl _ _ _) rfl ?_;exact⟨a,b,rfl,⟨HRA.out.1,HRB.out.1⟩,HRC.out,HRB.out.2.1,⟨HRA.out.2.2,HRB.out.2.2⟩,HT0.out.trans HT3.out⟩
end
def Grown {α:Type} (W:World) (base e s:Nat) (enc:α->List Value) (v:Value) (l:List α):Prop:=W.ownsRow base e s v l.length (l.flatMap enc)
section
variable {α:Type} {W W':World} {base e s:Nat} {enc:α->List Value} {v:Value} {l:List α}
theorem Grown.nil(W:World) (base e s:Nat) (enc:α->List Value):Grown W base e s enc (.slice none 0 0) []:=⟨by simp,.inl ⟨rfl,rfl⟩⟩
theorem Grown.shape(h:Grown W base e s enc v l):∃p c,v=.slice p l.length c:=owns_shape h
theorem Grown.turned(h:Grown W base e s enc v l) {C:Nat->Prop} (ht:Turned C W W') (hC:∀k,C k->k < base):Grown W' base e s enc v l:=ownsRow_turned ht hC h
theorem Grown.low(h:Grown W base e s enc v l) {b:Nat} (hb:b<=base):Grown W b e s enc v l:=by
 obtain⟨h1,h2⟩:=h;refine⟨h1,?_⟩;rcases h2 with h2 | ⟨g,cap,cur,h3,h4,h5⟩
 ·exact .inl h2
 ·exact .inr ⟨g,cap,cur,h3,Nat.le_trans hb h4,h5⟩
theorem Grown.at_{p:Option Addr} {c:Nat} (h:Grown W base e s enc (.slice p l.length c) l) (henc:∀x,(enc x).length=s) {N:Nat} (hN:W.heap.size<=N):At N W s enc l p c:=by
 obtain⟨h1,h2⟩:=h;rcases h2 with⟨h2,h3⟩ | ⟨g,cap,cur,hv,hb,hg,h4,h5,h6,h7⟩
 ·simp only[Value.slice.injEq] at h2;obtain⟨rfl,-,rfl⟩:=h2;exact⟨by omega,Nat.zero_le _,fun i x hi=>by
   have:=(List.getElem?_eq_some_iff.1 hi).1;omega⟩
 ·cases hv
  refine⟨h4,h5,fun i x hi=>⟨g,0,rfl,Nat.lt_of_lt_of_le (getElem?_lt hg) hN,fun j u hj=>?_⟩⟩
  obtain⟨hlt,hx⟩:=List.getElem?_eq_some_iff.1 hi;have hjs:j < s:=by
   have:=(List.getElem?_eq_some_iff.1 hj).1;rwa [henc] at this
  have h8:=flatMap_at enc s henc l i j hlt hjs;rw[hx,hj] at h8;have hlt2:i*s+j < l.length*s:=by
   have h9:(i+1)*s<=l.length*s:=Nat.mul_le_mul_right s hlt;rw[Nat.add_mul] at h9;omega
  rw[<- h7,List.getElem?_take_of_lt hlt2] at h8;rw[Nat.zero_add];simp only[World.cell?,hg];simpa using h8
end
theorem app_row{α:Type} (enc:α->List Value) (e t s bytes:Nat) (z:Value) (hinfo:(Tryz.prog.info? e).map (fun i=>(i.zero,i.size,i.bytes))=some (some z,s,bytes)) (hund:Tryz.prog.underlying t=some (.slice e)) (hz:z.cells.size=s) (hs0:0 < s) (henc:∀x,(enc x).length=s) (h1c:∀x,∀u∈enc x,u.oneCell'=true)
  (W:World) {ops:Array Oper} {rest:List Oper} {o:Oper} {a:Act} {Q:Exit->Act->World->Prop} (hg:o.guard=none) (so xo:Operand) (hop:o.op=Op.call { callee:=Callee.builtin Builtin.append,args:=#[so,xo],argTypes:=#[t,t] })
  (base:Nat) (v:Value) (x:α) (L:List α) (hs:a.eval so=v) (hx:a.eval xo=.slice (some ⟨W.heap.size,0,none⟩) 1 1) (hown:Grown W base e s enc v L) (hb:base<=W.heap.size) (hl:L.length<=100000) (hby:bytes<=1000)
  (hK:∀p c w',Grown w' base e s enc (.slice p (L++[x]).length c) (L++[x])->Turned (fun g=>base<=g) W w'->wpList Tryz.prog ops Q rest (a.put o.dst (.slice p (L++[x]).length c)) w') :
  wpList Tryz.prog ops Q (o::rest) a (W.alloc (.cells (enc x).toArray e)):=by
 obtain⟨i0,hif,hz0,hz1,hz2⟩:=info_parts hinfo;have ta:Turned (fun g=>base<=g) W (W.alloc (.cells (enc x).toArray e)):=(Turned.refl _ _).alloc _
 have hmul:(L.length+1)*bytes<=100001*1000:=Nat.mul_le_mul (by omega) hby
 refine wpList_append_exact _ hg so xo t hop base e i0 z s bytes hund hif hz0 hz1 hz2 hz hs0 v L.length (L.flatMap enc) hs (ownsRow_turned ((zr W).alloc _) (fun k hk=>hk.elim) hown) ⟨W.heap.size,0,none⟩ 1 1 (enc x) hx (by rw[henc,Nat.one_mul]) (fun j u hj=>?_) (h1c x) (by unfold maxLen;omega) (by omega) (by simp;omega) ?_
 ·have h0:=World.alloc_heap_new W (.cells (enc x).toArray e);have h2:(⟨W.heap.size,0,none⟩ : Addr).add j=⟨W.heap.size,j,none⟩:=by
   unfold Addr.add;split
   ·rename_i h3
    rw[h3]
   ·rw[Nat.zero_add]
  rw[h2];simp only[World.cell?,h0];simpa using hj
 ·intro v' w' hown' hgrow hex;have hg2:Grown w' base e s enc v' (L++[x]):=by
   unfold Grown;rw[List.length_append,List.flatMap_append,show[x].flatMap enc=enc x by simp]
   exact hown'
  obtain⟨p,c,rfl⟩:=hg2.shape;exact hK p c w' hg2 (ta.trans (Turned.of_grown hgrow fun k hk=>(ownsRow_block hown k hk).1))
theorem infoOrder:(Tryz.prog.info? 70).map (fun i=>(i.zero,i.size,i.bytes))=some (some (.agg #[.int .i64 0,.bool false,.string ⟨#[]⟩,.string ⟨#[]⟩]),4,48):=by kernel_rfl
theorem infoInt:(Tryz.prog.info? 3).map (fun i=>(i.zero,i.size,i.bytes))=some (some (.int .i64 0),1,8):=by kernel_rfl
theorem app_order(W:World) {ops:Array Oper} {rest:List Oper} {o:Oper} {a:Act} {Q:Exit->Act->World->Prop} (hg:o.guard=none) (so xo:Operand) (hop:o.op=Op.call { callee:=Callee.builtin Builtin.append,args:=#[so,xo],argTypes:=#[27,27] })
  (base:Nat) (v:Value) (x:Or) (L:List Or) (hs:a.eval so=v) (hx:a.eval xo=.slice (some ⟨W.heap.size,0,none⟩) 1 1) (hown:Grown W base 70 4 orderCells v L) (hb:base<=W.heap.size) (hl:L.length<=100000)
  (hK:∀p c w',Grown w' base 70 4 orderCells (.slice p (L++[x]).length c) (L++[x])->Turned (fun g=>base<=g) W w'->wpList Tryz.prog ops Q rest (a.put o.dst (.slice p (L++[x]).length c)) w') :
  wpList Tryz.prog ops Q (o::rest) a (W.alloc (.cells #[.int .i64 x.claim,.bool x.limit.neg,.string x.limit.num,.string x.limit.den] 70)) :=
 app_row orderCells 70 27 4 48 _ infoOrder Tryz.underlying27 rfl (by decide) (fun _=>rfl) (fun x u hu=>by simp at hu;rcases hu with rfl | rfl | rfl | rfl <;> rfl) W hg so xo hop base v x L hs hx hown hb hl (by decide) hK
theorem app_int(W:World) {ops:Array Oper} {rest:List Oper} {o:Oper} {a:Act} {Q:Exit->Act->World->Prop} (hg:o.guard=none) (so xo:Operand) (hop:o.op=Op.call { callee:=Callee.builtin Builtin.append,args:=#[so,xo],argTypes:=#[44,44] })
  (base:Nat) (v:Value) (x:Int) (L:List Int) (hs:a.eval so=v) (hx:a.eval xo=.slice (some ⟨W.heap.size,0,none⟩) 1 1) (hown:Grown W base 3 1 intCells v L) (hb:base<=W.heap.size) (hl:L.length<=100000)
  (hK:∀p c w',Grown w' base 3 1 intCells (.slice p (L++[x]).length c) (L++[x])->Turned (fun g=>base<=g) W w'->wpList Tryz.prog ops Q rest (a.put o.dst (.slice p (L++[x]).length c)) w') :
  wpList Tryz.prog ops Q (o::rest) a (W.alloc (.cells #[.int .i64 x] 3)) :=
 app_row intCells 3 44 1 8 _ infoInt Tryz.underlying44 rfl (by decide) (fun _=>rfl) (fun x u hu=>by simp at hu;subst hu;rfl) W hg so xo hop base v x L hs hx hown hb hl (by decide) hK
theorem app_rat(W:World) {ops:Array Oper} {rest:List Oper} {o:Oper} {a:Act} {Q:Exit->Act->World->Prop} (hg:o.guard=none) (so xo:Operand) (hop:o.op=Op.call { callee:=Callee.builtin Builtin.append,args:=#[so,xo],argTypes:=#[23,23] })
  (base:Nat) (v:Value) (x:Rv) (L:List Rv) (hs:a.eval so=v) (hx:a.eval xo=.slice (some ⟨W.heap.size,0,none⟩) 1 1) (hown:Grown W base 68 3 ratCells v L) (hb:base<=W.heap.size) (hl:L.length<=100000)
  (hK:∀p c w',Grown w' base 68 3 ratCells (.slice p (L++[x]).length c) (L++[x])->Turned (fun g=>base<=g) W w'->wpList Tryz.prog ops Q rest (a.put o.dst (.slice p (L++[x]).length c)) w') :
  wpList Tryz.prog ops Q (o::rest) a (W.alloc (.cells #[.bool x.neg,.string x.num,.string x.den] 68)) :=
 app_row ratCells 68 23 3 40 _ infoRat Tryz.underlying23 rfl (by decide) (fun _=>rfl) (fun x u hu=>by simp at hu;rcases hu with rfl | rfl | rfl <;> rfl) W hg so xo hop base v x L hs hx hown hb hl (by decide) hK
def dgt (s:ByteArray) (k:Nat):Nat:=(s.data.toList.reverse.getD k 0).toNat
theorem dgt_lt(s:ByteArray) (k:Nat):dgt s k < 256:=UInt8.toNat_lt _
def dgL (s:ByteArray) (k:Nat):List Nat:=(List.range k).map (dgt s)
theorem dgL_len(s:ByteArray) (k:Nat):(dgL s k).length=k:=by unfold dgL;simp
theorem dgL_succ(s:ByteArray) (k:Nat):dgL s (k+1)=dgL s k++[dgt s k]:=by unfold dgL;simp[List.range_succ]
theorem dgL_lt(s:ByteArray) (k:Nat):∀d∈dgL s k,d < 256:=fun d hd=>by
 unfold dgL at hd;obtain⟨i,-,rfl⟩:=List.mem_map.1 hd;exact dgt_lt s i
theorem dgt_zero{s:ByteArray} {k:Nat} (h:s.size<=k):dgt s k=0:=by
 unfold dgt;rw[List.getD_eq_getElem?_getD,List.getElem?_eq_none (by simp;omega)]
 rfl
theorem dgt_at{s:ByteArray} {k:Nat} (h:k < s.size):dgt s k=(s[s.size-1-k]'(by omega)).toNat:=by
 unfold dgt;have hl:s.data.toList.length=s.size:=by simp
 rw[List.getD_eq_getElem?_getD,List.getElem?_reverse (by omega),hl]
 have h2:s.data.toList[s.size-1-k]? = some (s[s.size-1-k]'(by omega)):=by
  rw[List.getElem?_eq_getElem (by omega)]
  rfl
 rw[h2];rfl
theorem dgL_all(s:ByteArray):vL 256 (dgL s s.size)=natB s:=by
 have hl:s.data.toList.length=s.size:=by simp
 have h1:dgL s s.size=s.data.toList.reverse.map (·.toNat):=by
  apply List.ext_getElem?;intro i;unfold dgL;rw[List.getElem?_map,List.getElem?_map];rcases Nat.lt_or_ge i s.size with h | h
  ·rw[List.getElem?_range h];have h2:s.data.toList.reverse[i]? = some (s.data.toList.reverse[i]'(by rw[List.length_reverse];omega)):=List.getElem?_eq_getElem _
   rw[h2];show some (dgt s i)=some _;unfold dgt;rw[List.getD_eq_getElem?_getD,h2];rfl
  ·rw[List.getElem?_eq_none (by simp;exact h),List.getElem?_eq_none (by simp;omega)]
   rfl
 rw[<- rev_val (dgL_lt s s.size),h1,List.map_map];have h2:((s.data.toList.reverse.map (UInt8.ofNat ∘ fun x=>x.toNat)))=s.data.toList.reverse:=by
  have:(UInt8.ofNat ∘ fun x:UInt8=>x.toNat)=id:=by
   funext x
   simp
  rw[this,List.map_id]
 rw[h2,List.reverse_reverse];rfl
theorem dgL_val{s:ByteArray} : ∀{k:Nat},s.size<=k->vL 256 (dgL s k)=natB s
 | 0,h=>by rw[<- dgL_all,show s.size=0 by omega]
 | k+1,h=>by
  by_cases h1:s.size=k+1
  ·rw[<- dgL_all,h1]
  ·rw[dgL_succ,vL_snoc,dgt_zero (by omega),dgL_val (by omega)]
   omega
theorem mDigit_any(s:ByteArray) (k:Nat) (W:World) (hs:s.size<=1000000000):Calls Tryz.prog 110 #[.string s,.int .i64 k] W fun e w'=>e=.returned (.int .i64 (dgt s k))/\w'=W:=by
 by_cases h:k < s.size
 ·have h1:¬(s.size:Int)<=k:=by omega
  have h2:(k:Int) < s.size:=by omega
  obtain⟨j,hj⟩ : ∃j,s.size-1-k=j:=⟨_,rfl⟩;have hjs:j < s.size:=by omega
  have hd:dgt s k=(s[j]'hjs).toNat:=by
   rw[dgt_at h];subst hj;rfl
  have HD:=zh hd;obtain⟨z,hz⟩ : ∃z:Int,(s.size:Int)-1=z:=⟨_,rfl⟩;have e1:IntKind.i64.wrap ((s.size:Int)-1)=z:=by rw[<- hz];exact IntWalk.i64_in _ (by omega)
  have e2:IntKind.i64.wrap (z-(k:Int))=(j:Int):=by rw[show z-(k:Int)=(j:Int) by omega];exact IntWalk.i64_in _ (by omega)
  have e3:wrap64 ((s[j]'hjs).toNat:Int)=((s[j]'hjs).toNat:Int):=by have:=(s[j]'hjs).toNat_lt;unfold wrap64;omega
  clear hd hz hj;go_enter Tryz.func110,Tryz.ntmps110;go_wp2_with fail;go_ret;rw[HD.out];exact⟨rfl,rfl⟩
 ·have h1:(s.size:Int)<=k:=by omega
  rw[dgt_zero (by omega)]
  go_enter Tryz.func110,Tryz.ntmps110;go_wp2_with fail;go_ret;exact⟨rfl,rfl⟩
theorem ob_conv{W:World} {base:Nat} {p:Option Addr} {c:Nat} {L:List Nat} (h:OB W base (.slice p L.length c) L) (hd:∀x∈L,x < 256):(convert 178 9 (.slice p L.length c)).run Tryz.prog W=.ok (.string ⟨(L.map UInt8.ofNat).toArray⟩) W:=by
 obtain⟨-,⟨hv,hn⟩ | ⟨g,cap,cur,hv,-,hg,-,-,-,htk⟩⟩:=h
 ·obtain rfl:L=[]:=List.length_eq_zero_iff.1 hn;cases hv
  exact Lib.run_convert_nil_bytes (P:=Tryz.prog) W 178 9 5 0 Tryz.underlying178 Tryz.underlying5 Tryz.underlying9
 ·cases hv
  have hr:=run_convert_bytes_back (P:=Tryz.prog) W 178 9 5 ⟨g,0,none⟩ c (L.map UInt8.ofNat) Tryz.underlying178 Tryz.underlying5 Tryz.underlying9 (fun j hj=>?_)
  ·rw[List.length_map] at hr;exact hr
  ·rw[List.length_map] at hj;have h1:(L.map bV)[j]? = some (bV (L[j]'hj)):=by rw[List.getElem?_map,List.getElem?_eq_getElem hj];rfl
   rw[<- htk,Nat.mul_one,List.getElem?_take_of_lt hj] at h1;rw[Addr.add_lit,Nat.zero_add,List.getElem_map,byte_nat _ (hd _ (List.getElem_mem hj))];simp only[World.cell?,hg];simpa using h1
theorem app_u8(W:World) {ops:Array Oper} {rest:List Oper} {o:Oper} {a:Act} {Q:Exit->Act->World->Prop} (hg:o.guard=none) (s x:Operand) (hop:o.op=Op.call { callee:=Callee.builtin Builtin.append,args:=#[s,x],argTypes:=#[178,178] })
  (base:Nat) (v:Value) (d:Nat) (L:List Nat) (hs:a.eval s=v) (hx:a.eval x=.slice (some ⟨W.heap.size,0,none⟩) 1 1) (hown:OB W base v L) (hb:base<=W.heap.size) (hl:L.length<=2000000000)
  (hK:∀p c w',OB w' base (.slice p (L.length+1) c) (L++[d])->Turned (fun g=>base<=g) W w'->wpList Tryz.prog ops Q rest (a.put o.dst (.slice p (L.length+1) c)) w') :
  wpList Tryz.prog ops Q (o::rest) a (W.alloc (.cells #[.int .u8 (d:Int)] 5)):=by
 obtain⟨i0,hif,hz0,hz1,hz2⟩:=info_parts infoB;refine wpList_append_exact _ hg s x 178 hop base 5 i0 (bV 0) 1 1 Tryz.underlying178 hif hz0 hz1 hz2 rfl (by decide) v L.length (L.map bV) hs (ownsRow_turned ((zr W).alloc _) (fun k hk=>hk.elim) hown) ⟨W.heap.size,0,none⟩ 1 1 [bV d] hx rfl (fun j u hj=>?_) (by intro u hu;simp at hu;subst hu;rfl) (by unfold maxLen;omega) (by omega) (by simp;omega) ?_
 ·have h0:=World.alloc_heap_new W (.cells #[.int .u8 (d:Int)] 5);rw[Addr.add_lit,Nat.zero_add];simp only[World.cell?,h0];simpa using hj
 ·intro v' w' hown' hgrow hex;have hg2:OB w' base v' (L++[d]):=by
   rw[OB,List.length_append,List.map_append];exact hown'
  obtain⟨p,c,rfl⟩:=owns_shape hown';exact hK p c w' hg2 (((Turned.refl _ W).alloc _).trans (Turned.of_grown hgrow fun k hk=>(ownsRow_block hown k hk).1))
theorem mNumber_any(L:List Nat) (p:Option Addr) (c N:Nat) (W:World) (h:At N W 1 intCells (L.map fun n:Nat=>(n:Int)) p c) (hd:∀d∈L,d < 256) (hl:L.length<=1000000000) :
  Calls Tryz.prog 111 #[.slice p L.length c] W fun e w'=>e=.returned (.string (encB (vL 256 L)))/\Turned (fun _=>False) W w':=by
 have HA:=zh h;have HD:=zh hd;obtain⟨n,hn⟩ : ∃n,L.length=n:=⟨_,rfl⟩;have HN:=zh hn;rw[hn] at hl ⊢;have hl':(n:Int)<=1000000000:=by omega
 clear h hd hn hl;go_enter Tryz.func111,Tryz.ntmps111;go_wp2_with fail
 go_loopw [3,4] (fun v i wr=>∃(j:Nat) (q:Option Addr) (d:Nat),j<=n/\i=(.int .i64 ((j:Int)-1))/\v=.slice q (L.drop j).reverse.length d/\Hid (OB wr W.heap.size (.slice q (L.drop j).reverse.length d) (L.drop j).reverse/\Turned (fun _=>False) W wr)) (fun _ i _=>(intOf i+1).toNat)
 case atStart=>exact⟨n,none,0,Nat.le_refl _,by go_num,by rw[List.drop_of_length_le (by rw[HN.out];exact Nat.le_refl _)];rfl,zh ⟨by rw[List.drop_of_length_le (by rw[HN.out];exact Nat.le_refl _)];exact OB.nil _ _,Turned.refl _ _⟩⟩
 case round =>
  obtain⟨j,q,d,hj,rfl,rfl,HI⟩:=hrel;by_cases hj0:0 < j
  ·obtain⟨k,rfl⟩ : ∃k,j=k+1:=⟨j-1,by omega⟩
   have e1:(((k+1:Nat):Int)-1)=(k:Int):=by omega
   rw[e1];have hk:k < L.length:=by rw[HN.out];omega
   obtain⟨x,hx⟩ : ∃x,L[k]=x:=⟨_,rfl⟩;have hm:(L.map fun n:Nat=>(n:Int))[k]? = some (x:Int):=by rw[List.getElem?_map,List.getElem?_eq_getElem hk,hx];rfl
   obtain⟨b,a,rfl,-,e0⟩:=(HA.out.turned HI.out.2).ints hm;have hx256:x < 256:=by rw[<- hx];exact HD.out _ (List.getElem_mem hk)
   have hw:IntKind.u8.wrap (x:Int)=(x:Int):=by show(x:Int) % 256=x;omega
   have HR:Hid ((L.drop k).reverse=(L.drop (k+1)).reverse++[x]):=zh (by rw[List.drop_eq_getElem_cons hk,hx,List.reverse_cons])
   have hlen:(L.drop (k+1)).reverse.length<=2000000000:=by rw[List.length_reverse,List.length_drop,HN.out];omega
   have hk0:(0:Int)<=k:=by omega
   have hk1:(k:Int) < n:=by omega
   have HL:=zh hlen;clear hx hm hlen e1;go_wp2_with (at_builtin;(refine app_u8 wr rfl _ _ rfl W.heap.size (.slice q (L.drop (k+1)).reverse.length d) x (L.drop (k+1)).reverse rfl rfl HI.out.1 HI.out.2.size HL.out ?_);intro q' d' w4 ho4 ht4;have HS:=zh (And.intro ho4 ht4);clear ho4 ht4)
   go_roundw
   case rel=>exact⟨k,q',d',by omega,by go_num,by rw[HR.out];simp,zh ⟨by rw[HR.out,List.length_append];exact HS.out.1,HI.out.2.fresh HS.out.2 fun _=>id⟩⟩
   case measure=>simp[intOf]
  ·obtain rfl:j=0:=by omega
   have hc:=ob_conv HI.out.1 (fun x hx=>HD.out x (by rw[List.drop_zero] at hx;exact List.mem_reverse.1 hx))
   obtain⟨R,hR⟩ : ∃R,(L.drop 0).reverse=R:=⟨_,rfl⟩;rw[hR] at hc ⊢;have hv:natB ⟨(R.map UInt8.ofNat).toArray⟩=vL 256 L:=by
    rw[<- hR,List.drop_zero];show valB ((L.reverse.map UInt8.ofNat))=_;rw[List.map_reverse,rev_val HD.out]
   have hs:(⟨(R.map UInt8.ofNat).toArray⟩ : ByteArray).size<=1000000000:=by
    show(R.map UInt8.ofNat).toArray.size<=_;rw[List.size_toArray,List.length_map,<- hR,List.length_reverse,List.drop_zero,HN.out];omega
   have HC:=zh (fun W=>mClean_any ⟨(R.map UInt8.ofNat).toArray⟩ W hs)
   rw[hv] at HC;clear hv hs hR;go_wp2_with fail;refine(HC.out _).mono ?_;rintro e w5 ⟨rfl,rfl⟩;go_wp2_with fail;go_ret;exact⟨rfl,HI.out.2⟩
theorem Grown.at'{α:Type} {W:World} {base e s:Nat} {enc:α->List Value} {p:Option Addr} {n c:Nat} {l:List α} (h:Grown W base e s enc (.slice p n c) l) (henc:∀x,(enc x).length=s) {N:Nat} (hN:W.heap.size<=N):At N W s enc l p c:=by
 obtain⟨p',c',e⟩:=h.shape;cases e
 exact h.at_ henc hN
theorem Grown.hollow{α:Type} {W:World} {base q e s:Nat} {enc:α->List Value} (h:W.heap[q]? = some (.cells #[] e (0,0))) (hb:base<=q):Grown W base e s enc (.slice (some ⟨q,0,none⟩) 0 0) [] :=
 ⟨by simp,.inr ⟨q,0,#[],rfl,hb,h,Nat.le_refl _,Nat.zero_le _,by simp,by simp⟩⟩
theorem run_append_zero{P:Program} (w:World) (t ty e:TypeId) (i:TypeInfo) (ht:P.underlying t=some (.slice e)) (hi:P.info? e=some i) (b:Option Addr) (n cap:Nat) (h:n<=cap) (p:Option Addr) (c:Nat) :
  (Builtin.append_ #[t,t] ty #[.slice b n cap,.slice p 0 c]).run P w=.ok (.slice b n cap) w:=by
 have hf:(Builtin.firstCells i.size 0 (.slice p 0 c)).run P w=.ok #[] w:=by
  cases p with
  | none=>rfl
  | some a=>exact run_firstCells_some (P:=P) w i.size 0 a 0 c [] (by simp) (by simp)
 cases b with
 | none=>simp[Builtin.append_,run_underlying ht,sizeOf,typeInfo,hi,Builtin.lenOf,h,hf]
 | some a=>simp[Builtin.append_,run_underlying ht,sizeOf,typeInfo,hi,Builtin.lenOf,h,hf,storeCells]
theorem Grown.capped{α:Type} {W:World} {base e s:Nat} {enc:α->List Value} {v:Value} {l:List α} (h:Grown W base e s enc v l):∃p c,v=.slice p l.length c/\l.length<=c:=by
 obtain⟨-,h2⟩:=h;rcases h2 with⟨h2,h3⟩ | ⟨g,cap,cur,hv,-,-,h4,-⟩
 ·exact⟨none,0,by rw[h2,h3],by omega⟩
 ·exact⟨_,cap,hv,h4⟩
theorem Grown.tip{α:Type} {W:World} {base e s n c:Nat} {enc:α->List Value} {p:Option Addr} {l:List α} (h:Grown W base e s enc (.slice p n c) l) (hn:0 < n):∃g,p=Option.some ⟨g,0,none⟩/\base<=g/\∀o,W.frozen? ⟨g,o,none⟩=false:=by
 obtain⟨-,h2⟩:=h;rcases h2 with⟨h2,h3⟩ | ⟨g,cap,cur,hv,hb,hg,-⟩
 ·cases h2
  omega
 ·cases hv
  exact⟨g,rfl,hb,fun o=>by simp[World.frozen?,hg]⟩
theorem cell_off(W:World) {g x y:Nat} (v:Value) (h:x≠y):(W.setCell ⟨g,x,none⟩ v).cell? ⟨g,y,none⟩=W.cell? ⟨g,y,none⟩:=by
 apply World.cell?_setCell_other;intro e;exact h (congrArg Addr.off e)
theorem cell_same(W:World) {g x:Nat} {u:Value} (v:Value) (h:W.cell? ⟨g,x,none⟩=some u):(W.setCell ⟨g,x,none⟩ v).cell? ⟨g,x,none⟩=some v:=World.cell?_setCell_same _ _ _ h
def natsI (L:List Nat):List Int:=L.map fun n:Nat=>(n:Int)
theorem natsI_len(L:List Nat):(natsI L).length=L.length:=by unfold natsI;simp
theorem natsI_snoc(L:List Nat) (d:Nat):natsI (L++[d])=natsI L++[(d:Int)]:=by unfold natsI;simp
theorem app_nat(W:World) {ops:Array Oper} {rest:List Oper} {o:Oper} {a:Act} {Q:Exit->Act->World->Prop} (hg:o.guard=none) (so xo:Operand) (hop:o.op=Op.call { callee:=Callee.builtin Builtin.append,args:=#[so,xo],argTypes:=#[44,44] })
  (base k:Nat) (v:Value) (x:Nat) (L:List Nat) (hk:L.length=k) (hs:a.eval so=v) (hx:a.eval xo=.slice (some ⟨W.heap.size,0,none⟩) 1 1) (hown:Grown W base 3 1 intCells v (natsI L)) (hb:base<=W.heap.size) (hl:k<=2000000000)
  (hK:∀p c w',Grown w' base 3 1 intCells (.slice p (k+1) c) (natsI (L++[x]))->Turned (fun g=>base<=g) W w'->wpList Tryz.prog ops Q rest (a.put o.dst (.slice p (k+1) c)) w') :
  wpList Tryz.prog ops Q (o::rest) a (W.alloc (.cells #[.int .i64 x] 3)):=by
 obtain⟨i0,hif,hz0,hz1,hz2⟩:=info_parts infoInt;have hkl:(natsI L).length=k:=by rw[natsI_len,hk]
 refine wpList_append_exact _ hg so xo 44 hop base 3 i0 (.int .i64 0) 1 8 Tryz.underlying44 hif hz0 hz1 hz2 rfl (by decide) v (natsI L).length ((natsI L).flatMap intCells) hs (ownsRow_turned ((zr W).alloc _) (fun k hk=>hk.elim) hown) ⟨W.heap.size,0,none⟩ 1 1 [(.int .i64 x)] hx rfl (fun j u hj=>?_) (by intro u hu;simp at hu;subst hu;rfl) (by unfold maxLen;omega) (by omega) (by simp;omega) ?_
 ·have h0:=World.alloc_heap_new W (.cells #[.int .i64 x] 3);rw[Addr.add_lit,Nat.zero_add];simp only[World.cell?,h0];simpa using hj
 ·intro v' w' hown' hgrow hex;have hg2:Grown w' base 3 1 intCells v' (natsI (L++[x])):=by
   unfold Grown;rw[natsI_snoc,List.length_append,List.flatMap_append];exact hown'
  have hl2:(natsI (L++[x])).length=k+1:=by rw[natsI_len,List.length_append,hk];rfl
  obtain⟨p,c,rfl⟩:=hg2.shape;rw[hl2] at hg2 ⊢;exact hK p c w' hg2 (((Turned.refl _ W).alloc _).trans (Turned.of_grown hgrow fun k hk=>(ownsRow_block hown k hk).1))
structure AddR (a b:ByteArray) (k:Nat) (L:List Nat) (c:Nat):Prop where
 len:L.length=k
 lt:∀d∈L,d < 256
 car:c<=1
 val:vL 256 L+256 ^ k*c=vL 256 (dgL a k)+vL 256 (dgL b k)
theorem snoc_lt{L:List Nat} {d:Nat} (h:∀x∈L,x < 256) (hd:d < 256):∀x∈L++[d],x < 256:=fun x hx=>by
 rcases List.mem_append.1 hx with h1 | h1
 ·exact h x h1
 ·rw[List.mem_singleton] at h1;rw[h1];exact hd
theorem AddR.start(a b:ByteArray):AddR a b 0 [] 0:=⟨rfl,fun _ h=>(by cases h),by omega,rfl⟩
theorem AddR.step{a b:ByteArray} {k:Nat} {L:List Nat} {c:Nat} (h:AddR a b k L c):AddR a b (k+1) (L++[(dgt a k+dgt b k+c) % 256]) ((dgt a k+dgt b k+c) / 256):=by
 have h1:=dgt_lt a k;have h2:=dgt_lt b k;have h3:=h.car;refine⟨by rw[List.length_append,h.len];rfl,snoc_lt h.lt (Nat.mod_lt _ (by decide)),by omega,?_⟩
 have h4:=h.val;rw[dgL_succ,dgL_succ,vL_snoc,vL_snoc,vL_snoc,h.len,dgL_len,dgL_len,Nat.pow_succ];obtain⟨n,hn⟩ : ∃n,dgt a k+dgt b k+c=n:=⟨_,rfl⟩;rw[hn];have e1:256 ^ k*(n % 256)+256 ^ k*256*(n / 256)=256 ^ k*n:=by
  rw[Nat.mul_assoc,<- Nat.mul_add]
  congr 1
  omega
 have e2:256 ^ k*n=256 ^ k*dgt a k+256 ^ k*dgt b k+256 ^ k*c:=by rw[<- hn,Nat.mul_add,Nat.mul_add]
 omega
theorem AddR.done{a b:ByteArray} {k:Nat} {L:List Nat} {c:Nat} (h:AddR a b k L c) (ha:a.size+1<=k) (hb:b.size+1<=k):vL 256 L=natB a+natB b:=by
 have h1:=h.val;rw[dgL_val (by omega),dgL_val (by omega)] at h1
 obtain⟨j,rfl⟩ : ∃j,k=j+1:=⟨k-1,by omega⟩
 have h2:natB a < 256 ^ j:=Nat.lt_of_lt_of_le (natB_lt a) (Nat.pow_le_pow_right (by decide) (by omega))
 have h3:natB b < 256 ^ j:=Nat.lt_of_lt_of_le (natB_lt b) (Nat.pow_le_pow_right (by decide) (by omega))
 rw[Nat.pow_succ] at h1;rcases Nat.eq_zero_or_pos c with h4 | h4
 ·rw[h4] at h1;omega
 ·have h5:256 ^ j*256*1<=256 ^ j*256*c:=Nat.mul_le_mul_left _ h4;omega
theorem mAdd_any(a b:ByteArray) (W:World) (ha:a.size<=400000000) (hb:b.size<=400000000):Calls Tryz.prog 81 #[.string a,.string b] W fun e w'=>e=.returned (.string (encB (natB a+natB b)))/\Turned (fun _=>False) W w':=by
 obtain⟨m,hm⟩ : ∃m,max a.size b.size=m:=⟨_,rfl⟩;have hma:a.size<=m:=by omega
 have hmb:b.size<=m:=by omega
 have hm4:m<=400000000:=by omega
 have hmx:max (a.size:Int) (b.size:Int)=(m:Int):=by omega
 have hmi:(if(a.size:Int) < (b.size:Int) then(b.size:Int) else(a.size:Int))=(m:Int):=by split <;> omega
 clear hm;go_enter Tryz.func81,Tryz.ntmps81;go_wp2_with fail
 go_loopw [5,6,7] (fun v x i wr=>∃(k:Nat) (L:List Nat) (q:Option Addr) (d c:Nat),k<=m+1/\i=(.int .i64 k)/\x=(.int .i64 c)/\v=.slice q k d/\Hid (AddR a b k L c/\Grown wr W.heap.size 3 1 intCells (.slice q k d) (natsI L)/\Turned (fun _=>False) W wr)) (fun _ _ i _=>m+1-(intOf i).toNat)
 case atStart=>exact⟨0,[],none,0,0,Nat.zero_le _,rfl,rfl,rfl,zh ⟨AddR.start a b,Grown.nil _ _ _ _ _,Turned.refl _ _⟩⟩
 case round =>
  obtain⟨k,L,q,d,c,hk,rfl,rfl,rfl,HI⟩:=hrel;by_cases hlt:k<=m
  ·have hk0:(k:Int)<=m:=by omega
   have HST:=zh HI.out.1.step;have hlL:=HI.out.1.len;have hcar:=HI.out.1.car;obtain⟨x,hx⟩ : ∃x,dgt a k=x:=⟨_,rfl⟩;obtain⟨y,hy⟩ : ∃y,dgt b k=y:=⟨_,rfl⟩;have hx2:x < 256:=by rw[<- hx];exact dgt_lt a k
   have hy2:y < 256:=by rw[<- hy];exact dgt_lt b k
   have HDA:=zh (fun W=>mDigit_any a k W (by omega))
   have HDB:=zh (fun W=>mDigit_any b k W (by omega))
   rw[hx] at HDA HST;rw[hy] at HDB HST;obtain⟨n,hn⟩ : ∃n,x+y+c=n:=⟨_,rfl⟩;rw[hn] at HST;obtain⟨r,hr⟩ : ∃r,n % 256=r:=⟨_,rfl⟩;obtain⟨u,hu⟩ : ∃u,n / 256=u:=⟨_,rfl⟩;rw[hr,hu] at HST;obtain⟨s1,hs1⟩ : ∃s1:Int,(x:Int)+y=s1:=⟨_,rfl⟩;have e1:IntKind.i64.wrap ((x:Int)+y)=s1:=by rw[<- hs1];exact IntWalk.i64_in _ (by omega)
   have e2:IntKind.i64.wrap (s1+(c:Int))=(n:Int):=by rw[show s1+(c:Int)=(n:Int) by omega];exact IntWalk.i64_in _ (by omega)
   have e3:(n:Int).tmod 256=(r:Int):=by rw[Int.tmod_eq_emod_of_nonneg (by omega)];omega
   have e4:(n:Int).tdiv 256=(u:Int):=by rw[Int.tdiv_eq_ediv_of_nonneg (by omega)];omega
   have hnn:n<=511:=by omega
   have hu2:u<=1:=by omega
   have HLN:=zh (show(natsI L).length<=1000000000 by rw[natsI_len,hlL];omega)
   clear hx hy hn hr hu hs1;go_wp2_with fail;refine(HDA.out _).mono ?_;rintro e w1 ⟨rfl,rfl⟩;go_wp2_with fail;refine(HDB.out _).mono ?_;rintro e w1 ⟨rfl,rfl⟩;go_wp2_with (at_builtin;(refine app_nat w1 rfl _ _ rfl W.heap.size k (.slice q k d) r L hlL rfl rfl HI.out.2.1 HI.out.2.2.size (by omega) ?_);intro q' d' w4 ho4 ht4;have HS:=zh (And.intro ho4 ht4);clear ho4 ht4)
   go_roundw
   case rel=>exact⟨k+1,L++[r],q',d',u,by omega,by go_num,rfl,rfl,zh ⟨HST.out,HS.out.1,HI.out.2.2.fresh HS.out.2 fun _=>id⟩⟩
   case measure=>simp[intOf];omega
  ·have hk0:¬(k:Int)<=m:=by omega
   have hv:=HI.out.1.done (by omega) (by omega)
   have HN:=zh (mNumber_any L q d wr.heap.size wr (HI.out.2.1.at' (fun _=>rfl) (Nat.le_refl _)) HI.out.1.lt (by rw[HI.out.1.len];omega))
   have hn:=HN.out;rw[hv,HI.out.1.len] at hn;have HNN:=zh hn;clear hn hv HN;go_wp2_with fail;refine HNN.out.mono ?_;rintro e w5 ⟨rfl,t5⟩;have HT:=zh (HI.out.2.2.trans t5);clear t5;go_wp2_with fail;go_ret;exact⟨rfl,HT.out⟩
end Go.Proofs.YtanhhdndgkhcfaaGreatDoor
