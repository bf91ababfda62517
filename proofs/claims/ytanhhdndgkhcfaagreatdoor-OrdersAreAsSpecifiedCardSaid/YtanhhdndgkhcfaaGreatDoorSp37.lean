/- Part 37 of the proof of lawSpec.card: OrdFewB, OrdAgree, OrdSameL, OrdSameO, OrdFairB, OrdEx. Conditions: those of each theorem. -/
import Derived.Test.YtanhhdndgkhcfaaGreatDoorSp01
import Derived.Test.YtanhhdndgkhcfaaGreatDoorSp20
import Derived.Test.YtanhhdndgkhcfaaGreatDoorSp21
import Derived.Test.YtanhhdndgkhcfaaGreatDoorSp24
import Derived.Test.YtanhhdndgkhcfaaGreatDoorSp36
set_option maxRecDepth 20000
set_option maxHeartbeats 2000000
namespace Go.Proofs.YtanhhdndgkhcfaaGreatDoor
open Go Go.Proofs Go.RowKit
attribute [local go_sem] Oper.semAt_some
theorem xFewB_any(rs:List Rc) (rp:Option Addr) (rc N:Nat) (W:World) (h:RivAt N W rs rp rc):Calls Tryz.prog 74 #[.slice rp rs.length rc,.int .i64 8] W fun e w'=>IsBP (rs.length<=8\/40 < rs.length) e/\Turned (fun _=>False) W w':=by
 have mx:(rs.length:Int)<=9223372036854775807:=by have:=h.at_.len;unfold maxLen at this;omega
 obtain⟨n,hn⟩ : ∃n,rs.length=n:=⟨_,rfl⟩;have HN:=zh hn;have HR:=zh h;rw[hn] at mx ⊢;clear hn h;by_cases h1:(8:Int) < n <;> by_cases h2:(n:Int)<=40 <;> by_cases h3:(50:Int) < n
 all_goals first | (exfalso;omega) | skip
 all_goals go_enter Tryz.func74,Tryz.ntmps74
 all_goals go_wp2_with fail
 all_goals first
  | (go_ret;exact⟨(by first | exact IsBP.no _ | exact IsBP.yes (by omega)),Turned.refl _ _⟩)
  | skip
 all_goals
  go_loopw [5] (fun i wr=>∃k:Nat,k<=n/\i=(.int .i64 k)/\Hid (Turned (fun _=>False) W wr)) (fun i _=>n-(intOf i).toNat)
  case atStart=>exact⟨0,Nat.zero_le _,rfl,zh (Turned.refl _ _)⟩
  case round =>
   obtain⟨k,hk,rfl,HI⟩:=hrel;by_cases hlt:k < n
   ·have hx:rs[k]? = some (rs[k]'(by rw[HN.out];exact hlt)):=List.getElem?_eq_getElem _
    obtain⟨x,hxe⟩ : ∃x,rs[k]'(by rw[HN.out];exact hlt)=x:=⟨_,rfl⟩
    rw[hxe] at hx;obtain⟨b,a,rfl,-,-,e1⟩:=(HR.out.turned HI.out).at_.reaches hx;obtain⟨m,hm⟩ : ∃m,x.ws.length=m:=⟨_,rfl⟩;rw[hm] at e1;clear hxe hm hx;by_cases g1:(12:Int) < m <;> by_cases g2:(m:Int)<=400 <;> by_cases g3:(402:Int) < m
    all_goals first | (exfalso;omega) | skip
    all_goals go_wp2_with fail
    all_goals first
     | (go_ret;exact⟨(by first | exact IsBP.no _ | exact IsBP.yes (by omega)),HI.out⟩)
     | (go_roundw
        case rel=>exact⟨k+1,by omega,by go_num,HI⟩
        case measure=>simp[intOf];omega)
   ·obtain rfl:k=n:=by omega
    go_wp2_with fail;go_ret;exact⟨(by first | exact IsBP.no _ | exact IsBP.yes (by omega)),HI.out⟩
theorem yFewB_any(rs:List Rc) (us:List Rv) (cs:List Cl) (rp gp cp:Option Addr) (rc gc cc:Nat) (W:World) (hr:RivAt W.heap.size W rs rp rc) (hg:At W.heap.size W 3 ratCells us gp gc) (hcl:At W.heap.size W 5 claimCells cs cp cc) :
  Calls Tryz.prog 35 #[.agg #[.slice rp rs.length rc,.slice gp us.length gc],.slice cp cs.length cc] W fun e w'=>IsBP (((∀u∈us,SzR u 20)/\∀c∈cs,SzR c.amt 20)/\(rs.length<=8\/40 < rs.length)/\(cs.length<=12\/200 < cs.length)) e/\Turned (fun _=>False) W w':=by
 have HX:=zh (fun A (hA:Turned (fun _=>False) W A)=>xFewB_any rs rp rc W.heap.size A (hr.turned hA))
 have mx:(us.length:Int)<=9223372036854775807:=by have:=hg.len;unfold maxLen at this;omega
 have my:(cs.length:Int)<=9223372036854775807:=by have:=hcl.len;unfold maxLen at this;omega
 obtain⟨nr,hnr⟩ : ∃n,rs.length=n:=⟨_,rfl⟩;obtain⟨nu,hnu⟩ : ∃n,us.length=n:=⟨_,rfl⟩;obtain⟨nc,hnc⟩ : ∃n,cs.length=n:=⟨_,rfl⟩;have HNU:=zh hnu;have HNC:=zh hnc;have HNR:=zh hnr;have HG:=zh hg;have HCL:=zh hcl;obtain⟨P,hP⟩ : ∃P:Prop,P=(((∀u∈us,SzR u 20)/\∀c∈cs,SzR c.amt 20)/\(rs.length<=8\/40 < rs.length)/\(cs.length<=12\/200 < cs.length)):=⟨_,rfl⟩;rw[<- hP];have HP:=zh hP;rw[hnr] at HX;rw[hnu] at mx;rw[hnc] at my;rw[hnr,hnu,hnc];clear hnr hnu hnc hr hg hcl hP;have HT0:=zh ((zr W).alloc (.cells #[.slice rp nr rc,.slice gp nu gc] 65));have HN0:=zh (World.alloc_heap_new W (.cells #[.slice rp nr rc,.slice gp nu gc] 65));go_enter Tryz.func35,Tryz.ntmps35;go_wp2_with fail;refine(HX.out _ HT0.out).mono ?_;rintro e w1 ⟨⟨b,rfl,hb⟩,t1⟩;have HB:=zh hb;have HT1:=zh (HT0.out.trans t1);have HN1:=zh (keepB t1 HN0.out);clear t1 HX HT0 HN0 hb;have d1:=(box2 HN1.out).2;cases b with
 | false =>
  go_wp2_with fail;go_ret;exact⟨IsBP.no _,HT1.out⟩
 | true =>
  by_cases h1:(60:Int) < nu <;> by_cases h2:(12:Int) < nc <;> by_cases h3:(nc:Int)<=200 <;> by_cases h4:(205:Int) < nc
  all_goals first | (exfalso;omega) | skip
  all_goals go_wp2_with fail
  all_goals first
   | (go_ret;exact⟨IsBP.no _,HT1.out⟩)
   | skip
  all_goals
   clear d1
   go_loopw [6] (fun i wr=>∃k:Nat,k<=nu/\i=(.int .i64 k)/\Hid (Turned (fun _=>False) w1 wr/\∀j u,j < k->us[j]? = some u->SzR u 20)) (fun i _=>nu-(intOf i).toNat)
   case atStart=>exact⟨0,Nat.zero_le _,rfl,zh ⟨Turned.refl _ _,fun j u hj=>by omega⟩⟩
   case round =>
    obtain⟨k,hk,rfl,HI⟩:=hrel;have d1:=(box2 (keepB HI.out.1 HN1.out)).2;by_cases hlt:k < nu
    ·have hx:us[k]? = some (us[k]'(by rw[HNU.out];exact hlt)):=List.getElem?_eq_getElem _
     obtain⟨x,hxe⟩ : ∃x,us[k]'(by rw[HNU.out];exact hlt)=x:=⟨_,rfl⟩
     rw[hxe] at hx;obtain⟨b,a,rfl,-,e1,e2,e3⟩:=(HG.out.turned (HT1.out.trans HI.out.1)).rats hx;have HXX:=zh hx;obtain⟨xn,xx,xd⟩:=x;clear hxe hx;go_wp2_with fail;refine(yShort_any ⟨xn,xx,xd⟩ _).mono ?_;rintro e w2 ⟨rfl,t2⟩;have HI2:=zh (HI.out.1.trans t2);obtain⟨sb,hsb⟩ : ∃s,shortR ⟨xn,xx,xd⟩=s:=⟨_,rfl⟩;rw[hsb];have HSB:=zh hsb;clear t2 hsb d1 e1 e2 e3;cases sb with
     | false =>
      go_wp2_with fail;go_ret;exact⟨IsBP.no _,HT1.out.trans HI2.out⟩
     | true =>
      go_wp2_with fail
      go_roundw
      case rel=>exact⟨k+1,by omega,by go_num,zh ⟨HI2.out,fun j u hj hu=>by
       by_cases he:j=k
       ·subst he;rw[HXX.out] at hu;cases hu
        exact shortR.sz HSB.out
       ·exact HI.out.2 j u (by omega) hu⟩⟩
      case measure=>simp[intOf];omega
    ·obtain rfl:k=nu:=by omega
     go_wp2_with fail;have HU:=HI;clear HI d1
     go_loopw [8] (fun i wv=>∃k:Nat,k<=nc/\i=(.int .i64 k)/\Hid (Turned (fun _=>False) w1 wv/\∀j c,j < k->cs[j]? = some c->SzR c.amt 20)) (fun i _=>nc-(intOf i).toNat)
     case atStart=>exact⟨0,Nat.zero_le _,rfl,zh ⟨HU.out.1,fun j u hj=>by omega⟩⟩
     case round =>
      obtain⟨k,hk,rfl,HI⟩:=hrel;by_cases hlt:k < nc
      ·have hx:cs[k]? = some (cs[k]'(by rw[HNC.out];exact hlt)):=List.getElem?_eq_getElem _
       obtain⟨x,hxe⟩ : ∃x,cs[k]'(by rw[HNC.out];exact hlt)=x:=⟨_,rfl⟩
       rw[hxe] at hx;obtain⟨b,a,rfl,-,e0,e1,e2,e3,e4⟩:=(HCL.out.turned (HT1.out.trans HI.out.1)).claims hx;have HXX:=zh hx;obtain⟨xp,xr,⟨xn,xx,xd⟩⟩:=x;clear hxe hx;go_wp2_with fail;refine(yShort_any ⟨xn,xx,xd⟩ _).mono ?_;rintro e w2 ⟨rfl,t2⟩;have HI2:=zh (HI.out.1.trans t2);obtain⟨sb,hsb⟩ : ∃s,shortR ⟨xn,xx,xd⟩=s:=⟨_,rfl⟩;rw[hsb];have HSB:=zh hsb;clear t2 hsb e0 e1 e2 e3 e4;cases sb with
       | false =>
        go_wp2_with fail;go_ret;exact⟨IsBP.no _,HT1.out.trans HI2.out⟩
       | true =>
        go_wp2_with fail
        go_roundw
        case rel=>exact⟨k+1,by omega,by go_num,zh ⟨HI2.out,fun j u hj hu=>by
         by_cases he:j=k
         ·subst he;rw[HXX.out] at hu;cases hu
          exact shortR.sz HSB.out
         ·exact HI.out.2 j u (by omega) hu⟩⟩
        case measure=>simp[intOf];omega
      ·obtain rfl:k=nc:=by omega
       go_wp2_with fail;go_ret;refine⟨IsBP.yes ?_,HT1.out.trans HI.out.1⟩;rw[HP.out];refine⟨⟨fun u hu=>?_,fun c hc=>?_⟩,by rw[HNR.out];exact HB.out (by simp),by rw[HNC.out];omega⟩
       ·obtain⟨j,hj⟩:=List.mem_iff_getElem?.1 hu;exact HU.out.2 j u (by rw[<- HNU.out];exact(List.getElem?_eq_some_iff.1 hj).1) hj
       ·obtain⟨j,hj⟩:=List.mem_iff_getElem?.1 hc;exact HI.out.2 j c (by rw[<- HNC.out];exact(List.getElem?_eq_some_iff.1 hj).1) hj
theorem lFewB_any(rs:List Rc) (lo hi:List Rv) (cs:List Cl) (rp lp hp cp:Option Addr) (rc lc hc cc:Nat) (W:World) (hf:FcAt W.heap.size W rs lo hi rp lp hp rc lc hc) (hcl:At W.heap.size W 5 claimCells cs cp cc) :
  Calls Tryz.prog 6 #[.agg #[.slice rp rs.length rc,.slice lp lo.length lc,.slice hp hi.length hc],.slice cp cs.length cc] W fun e w'=>IsBP (((∀u∈lo,SzR u 20)/\(∀u∈hi,SzR u 20)/\∀c∈cs,SzR c.amt 20)/\(rs.length<=8\/40 < rs.length)/\(cs.length<=12\/200 < cs.length)) e/\Turned (fun _=>False) W w':=by
 have HL:=zh (fun A (hA:Turned (fun _=>False) W A)=>yFewB_any rs lo cs rp lp cp rc lc cc A (hf.on hA).riv (hf.on hA).lo (hcl.on hA))
 have HH:=zh (fun A (hA:Turned (fun _=>False) W A)=>yFewB_any rs hi cs rp hp cp rc hc cc A (hf.on hA).riv (hf.on hA).hi (hcl.on hA))
 obtain⟨P,hP⟩ : ∃P:Prop,P=(((∀u∈lo,SzR u 20)/\(∀u∈hi,SzR u 20)/\∀c∈cs,SzR c.amt 20)/\(rs.length<=8\/40 < rs.length)/\(cs.length<=12\/200 < cs.length)):=⟨_,rfl⟩;rw[<- hP];have HP:=zh hP;obtain⟨nr,hnr⟩ : ∃n,rs.length=n:=⟨_,rfl⟩;obtain⟨nl,hnl⟩ : ∃n,lo.length=n:=⟨_,rfl⟩;obtain⟨nh,hnh⟩ : ∃n,hi.length=n:=⟨_,rfl⟩;obtain⟨nc,hnc⟩ : ∃n,cs.length=n:=⟨_,rfl⟩;rw[hnr,hnl,hnc] at HL;rw[hnr,hnh,hnc] at HH;rw[hnr,hnl,hnh,hnc];have HNR:=zh hnr;have HNC:=zh hnc;clear hnr hnl hnh hnc hf hcl hP;have HT0:=zh ((zr W).alloc (.cells #[.slice rp nr rc,.slice lp nl lc,.slice hp nh hc] 25));have HN0:=zh (World.alloc_heap_new W (.cells #[.slice rp nr rc,.slice lp nl lc,.slice hp nh hc] 25));go_enter Tryz.func6,Tryz.ntmps6;go_wp2_with fail;refine(lSupply_any _ _ _ _ _ _ _ _ _ _ _ _ _).mono ?_;rintro e w1 ⟨rfl,t1⟩;have HT1:=zh (HT0.out.trans t1);have HN1:=zh (keepB t1 HN0.out);clear t1 HT0 HN0;go_wp2_with fail;refine(HL.out _ HT1.out).mono ?_;rintro e w2 ⟨⟨b,rfl,hb⟩,t1⟩;have HB:=zh hb;have HT2:=zh (HT1.out.trans t1);have HN2:=zh (keepB t1 HN1.out);obtain⟨d0,d1,d2,-,-,-⟩:=box3 HN2.out;clear t1 HT1 HN1 hb;go_wp2_with fail;refine(lSupply_any _ _ _ _ _ _ _ _ _ _ _ _ _).mono ?_;rintro e w3 ⟨rfl,t1⟩;have HT3:=zh (HT2.out.trans t1);clear t1 HT2 HN2 d0 d1 d2;go_wp2_with fail;refine(HH.out _ HT3.out).mono ?_;rintro e w4 ⟨⟨c,rfl,hc⟩,t1⟩;have HC:=zh hc;have HT4:=zh (HT3.out.trans t1);clear t1 HT3 hc;cases b with
 | false =>
  go_wp2_with fail;go_ret;exact⟨IsBP.no _,HT4.out⟩
 | true =>
  go_wp2_with fail;go_ret;refine⟨⟨c,rfl,fun h=>?_⟩,HT4.out⟩
  rw[HP.out];refine⟨⟨(HB.out (by simp)).1.1,(HC.out h).1.1,(HB.out (by simp)).1.2⟩,?_⟩
  have:=(HB.out (by simp)).2
  exact⟨by rw[HNR.out];exact this.1,by rw[HNC.out];exact this.2⟩
theorem lBrief_any(us:List Or) (gp:Option Addr) (gc N:Nat) (W:World) (hg:At N W 4 orderCells us gp gc) :
  Calls Tryz.prog 7 #[.slice gp us.length gc] W fun e w'=>IsBP ((∀u∈us,SzR u.limit 20)/\us.length<=20) e/\Turned (fun _=>False) W w':=by
 have mx:(us.length:Int)<=9223372036854775807:=by have:=hg.len;unfold maxLen at this;omega
 obtain⟨nu,hnu⟩ : ∃n,us.length=n:=⟨_,rfl⟩;have HNU:=zh hnu;have HG:=zh hg;obtain⟨P,hP⟩ : ∃P:Prop,P=((∀u∈us,SzR u.limit 20)/\us.length<=20):=⟨_,rfl⟩;rw[<- hP];have HP:=zh hP;rw[hnu] at mx ⊢;clear hnu hg hP;by_cases h1:(20:Int) < nu
 ·go_enter Tryz.func7,Tryz.ntmps7;go_wp2_with fail;go_ret;exact⟨IsBP.no _,Turned.refl _ _⟩
 go_enter Tryz.func7,Tryz.ntmps7;go_wp2_with fail
 go_loopw [3] (fun i wr=>∃k:Nat,k<=nu/\i=(.int .i64 k)/\Hid (Turned (fun _=>False) W wr/\∀j u,j < k->us[j]? = some u->SzR u.limit 20)) (fun i _=>nu-(intOf i).toNat)
 case atStart=>exact⟨0,Nat.zero_le _,rfl,zh ⟨Turned.refl _ _,fun j u hj=>by omega⟩⟩
 case round =>
  obtain⟨k,hk,rfl,HI⟩:=hrel;by_cases hlt:k < nu
  ·have hx:us[k]? = some (us[k]'(by rw[HNU.out];exact hlt)):=List.getElem?_eq_getElem _
   obtain⟨x,hxe⟩ : ∃x,us[k]'(by rw[HNU.out];exact hlt)=x:=⟨_,rfl⟩
   rw[hxe] at hx;obtain⟨b,a,rfl,-,-,-,e2,e3⟩:=(HG.out.turned HI.out.1).orders hx;have HXX:=zh hx;obtain⟨xk,⟨xn,xx,xd⟩⟩:=x;clear hxe hx;by_cases g1:(20:Int) < (xx.size:Int)
   ·go_wp2_with fail;go_ret;exact⟨IsBP.no _,HI.out.1⟩
   by_cases g2:(20:Int) < (xd.size:Int)
   ·go_wp2_with fail;go_ret;exact⟨IsBP.no _,HI.out.1⟩
   ·have HSB:Hid (SzR ⟨xn,xx,xd⟩ 20):=zh ⟨by show xx.size<=20;omega,by show xd.size<=20;omega⟩
    go_wp2_with fail
    go_roundw
    case rel=>exact⟨k+1,by omega,by go_num,zh ⟨HI.out.1,fun j u hj hu=>by
     by_cases he:j=k
     ·subst he;rw[HXX.out] at hu;cases hu
      exact HSB.out
     ·exact HI.out.2 j u (by omega) hu⟩⟩
    case measure=>simp[intOf];omega
  ·obtain rfl:k=nu:=by omega
   go_wp2_with fail;go_ret;refine⟨IsBP.yes ?_,HI.out.1⟩;rw[HP.out];refine⟨fun u hu=>?_,by rw[HNU.out];omega⟩
   obtain⟨j,hj⟩:=List.mem_iff_getElem?.1 hu;exact HI.out.2 j u (by rw[<- HNU.out];exact(List.getElem?_eq_some_iff.1 hj).1) hj
def okL {α:Type} (e:Int) (l:List α):List α:=if e=0 then l else[]
theorem okL_ok{α:Type} {e:Int} (h:e=0) (l:List α):okL e l=l:=if_pos h
theorem okL_bad{α:Type} {e:Int} (h:e≠0) (l:List α):okL e l=[]:=if_neg h
structure LIn (W:World) (rs:List Rc) (lo hi:List Rv) (cs:List Cl) (rp lp hp cp:Option Addr) (rc lc hc cc:Nat):Prop where
 i:OIn W rs lo hi cs rp lp hp cp rc lc hc cc
 n8:rs.length<=8\/40 < rs.length
 m12:cs.length<=12\/200 < cs.length
section
variable {rs:List Rc} {lo hi:List Rv} {cs:List Cl} {rp lp hp cp:Option Addr} {rc lc hc cc:Nat} {W V:World}
theorem LIn.on(h:LIn W rs lo hi cs rp lp hp cp rc lc hc cc) (t:Turned (fun _=>False) W V):LIn V rs lo hi cs rp lp hp cp rc lc hc cc:=⟨h.i.on t,h.n8,h.m12⟩
theorem LIn.few(h:LIn W rs lo hi cs rp lp hp cp rc lc hc cc) (he:ordE rs lo hi cs=0):rs.length<=8/\cs.length<=12:=by
 have h1:=(ordE_zero he).low;have h2:=h1.riv.len;rw[List.length_map] at h2;have h3:=h1.many;have h4:=h.n8;have h5:=h.m12;omega
def dueV (rs:List Rc) (lo hi:List Rv) (cs:List Cl) (os:List Or):Int:=if ordE rs lo hi cs=0 then dueE cs.length (takesR rs cs hi) os else ordE rs lo hi cs
def matV (rs:List Rc) (lo hi:List Rv) (cs:List Cl) (k:Int):Int:=if ordE rs lo hi cs=0 then(if k < 0\/(cs.length:Int)<=k then 8 else 0) else ordE rs lo hi cs
theorem Grown.atw{α:Type} {W:World} {base e s:Nat} {enc:α->List Value} {p:Option Addr} {c:Nat} {l:List α} (h:Grown W base e s enc (.slice p l.length c) l) (henc:∀x,(enc x).length=s):At W.heap.size W s enc l p c:=h.at_ henc (Nat.le_refl _)
theorem oLimits_ag(h:LIn W rs lo hi cs rp lp hp cp rc lc hc cc) :
  Calls Tryz.prog 9 #[.agg #[.slice rp rs.length rc,.slice lp lo.length lc,.slice hp hi.length hc],.slice cp cs.length cc] W fun e w'=>∃p c q d,e=.returned (.tuple #[.slice p (okL (ordE rs lo hi cs) (takesR rs cs lo)).length c,.slice q (okL (ordE rs lo hi cs) (takesR rs cs hi)).length d,(.int .i64 (ordE rs lo hi cs))])/\At w'.heap.size w' 3 ratCells (okL (ordE rs lo hi cs) (takesR rs cs lo)) p c/\At w'.heap.size w' 3 ratCells (okL (ordE rs lo hi cs) (takesR rs cs hi)) q d/\Turned (fun _=>False) W w':=by
 by_cases he:ordE rs lo hi cs=0
 ·rw[okL_ok he,okL_ok he];refine(oLimits_ok h.i he (h.few he).1 (h.few he).2).mono ?_;rintro e w' ⟨a,b,rfl,-,ha,hb,-,t⟩;have l1:(takesR rs cs lo).length=cs.length:=repL_len _ _;have l2:(takesR rs cs hi).length=cs.length:=repL_len _ _;have mx:=(h.i.on t).cl.len;refine⟨_,_,_,_,by rw[he,l1,l2],?_,?_,t⟩
  ·have:=ha.at_ ha.lt (by rw[l1];exact mx)
   rwa [l1] at this
  ·have:=hb.at_ hb.lt (by rw[l2];exact mx)
   rwa [l2] at this
 ·rw[okL_bad he,okL_bad he];refine(oLimits_bad h.i rfl he).mono ?_;rintro e w' ⟨rfl,t⟩;exact⟨_,_,_,_,rfl,At.nil _ _ _ _,At.nil _ _ _ _,t⟩
theorem lLimits_ag(h:LIn W rs lo hi cs rp lp hp cp rc lc hc cc) :
  Calls Tryz.prog 10 #[.agg #[.slice rp rs.length rc,.slice lp lo.length lc,.slice hp hi.length hc],.slice cp cs.length cc] W fun e w'=>∃p c q d,e=.returned (.agg #[.slice p (okL (ordE rs lo hi cs) (takesR rs cs lo)).length c,.slice q (okL (ordE rs lo hi cs) (takesR rs cs hi)).length d,(.int .i64 (ordE rs lo hi cs))])/\At w'.heap.size w' 3 ratCells (okL (ordE rs lo hi cs) (takesR rs cs lo)) p c/\At w'.heap.size w' 3 ratCells (okL (ordE rs lo hi cs) (takesR rs cs hi)) q d/\Turned (fun _=>False) W w':=by
 by_cases he:ordE rs lo hi cs=0
 ·rw[okL_ok he,okL_ok he];refine(lLimits_ok h.i he (h.few he).1 (h.few he).2).mono ?_;rintro e w' ⟨p,c,q,d,rfl,-,ha,hb,-,t⟩;have l1:(takesR rs cs lo).length=cs.length:=repL_len _ _;have l2:(takesR rs cs hi).length=cs.length:=repL_len _ _;exact⟨p,c,q,d,by rw[he,l1,l2],ha,hb,t⟩
 ·rw[okL_bad he,okL_bad he];refine(lLimits_bad h.i rfl he).mono ?_;rintro e w' ⟨rfl,t⟩;exact⟨_,_,_,_,rfl,At.nil _ _ _ _,At.nil _ _ _ _,t⟩
theorem oOrders_ag(h:LIn W rs lo hi cs rp lp hp cp rc lc hc cc) :
  Calls Tryz.prog 11 #[.agg #[.slice rp rs.length rc,.slice lp lo.length lc,.slice hp hi.length hc],.slice cp cs.length cc] W fun e w'=>∃p c,e=.returned (.tuple #[.slice p (okL (ordE rs lo hi cs) (ordersL cs (takesR rs cs hi))).length c,(.int .i64 (ordE rs lo hi cs))])/\At w'.heap.size w' 4 orderCells (okL (ordE rs lo hi cs) (ordersL cs (takesR rs cs hi))) p c/\Turned (fun _=>False) W w':=by
 by_cases he:ordE rs lo hi cs=0
 ·rw[okL_ok he];refine(oOrders_ok h.i he (h.few he).1 (h.few he).2).mono ?_;rintro e w' ⟨p,c,rfl,hg,-,t⟩;exact⟨p,c,by rw[he],hg.atw fun _=>rfl,t⟩
 ·rw[okL_bad he];refine(oOrders_bad h.i rfl he).mono ?_;rintro e w' ⟨rfl,t⟩;exact⟨_,_,rfl,At.nil _ _ _ _,t⟩
theorem lOrders_ag(h:LIn W rs lo hi cs rp lp hp cp rc lc hc cc) :
  Calls Tryz.prog 12 #[.agg #[.slice rp rs.length rc,.slice lp lo.length lc,.slice hp hi.length hc],.slice cp cs.length cc] W fun e w'=>∃p c,e=.returned (.agg #[.slice p (okL (ordE rs lo hi cs) (ordersL cs (takesR rs cs hi))).length c,(.int .i64 (ordE rs lo hi cs))])/\At w'.heap.size w' 4 orderCells (okL (ordE rs lo hi cs) (ordersL cs (takesR rs cs hi))) p c/\Turned (fun _=>False) W w':=by
 by_cases he:ordE rs lo hi cs=0
 ·rw[okL_ok he];refine(lOrders_ok h.i he (h.few he).1 (h.few he).2).mono ?_;rintro e w' ⟨p,c,rfl,-,ha,-,t⟩;exact⟨p,c,by rw[he],ha,t⟩
 ·rw[okL_bad he];refine(lOrders_bad h.i rfl he).mono ?_;rintro e w' ⟨rfl,t⟩;exact⟨_,_,rfl,At.nil _ _ _ _,t⟩
theorem oSure_ag(h:LIn W rs lo hi cs rp lp hp cp rc lc hc cc) :
  Calls Tryz.prog 13 #[.agg #[.slice rp rs.length rc,.slice lp lo.length lc,.slice hp hi.length hc],.slice cp cs.length cc] W fun e w'=>∃p c,e=.returned (.tuple #[.slice p (okL (ordE rs lo hi cs) (sureL cs (takesR rs cs lo))).length c,(.int .i64 (ordE rs lo hi cs))])/\At w'.heap.size w' 1 intCells (okL (ordE rs lo hi cs) (sureL cs (takesR rs cs lo))) p c/\Turned (fun _=>False) W w':=by
 by_cases he:ordE rs lo hi cs=0
 ·rw[okL_ok he];refine(oSure_ok h.i he (h.few he).1 (h.few he).2).mono ?_;rintro e w' ⟨p,c,rfl,hg,t⟩;exact⟨p,c,by rw[he],hg.atw fun _=>rfl,t⟩
 ·rw[okL_bad he];refine(oSure_bad h.i rfl he).mono ?_;rintro e w' ⟨rfl,t⟩;exact⟨_,_,rfl,At.nil _ _ _ _,t⟩
theorem lSure_ag(h:LIn W rs lo hi cs rp lp hp cp rc lc hc cc) :
  Calls Tryz.prog 14 #[.agg #[.slice rp rs.length rc,.slice lp lo.length lc,.slice hp hi.length hc],.slice cp cs.length cc] W fun e w'=>∃p c,e=.returned (.agg #[.slice p (okL (ordE rs lo hi cs) (sureL cs (takesR rs cs lo))).length c,(.int .i64 (ordE rs lo hi cs))])/\At w'.heap.size w' 1 intCells (okL (ordE rs lo hi cs) (sureL cs (takesR rs cs lo))) p c/\Turned (fun _=>False) W w':=by
 by_cases he:ordE rs lo hi cs=0
 ·rw[okL_ok he];refine(lSure_ok h.i he (h.few he).1 (h.few he).2).mono ?_;rintro e w' ⟨p,c,rfl,-,ha,-,t⟩;exact⟨p,c,by rw[he],ha,t⟩
 ·rw[okL_bad he];refine(lSure_bad h.i rfl he).mono ?_;rintro e w' ⟨rfl,t⟩;exact⟨_,_,rfl,At.nil _ _ _ _,t⟩
theorem oDue_ag(h:LIn W rs lo hi cs rp lp hp cp rc lc hc cc) (os:List Or) (po:Option Addr) (co:Nat) (ho:At W.heap.size W 4 orderCells os po co) (so:∀o∈os,SzR o.limit 20) :
  Calls Tryz.prog 24 #[.agg #[.slice rp rs.length rc,.slice lp lo.length lc,.slice hp hi.length hc],.slice cp cs.length cc,.slice po os.length co] W fun e w'=>e=.returned (.int .i64 (dueV rs lo hi cs os))/\Turned (fun _=>False) W w':=by
 unfold dueV;by_cases he:ordE rs lo hi cs=0
 ·rw[if_pos he];exact oDue_ok h.i he (h.few he).1 (h.few he).2 os po co ho (fun o hx=>(so o hx).mono (by omega))
 ·rw[if_neg he];exact oDue_bad h.i rfl he os.length po co
theorem lDue_ag(h:LIn W rs lo hi cs rp lp hp cp rc lc hc cc) (os:List Or) (po:Option Addr) (co:Nat) (ho:At W.heap.size W 4 orderCells os po co) (so:∀o∈os,SzR o.limit 20) :
  Calls Tryz.prog 25 #[.agg #[.slice rp rs.length rc,.slice lp lo.length lc,.slice hp hi.length hc],.slice cp cs.length cc,.slice po os.length co] W fun e w'=>e=.returned (.int .i64 (dueV rs lo hi cs os))/\Turned (fun _=>False) W w':=by
 unfold dueV;by_cases he:ordE rs lo hi cs=0
 ·rw[if_pos he];exact lDue_ok h.i he (h.few he).1 (h.few he).2 os po co ho (so)
 ·rw[if_neg he];exact lDue_bad h.i rfl he os.length po co
theorem oRenew_ag(h:LIn W rs lo hi cs rp lp hp cp rc lc hc cc) (os:List Or) (po:Option Addr) (co:Nat) (ho:At W.heap.size W 4 orderCells os po co) (so:∀o∈os,SzR o.limit 20) (l20:os.length<=1000) :
  Calls Tryz.prog 15 #[.agg #[.slice rp rs.length rc,.slice lp lo.length lc,.slice hp hi.length hc],.slice cp cs.length cc,.slice po os.length co] W fun e w'=>∃p c,e=.returned (.tuple #[.slice p (okL (dueV rs lo hi cs os) (renewL os (ordersL cs (takesR rs cs hi)))).length c,(.int .i64 (dueV rs lo hi cs os))])/\At w'.heap.size w' 4 orderCells (okL (dueV rs lo hi cs os) (renewL os (ordersL cs (takesR rs cs hi)))) p c/\Turned (fun _=>False) W w':=by
 by_cases hd:dueV rs lo hi cs os=0
 ·rw[okL_ok hd];have he:ordE rs lo hi cs=0:=by
   unfold dueV at hd;split at hd
   ·assumption
   ·rename_i h1;exact absurd hd h1
  have hd2:dueE cs.length (takesR rs cs hi) os=0:=by
   unfold dueV at hd;rwa [if_pos he] at hd
  refine(oRenew_ok h.i he (h.few he).1 (h.few he).2 os po co ho (fun o hx=>(so o hx).mono (by omega)) hd2 l20).mono ?_
  rintro e w' ⟨p,c,rfl,hg,t⟩;exact⟨p,c,by rw[hd],hg.atw fun _=>rfl,t⟩
 ·rw[okL_bad hd];refine(oRenew_bad os.length po co rs.length lo.length hi.length cs.length (fun A hA=>oDue_ag (h.on hA) os po co (ho.on hA) so) hd).mono ?_
  rintro e w' ⟨rfl,t⟩;exact⟨_,_,rfl,At.nil _ _ _ _,t⟩
theorem lRenew_ag(h:LIn W rs lo hi cs rp lp hp cp rc lc hc cc) (os:List Or) (po:Option Addr) (co:Nat) (ho:At W.heap.size W 4 orderCells os po co) (so:∀o∈os,SzR o.limit 20) :
  Calls Tryz.prog 16 #[.agg #[.slice rp rs.length rc,.slice lp lo.length lc,.slice hp hi.length hc],.slice cp cs.length cc,.slice po os.length co] W fun e w'=>∃p c,e=.returned (.agg #[.slice p (okL (dueV rs lo hi cs os) (renewL os (ordersL cs (takesR rs cs hi)))).length c,(.int .i64 (dueV rs lo hi cs os))])/\At w'.heap.size w' 4 orderCells (okL (dueV rs lo hi cs os) (renewL os (ordersL cs (takesR rs cs hi)))) p c/\Turned (fun _=>False) W w':=by
 by_cases hd:dueV rs lo hi cs os=0
 ·rw[okL_ok hd];have he:ordE rs lo hi cs=0:=by
   unfold dueV at hd;split at hd
   ·assumption
   ·rename_i h1;exact absurd hd h1
  have hd2:dueE cs.length (takesR rs cs hi) os=0:=by
   unfold dueV at hd;rwa [if_pos he] at hd
  refine(lRenew_ok h.i he (h.few he).1 (h.few he).2 os po co ho so hd2).mono ?_;rintro e w' ⟨p,c,rfl,ha,t⟩;exact⟨p,c,by rw[hd],ha,t⟩
 ·rw[okL_bad hd];refine(lRenew_bad os.length po co rs.length lo.length hi.length cs.length (fun A hA=>lDue_ag (h.on hA) os po co (ho.on hA) so) hd).mono ?_
  rintro e w' ⟨rfl,t⟩;exact⟨_,_,rfl,At.nil _ _ _ _,t⟩
theorem oMatters_ag(h:LIn W rs lo hi cs rp lp hp cp rc lc hc cc) (k:Int) :
  Calls Tryz.prog 17 #[.agg #[.slice rp rs.length rc,.slice lp lo.length lc,.slice hp hi.length hc],.slice cp cs.length cc,.int .i64 k] W fun e w'=>∃p c,e=.returned (.tuple #[.slice p (okL (matV rs lo hi cs k) (matTo rs cs lo hi k.toNat rs.length)).length c,(.int .i64 (matV rs lo hi cs k))])/\At w'.heap.size w' 1 intCells (okL (matV rs lo hi cs k) (matTo rs cs lo hi k.toNat rs.length)) p c/\Turned (fun _=>False) W w':=by
 by_cases he:ordE rs lo hi cs=0
 ·have hm:matV rs lo hi cs k=if k < 0\/(cs.length:Int)<=k then 8 else 0:=by unfold matV;rw[if_pos he]
  by_cases hk:k < 0\/(cs.length:Int)<=k
  ·rw[if_pos hk] at hm;rw[hm,okL_bad (by decide)]
   refine(oMatters_ok h.i he (h.few he).1 (h.few he).2 k).mono ?_;rintro e w' ⟨h1,-,t⟩;exact⟨_,_,h1 hk,At.nil _ _ _ _,t⟩
  ·rw[if_neg hk] at hm;rw[hm,okL_ok rfl];obtain⟨q,rfl⟩ : ∃q:Nat,k=q:=⟨k.toNat,by omega⟩
   rw[Int.toNat_natCast];refine(oMatters_ok h.i he (h.few he).1 (h.few he).2 (q:Int)).mono ?_;rintro e w' ⟨-,h2,t⟩;obtain⟨p,c,h3,hg⟩:=h2 q rfl (by omega)
   exact⟨p,c,h3,hg.atw fun _=>rfl,t⟩
 ·have hm:matV rs lo hi cs k=ordE rs lo hi cs:=by unfold matV;rw[if_neg he]
  rw[hm,okL_bad he];refine(oMatters_bad h.i rfl he k).mono ?_;rintro e w' ⟨rfl,t⟩;exact⟨_,_,rfl,At.nil _ _ _ _,t⟩
theorem lMatters_ag(h:LIn W rs lo hi cs rp lp hp cp rc lc hc cc) (k:Int) :
  Calls Tryz.prog 18 #[.agg #[.slice rp rs.length rc,.slice lp lo.length lc,.slice hp hi.length hc],.slice cp cs.length cc,.int .i64 k] W fun e w'=>∃p c,e=.returned (.agg #[.slice p (okL (matV rs lo hi cs k) (matTo rs cs lo hi k.toNat rs.length)).length c,(.int .i64 (matV rs lo hi cs k))])/\At w'.heap.size w' 1 intCells (okL (matV rs lo hi cs k) (matTo rs cs lo hi k.toNat rs.length)) p c/\Turned (fun _=>False) W w':=by
 by_cases he:ordE rs lo hi cs=0
 ·have hm:matV rs lo hi cs k=if k < 0\/(cs.length:Int)<=k then 8 else 0:=by unfold matV;rw[if_pos he]
  by_cases hk:k < 0\/(cs.length:Int)<=k
  ·rw[if_pos hk] at hm;rw[hm,okL_bad (by decide)]
   refine(lMatters_none h.i he (h.few he).1 (h.few he).2 k hk).mono ?_;rintro e w' ⟨rfl,t⟩;exact⟨_,_,rfl,At.nil _ _ _ _,t⟩
  ·rw[if_neg hk] at hm;rw[hm,okL_ok rfl];obtain⟨q,rfl⟩ : ∃q:Nat,k=q:=⟨k.toNat,by omega⟩
   rw[Int.toNat_natCast];refine(lMatters_ok h.i he (h.few he).1 (h.few he).2 q (by omega)).mono ?_
   rintro e w' ⟨p,c,rfl,ha,t⟩;exact⟨p,c,rfl,ha,t⟩
 ·have hm:matV rs lo hi cs k=ordE rs lo hi cs:=by unfold matV;rw[if_neg he]
  rw[hm,okL_bad he];refine(lMatters_bad h.i rfl he k).mono ?_;rintro e w' ⟨rfl,t⟩;exact⟨_,_,rfl,At.nil _ _ _ _,t⟩
end
attribute [local go_sem ↓] run_eql_rat' run_neq_rat'
theorem sameR_self(u:Rv):sameR u u=true:=by unfold sameR;simp
theorem ySame_any(us:List Rv) (p q:Option Addr) (c d N M:Nat) (W:World) (h1:At N W 3 ratCells us p c) (h2:At M W 3 ratCells us q d) :
  Calls Tryz.prog 21 #[.slice p us.length c,.slice q us.length d] W fun e w'=>e=.returned (.bool true)/\Turned (fun _=>False) W w':=by
 have mx:(us.length:Int)<=9223372036854775807:=by have:=h1.len;unfold maxLen at this;omega
 obtain⟨n,hn⟩ : ∃n,us.length=n:=⟨_,rfl⟩;have HN:=zh hn;have H1:=zh h1;have H2:=zh h2;rw[hn] at mx ⊢;clear hn h1 h2;go_enter Tryz.func21,Tryz.ntmps21;go_wp2_with fail
 go_loopw [5] (fun i wr=>∃k:Nat,k<=n/\i=(.int .i64 k)/\Hid (Turned (fun _=>False) W wr)) (fun i _=>n-(intOf i).toNat)
 case atStart=>exact⟨0,Nat.zero_le _,rfl,zh (Turned.refl _ _)⟩
 case round =>
  obtain⟨k,hk,rfl,HI⟩:=hrel;by_cases hlt:k < n
  ·have hx:us[k]? = some (us[k]'(by rw[HN.out];exact hlt)):=List.getElem?_eq_getElem _
   obtain⟨⟨un,ux,ud⟩,hxe⟩ : ∃u,us[k]'(by rw[HN.out];exact hlt)=u:=⟨_,rfl⟩
   rw[hxe] at hx;obtain⟨b,a,rfl,-,e0,e1,e2⟩:=(H1.out.turned HI.out).rats hx;obtain⟨b',a',rfl,-,g0,g1,g2⟩:=(H2.out.turned HI.out).rats hx;have hss:=sameR_self ⟨un,ux,ud⟩;have hk0:(0:Int)<=k:=by omega
   have hk1:(k:Int) < n:=by omega
   clear hx hxe;go_wp2_with fail
   go_quiet (fail)
   go_wp2_with fail
   go_roundw
   case rel=>exact⟨k+1,by omega,by go_num,zh (HI.out.trans (drewN_turned _ _ nq))⟩
   case measure=>simp[intOf];omega
  ·obtain rfl:k=n:=by omega
   go_wp2_with fail;go_ret;exact⟨rfl,HI.out⟩
theorem xSameInts_any(us:List Int) (p q:Option Addr) (c d N M:Nat) (W:World) (h1:At N W 1 intCells us p c) (h2:At M W 1 intCells us q d) :
  Calls Tryz.prog 23 #[.slice p us.length c,.slice q us.length d] W fun e w'=>e=.returned (.bool true)/\Turned (fun _=>False) W w':=by
 have mx:(us.length:Int)<=9223372036854775807:=by have:=h1.len;unfold maxLen at this;omega
 obtain⟨n,hn⟩ : ∃n,us.length=n:=⟨_,rfl⟩;have HN:=zh hn;have H1:=zh h1;have H2:=zh h2;rw[hn] at mx ⊢;clear hn h1 h2;go_enter Tryz.func23,Tryz.ntmps23;go_wp2_with fail
 go_loopw [5] (fun i wr=>∃k:Nat,k<=n/\i=(.int .i64 k)/\Hid (Turned (fun _=>False) W wr)) (fun i _=>n-(intOf i).toNat)
 case atStart=>exact⟨0,Nat.zero_le _,rfl,zh (Turned.refl _ _)⟩
 case round =>
  obtain⟨k,hk,rfl,HI⟩:=hrel;by_cases hlt:k < n
  ·have hx:us[k]? = some (us[k]'(by rw[HN.out];exact hlt)):=List.getElem?_eq_getElem _
   obtain⟨u,hxe⟩ : ∃u,us[k]'(by rw[HN.out];exact hlt)=u:=⟨_,rfl⟩
   rw[hxe] at hx;obtain⟨b,a,rfl,-,e0⟩:=(H1.out.turned HI.out).ints hx;obtain⟨b',a',rfl,-,g0⟩:=(H2.out.turned HI.out).ints hx;have hk0:(0:Int)<=k:=by omega
   have hk1:(k:Int) < n:=by omega
   clear hx hxe;go_wp2_with fail
   go_quiet (fail)
   go_wp2_with fail
   go_roundw
   case rel=>exact⟨k+1,by omega,by go_num,zh (HI.out.trans (drewN_turned _ _ nq))⟩
   case measure=>simp[intOf];omega
  ·obtain rfl:k=n:=by omega
   go_wp2_with fail;go_ret;exact⟨rfl,HI.out⟩
theorem run_equal_order(k:Int) (u:Rv) (W:World):(Op.equalIn 10000 70 (.agg #[.int .i64 k,.bool u.neg,.string u.num,.string u.den]) (.agg #[.int .i64 k,.bool u.neg,.string u.num,.string u.den])).run Tryz.prog W=.ok true W:=by
 have hS:Tryz.prog.underlying 70=some (.struct (Tryz.prog.fieldsOf 70)):=by kernel_rfl
 have hp:Tryz.prog.stoodInHeld 70=false:=by kernel_rfl
 have a1:=Tryz.isAgg9;have z1:=Tryz.sizeOf9;have u1:=Tryz.underlying9;rw[show(10000:Nat)=9999+1 from rfl,run_equalIn_agg W 9999 70 _ _ hS hp];simp only[Program.fieldsOf,Tryz.underlying70];go_simp
theorem run_neq_order(k:Int) (n:Bool) (x d:ByteArray) (W:World):(binOp .neq 70 (.agg #[.int .i64 k,.bool n,.string x,.string d]) (.agg #[.int .i64 k,.bool n,.string x,.string d])).run Tryz.prog W=.ok (.bool false) W:=by
 rw[run_neq_struct,run_equal_order k ⟨n,x,d⟩];rfl
attribute [local go_sem ↓] run_neq_order
theorem lSame_any(us:List Or) (p q:Option Addr) (c d N M:Nat) (W:World) (h1:At N W 4 orderCells us p c) (h2:At M W 4 orderCells us q d) :
  Calls Tryz.prog 22 #[.slice p us.length c,.slice q us.length d] W fun e w'=>e=.returned (.bool true)/\Turned (fun _=>False) W w':=by
 have mx:(us.length:Int)<=9223372036854775807:=by have:=h1.len;unfold maxLen at this;omega
 obtain⟨n,hn⟩ : ∃n,us.length=n:=⟨_,rfl⟩;have HN:=zh hn;have H1:=zh h1;have H2:=zh h2;rw[hn] at mx ⊢;clear hn h1 h2;go_enter Tryz.func22,Tryz.ntmps22;go_wp2_with fail
 go_loopw [5] (fun i wr=>∃k:Nat,k<=n/\i=(.int .i64 k)/\Hid (Turned (fun _=>False) W wr)) (fun i _=>n-(intOf i).toNat)
 case atStart=>exact⟨0,Nat.zero_le _,rfl,zh (Turned.refl _ _)⟩
 case round =>
  obtain⟨k,hk,rfl,HI⟩:=hrel;by_cases hlt:k < n
  ·have hx:us[k]? = some (us[k]'(by rw[HN.out];exact hlt)):=List.getElem?_eq_getElem _
   obtain⟨⟨ok,⟨un,ux,ud⟩⟩,hxe⟩ : ∃u,us[k]'(by rw[HN.out];exact hlt)=u:=⟨_,rfl⟩
   rw[hxe] at hx;obtain⟨b,a,rfl,-,e0,e1,e2,e3⟩:=(H1.out.turned HI.out).orders hx;obtain⟨b',a',rfl,-,g0,g1,g2,g3⟩:=(H2.out.turned HI.out).orders hx;have hk0:(0:Int)<=k:=by omega
   have hk1:(k:Int) < n:=by omega
   clear hx hxe;go_wp2_with fail
   go_quiet (fail)
   go_wp2_with fail
   go_roundw
   case rel=>exact⟨k+1,by omega,by go_num,zh (HI.out.trans (drewN_turned _ _ nq))⟩
   case measure=>simp[intOf];omega
  ·obtain rfl:k=n:=by omega
   go_wp2_with fail;go_ret;exact⟨rfl,HI.out⟩
section
variable (on:Nat->Nat->Bool) (n m:Nat) (place:Nat->Nat) (rank:Nat->Int) (a x t:Nat->Rat)
def boundB (k g:Nat):Bool:=(on g (place k) && decide (useQ on m place t g=passQ on n x g)) && (List.range m).all fun i=>!on g (place i) || ((decide (rank i<=rank k) || decide (t i=0)) && (!decide (rank i=rank k) || decide (t i*a k<=t k*a i)))
def fairB:Bool:=((List.range m).all fun k=>decide (0<=t k) && decide (t k<=a k)) && ((List.range n).all fun g=>decide (useQ on m place t g<=passQ on n x g)) && (List.range m).all fun k=>decide (t k=a k) || (List.range n).any (boundB on n m place rank a x t k)
end
theorem fair_of{on:Nat->Nat->Bool} {n m:Nat} {place:Nat->Nat} {rank:Nat->Int} {a x t:Nat->Rat} (h:fairB on n m place rank a x t=true):FairQ on n m place rank a x t:=by
 unfold fairB at h;rw[Bool.and_eq_true,Bool.and_eq_true,List.all_eq_true,List.all_eq_true,List.all_eq_true] at h;obtain⟨⟨h1,h2⟩,h3⟩:=h;refine⟨fun k hk=>?_,fun g hg=>of_decide_eq_true (h2 g (List.mem_range.2 hg)),fun k hk hlt=>?_⟩
 ·have:=h1 k (List.mem_range.2 hk);rw[Bool.and_eq_true,decide_eq_true_eq,decide_eq_true_eq] at this;exact this
 ·have h4:=h3 k (List.mem_range.2 hk);rw[Bool.or_eq_true,decide_eq_true_eq,List.any_eq_true] at h4;rcases h4 with h4 | ⟨g,hg,h5⟩
  ·rw[h4] at hlt;exact absurd hlt Rat.lt_irrefl
  ·unfold boundB at h5;rw[Bool.and_eq_true,Bool.and_eq_true,decide_eq_true_eq,List.all_eq_true] at h5;obtain⟨⟨h6,h7⟩,h8⟩:=h5;refine⟨g,List.mem_range.1 hg,h6,h7,fun i hi hon hr=>?_,fun i hi hon hr=>?_⟩
   ·have h9:=h8 i (List.mem_range.2 hi);rw[hon] at h9;simp only[Bool.not_true,Bool.false_or,Bool.and_eq_true,Bool.or_eq_true,decide_eq_true_eq] at h9;rcases h9.1 with h10 | h10
    ·omega
    ·exact h10
   ·have h9:=h8 i (List.mem_range.2 hi);rw[hon] at h9;simp only[Bool.not_true,Bool.false_or,Bool.and_eq_true,Bool.or_eq_true,decide_eq_true_eq,Bool.not_eq_true',decide_eq_false_iff_not] at h9;rcases h9.2 with h10 | h10
    ·exact absurd hr h10
    ·exact h10
def qL (l:List Rat) (k:Nat):Rat:=l.getD k 0
def exN (n:Nat):Rv:=repR (n:Rat)
def exR (w1 w2 w3:Option Addr) (c1 c2 c3:Nat):List Rc:=[⟨2,[1],w1,c1⟩,⟨2,[1],w2,c2⟩,⟨-1,[],w3,c3⟩]
def exC:List Cl:=[⟨2,1,exN 5⟩,⟨0,2,exN 4⟩,⟨1,2,exN 4⟩,⟨0,3,exN 3⟩]
def exU (n:Nat):List Rv:=[exN n,exN 2,exN 1]
section
variable {w1 w2 w3:Option Addr} {c1 c2 c3:Nat}
theorem ex_sup(n:Nat) (hn:n=6\/n=7\/n=10):supE (exR w1 w2 w3 c1 c2 c3) (exU n) exC=0:=by
 rcases hn with rfl | rfl | rfl <;> kernel_rfl
theorem ex_take(n:Nat) (l:List Rat) (hn:n=6\/n=7\/n=10) (hl:fairB (onN [2,2,-1]) 3 4 (placeK exC) (rankK exC) (amtK exC) (gainQ (exU n)) (qL l)=true):takesR (exR w1 w2 w3 c1 c2 c3) exC (exU n)=repL 4 (qL l) :=
 (take_one (supE_zero (ex_sup n hn)) (fair_of hl)).symm
theorem ex6:takesR (exR w1 w2 w3 c1 c2 c3) exC (exU 6)=[exN 5,exN 2,exN 2,exN 0]:=(ex_take 6 [5,2,2,0] (by decide) (by kernel_rfl)).trans (by kernel_rfl)
theorem ex10:takesR (exR w1 w2 w3 c1 c2 c3) exC (exU 10)=[exN 5,exN 4,exN 2,exN 2]:=(ex_take 10 [5,4,2,2] (by decide) (by kernel_rfl)).trans (by kernel_rfl)
theorem ex7:takesR (exR w1 w2 w3 c1 c2 c3) exC (exU 7)=[exN 5,exN 3,exN 2,exN 0]:=(ex_take 7 [5,3,2,0] (by decide) (by kernel_rfl)).trans (by kernel_rfl)
end
attribute [local go_sem ↓] run_eql_rat' run_neq_rat'
def exT (l:List Nat) (k:Nat):List Rv:=(l.take k).map exN
theorem lawInts_any(l:List Nat) (p:Option Addr) (c N:Nat) (W:World) (h:At N W 1 intCells (l.map fun n:Nat=>(n:Int)) p c) (hb:∀n∈l,n<=1000) (hl:l.length<=1000) :
  Calls Tryz.prog 38 #[.slice p l.length c] W fun e w'=>∃q d,e=.returned (.slice q (l.map exN).length d)/\Grown w' W.heap.size 68 3 ratCells (.slice q (l.map exN).length d) (l.map exN)/\Turned (fun _=>False) W w':=by
 obtain⟨n,hn⟩ : ∃n,l.length=n:=⟨_,rfl⟩;have HN:=zh hn;have H1:=zh h;have HB:=zh hb;have HL:=zh hl;rw[hn] at hl ⊢;have mx:(n:Int)<=1000:=by omega
 have HEN:Hid (l.map exN=exT l n):=zh (by unfold exT;rw[List.take_of_length_le (Nat.le_of_eq hn)])
 obtain⟨R,hR⟩ : ∃R,l.map exN=R:=⟨_,rfl⟩;rw[hR] at HEN ⊢;clear hn h hb hR;go_enter Tryz.func38,Tryz.ntmps38;go_wp2_with fail
 go_loopw [3,8] (fun v i wr=>∃(k:Nat) (q:Option Addr) (d:Nat),k<=n/\i=(.int .i64 k)/\v=.slice q (exT l k).length d/\Hid (Grown wr W.heap.size 68 3 ratCells (.slice q (exT l k).length d) (exT l k)/\Turned (fun _=>False) W wr)) (fun _ i _=>n-(intOf i).toNat)
 case atStart=>exact⟨0,none,0,Nat.zero_le _,rfl,rfl,zh ⟨Grown.nil _ _ _ _ _,Turned.refl _ _⟩⟩
 case round =>
  obtain⟨k,q,d,hk,rfl,rfl,HI⟩:=hrel;by_cases hlt:k < n
  ·have hx:l[k]? = some (l[k]'(by rw[HN.out];exact hlt)):=List.getElem?_eq_getElem _
   obtain⟨u,hxe⟩ : ∃u,l[k]'(by rw[HN.out];exact hlt)=u:=⟨_,rfl⟩
   rw[hxe] at hx;have hx2:(l.map fun n:Nat=>(n:Int))[k]? = some (u:Int):=by rw[List.getElem?_map,hx];rfl
   obtain⟨b,a,rfl,-,e0⟩:=(H1.out.turned HI.out.2).ints hx2;have HU:=HB.out u (List.mem_of_getElem? hx);have HIN:=zh (fun W=>qInt_any u W (by omega))
   obtain⟨⟨un,ux,ud⟩,hu⟩ : ∃v,exN u=v:=⟨_,rfl⟩;rw[show repR (u:Rat)=⟨un,ux,ud⟩ from hu] at HIN;have HST:Hid (exT l (k+1)=exT l k++[⟨un,ux,ud⟩]):=zh (by
    obtain⟨h1,h2⟩:=List.getElem?_eq_some_iff.1 hx;unfold exT;rw[List.take_succ_eq_append_getElem h1,List.map_append,h2];simp[hu])
   have hlen:(exT l k).length<=1000:=by unfold exT;rw[List.length_map,List.length_take];omega
   have hk0:(0:Int)<=k:=by omega
   have hk1:(k:Int) < n:=by omega
   clear hx hxe hx2 hu;go_wp2_with fail;refine(HIN.out wr).mono ?_;rintro e w2 ⟨rfl,t2⟩;have HT2:=zh t2;have HG:=zh (HI.out.1.turned t2 fun _ h=>h.elim)
   have HZ:=zh (Nat.le_trans HI.out.2.size t2.size);clear t2 e0;go_wp2_with (at_builtin;(refine app_rat w2 rfl _ _ rfl W.heap.size (.slice q (exT l k).length d) ⟨un,ux,ud⟩ (exT l k) rfl rfl HG.out HZ.out (by omega) ?_);intro p' c' w4 ho4 ht4;have HS:=zh (And.intro ho4 ht4);clear ho4 ht4)
   go_roundw
   case rel=>exact⟨k+1,p',c',by omega,by go_num,by rw[HST.out];simp,zh ⟨by rw[HST.out];exact HS.out.1,(HI.out.2.trans HT2.out).fresh HS.out.2 fun _=>id⟩⟩
   case measure=>simp[intOf];omega
  ·obtain rfl:k=n:=by omega
   have HG:=HI.out.1;rw[<- HEN.out] at HG ⊢;have HG2:=zh HG;clear HG;go_wp2_with fail;go_ret;exact⟨q,d,rfl,HG2.out,HI.out.2⟩
theorem lawAt_any(k:Int) (a b:Nat) (W:World) (ha:a<=1000) (hb:b<=1000) (h0:b≠0):Calls Tryz.prog 39 #[.int .i64 k,.int .i64 a,.int .i64 b] W fun e w'=>∃u:Rv,u=repR ((a:Rat) / (b:Rat))/\e=.returned (.agg #[.int .i64 k,.bool u.neg,.string u.num,.string u.den])/\Turned (fun _=>False) W w':=by
 have HM:=zh (fun W=>qMake_any a b W (by omega) (by omega) h0)
 obtain⟨⟨un,ux,ud⟩,hu⟩ : ∃v,repR ((a:Rat) / (b:Rat))=v:=⟨_,rfl⟩;rw[hu] at HM ⊢;clear hu;have n0:=World.alloc_heap_new W (.cells #[.int .i64 0,.bool false,.string ⟨#[]⟩,.string ⟨#[]⟩] 70);have HN0:=zh n0;clear n0;obtain⟨w0,hw0⟩ : ∃w,w=W.alloc (.cells #[.int .i64 0,.bool false,.string ⟨#[]⟩,.string ⟨#[]⟩] 70):=⟨_,rfl⟩;have HT0:Hid (Turned (fun _=>False) W w0):=zh (by rw[hw0];exact(Turned.refl _ _).alloc _)
 rw[<- hw0] at HN0;go_enter Tryz.func39,Tryz.ntmps39;go_wp2_with fail;rw[<- hw0];refine(HM.out w0).mono ?_;rintro e w1 ⟨rfl,t1⟩;have HT1:=zh t1;have z1:=keepB (Turned.alloc t1 (.cells #[.bool un,.string ux,.string ud] 68)) HN0.out;have a0:(w1.alloc (.cells #[.bool un,.string ux,.string ud] 68)).cell? ⟨W.heap.size,0,none⟩=some (.int .i64 0):=by simp[World.cell?,z1]
 have a1:(w1.alloc (.cells #[.bool un,.string ux,.string ud] 68)).cell? ⟨W.heap.size,1,none⟩=some (.bool false):=by simp[World.cell?,z1]
 have a2:(w1.alloc (.cells #[.bool un,.string ux,.string ud] 68)).cell? ⟨W.heap.size,2,none⟩=some (.string ⟨#[]⟩):=by simp[World.cell?,z1]
 have a3:(w1.alloc (.cells #[.bool un,.string ux,.string ud] 68)).cell? ⟨W.heap.size,3,none⟩=some (.string ⟨#[]⟩):=by simp[World.cell?,z1]
 have b0:=free_of_box z1 0;have b1:=free_of_box z1 1;have b2:=free_of_box z1 2;have b3:=free_of_box z1 3;have z2:((((w1.alloc (.cells #[.bool un,.string ux,.string ud] 68)).setCell ⟨W.heap.size,0,none⟩ (.int .i64 k)).setCell ⟨W.heap.size,1,none⟩ (.bool un)).setCell ⟨W.heap.size,2,none⟩ (.string ux)).setCell ⟨W.heap.size,3,none⟩ (.string ud) |>.heap[W.heap.size]? = some (.cells #[.int .i64 k,.bool un,.string ux,.string ud] 70 (0,0)):=by
  rw[set_block (set_block (set_block (set_block z1 0 (.int .i64 k)) 1 (.bool un)) 2 (.string ux)) 3 (.string ud)];simp
 have t2:Turned (fun i=>i=W.heap.size) (w1.alloc (.cells #[.bool un,.string ux,.string ud] 68)) (((((w1.alloc (.cells #[.bool un,.string ux,.string ud] 68)).setCell ⟨W.heap.size,0,none⟩ (.int .i64 k)).setCell ⟨W.heap.size,1,none⟩ (.bool un)).setCell ⟨W.heap.size,2,none⟩ (.string ux)).setCell ⟨W.heap.size,3,none⟩ (.string ud)) :=
  ((((Turned.refl (fun i=>i=W.heap.size) _).setCell (p:=⟨W.heap.size,0,none⟩) rfl _).setCell (p:=⟨W.heap.size,1,none⟩) rfl _).setCell (p:=⟨W.heap.size,2,none⟩) rfl _).setCell (p:=⟨W.heap.size,3,none⟩) rfl _
 have HZ:=zh (And.intro z2 t2);clear t1 z1 z2 t2 hw0;go_wp2_with fail;refine bodyPost_ret (results_cell_row (fn:=Tryz.f39) rfl _ _ W.heap.size 70 #[.int .i64 k,.bool un,.string ux,.string ud] (0,0) _ rfl HZ.out.1 Tryz.underlying70 rfl (by kernel_rfl)) rfl ?_
 exact⟨_,rfl,rfl,(HT0.out.trans (HT1.out.alloc _)).fresh HZ.out.2 fun g hg=>by omega⟩
end Go.Proofs.YtanhhdndgkhcfaaGreatDoor
