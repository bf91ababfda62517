/- Part 24 of the proof of lawSpec.card: SupRefJ, OrdFew, OrdSmall, OrdRefA, SupRefB, SupPlain, SupRefC, SupRefD. Conditions: those of each theorem. -/
import Derived.StillTailTactics
import Derived.Test.YtanhhdndgkhcfaaGreatDoorSp01
import Derived.Test.YtanhhdndgkhcfaaGreatDoorSp10
import Derived.Test.YtanhhdndgkhcfaaGreatDoorSp12
import Derived.Test.YtanhhdndgkhcfaaGreatDoorSp20
import Derived.Test.YtanhhdndgkhcfaaGreatDoorSp21
import Derived.Test.YtanhhdndgkhcfaaGreatDoorSp23
set_option maxRecDepth 100000
set_option maxHeartbeats 8000000
namespace Go.Proofs.YtanhhdndgkhcfaaGreatDoor
open Go Go.Proofs Go.RowKit
attribute [local go_sem] Oper.semAt_some
attribute [local go_sem ↓] run_eql_rat' run_neq_rat'
theorem yCheck_any(rs:List Rc) (us:List Rv) (cs:List Cl) (rp gp cp:Option Addr) (rc gc cc:Nat) (W:World) (hr:RivAt W.heap.size W rs rp rc) (hg:At W.heap.size W 3 ratCells us gp gc) (hc:At W.heap.size W 5 claimCells cs cp cc)
  (su:∀u∈us,SzR u 300000000) (sc:∀c∈cs,SzR c.amt 300000000) :
  Calls Tryz.prog 50 #[.agg #[.slice rp rs.length rc,.slice gp us.length gc],.slice cp cs.length cc] W fun e w'=>e=.returned (.int .i64 (supE rs us cs))/\Turned (fun _=>False) W w':=by
 have T0:=(zr W).alloc (.cells #[.slice rp rs.length rc,.slice gp us.length gc] 65);have B0:=World.alloc_heap_new W (.cells #[.slice rp rs.length rc,.slice gp us.length gc] 65);have HB0:=zh B0;have hr0:=(hr.turned T0).mono T0.size;have HE:=zh (xCheck_any rs rp rc _ hr0);have HG:=zh (hg.turned T0);have HSU:=zh su;have HC:=zh (hc.turned T0);have HSC:=zh sc;have m1:(cs.length:Int)<=9223372036854775807:=by have:=hc.len;unfold maxLen at this;omega
 have m2:(us.length:Int)<=9223372036854775807:=by have:=hg.len;unfold maxLen at this;omega
 have m3:(rs.length:Int)<=9223372036854775807:=by have:=hr.at_.len;unfold maxLen at this;omega
 have HV:Hid (supE rs us cs=if rivE rs≠0 then rivE rs else if us.length≠rs.length\/(us.any fun u=>!natR u)=true then 1 else if 200 < cs.length then 2 else claimsE rs.length cs):=zh rfl
 obtain⟨nr,hnr⟩ : ∃n,rs.length=n:=⟨_,rfl⟩;obtain⟨nu,hnu⟩ : ∃n,us.length=n:=⟨_,rfl⟩;obtain⟨nc,hnc⟩ : ∃n,cs.length=n:=⟨_,rfl⟩;have HNC:=zh hnc;have HNU:=zh hnu;obtain⟨rv,hrv⟩ : ∃v,rivE rs=v:=⟨_,rfl⟩;obtain⟨av,hav⟩ : ∃v,(us.any fun u=>!natR u)=v:=⟨_,rfl⟩
 have HAV:=zh hav;obtain⟨sv,hsv⟩ : ∃v,supE rs us cs=v:=⟨_,rfl⟩;rw[hnr,hnu] at B0 T0 HB0 HG HE HC;rw[hrv] at HE;rw[hnr,hnu,hnc,hrv,hav,hsv] at HV;rw[hnr] at m3;rw[hnu] at m2;rw[hnc] at m1;rw[hnr,hnu,hnc,hsv];obtain⟨w0,hw0⟩ : ∃w0,w0=W.alloc (.cells #[.slice rp nr rc,.slice gp nu gc] 65):=⟨_,rfl⟩;rw[<- hw0] at B0 T0 HB0 HG HE HC;have HT0:=zh T0;clear hr hg hc su sc hr0 hnr hnu hnc hrv hav hsv B0 T0;have CE:∀A,Turned (fun _=>False) w0 A->A.cell? ⟨W.heap.size,0,none⟩=some (.slice rp nr rc)/\A.cell? ⟨W.heap.size,1,none⟩=some (.slice gp nu gc):=fun A hA=>by
  have:=keepB hA HB0.out;constructor <;> simp[World.cell?,this]
 have HCE:=zh CE;clear CE;go_enter Tryz.func50,Tryz.ntmps50;go_wp2_with fail;rw[<- hw0];refine HE.out.mono ?_;rintro e w1 ⟨rfl,t1⟩;have HT1:=zh t1;obtain⟨c0,c1⟩:=HCE.out w1 t1;clear t1 HE hw0;by_cases h1:rv=0
 ·subst h1;replace HV:=zh (HV.out.trans (if_neg (by simp)))
  by_cases h2:nu=nr
  ·subst h2;go_wp2_with fail;clear c0 c1
   go_loopw [6] (fun i wr=>∃k:Nat,k<=nu/\i=(.int .i64 k)/\Hid (Turned (fun _=>False) w0 wr/\∀j u,j < k->us[j]? = some u->natR u=true)) (fun i _=>nu-(intOf i).toNat)
   case atStart=>exact⟨0,Nat.zero_le _,rfl,zh ⟨HT1.out,fun j u h=>by omega⟩⟩
   case round =>
    obtain⟨k,hk,rfl,HH⟩:=hrel;obtain⟨c0,c1⟩:=HCE.out wr HH.out.1;by_cases hlt:k < nu
    ·obtain⟨u,hu⟩ : ∃u,us[k]? = some u:=⟨_,List.getElem?_eq_getElem (by rw[HNU.out];exact hlt)⟩
     obtain⟨⟨un,ux,ud⟩,hxe⟩ : ∃v,u=v:=⟨_,rfl⟩;rw[hxe] at hu;obtain⟨b,a,rfl,-,e0,e1,e2⟩:=(HG.out.turned HH.out.1).rats hu;have HN:=zh (fun W=>yNatural_any ⟨un,ux,ud⟩ W (HSU.out _ (List.mem_of_getElem? hu)))
     have hk0:(0:Int)<=k:=by omega
     have hk1:(k:Int) < nu:=by omega
     have HU:=zh hu;obtain⟨nv,hnv⟩ : ∃v,natR ⟨un,ux,ud⟩=v:=⟨_,rfl⟩;rw[hnv] at HN;have HNV:=zh hnv;clear hu hnv hxe;cases nv
     ·have HV1:Hid (sv=1):=zh (by
       rw[HV.out,if_pos];refine .inr ?_;rw[<- HAV.out];exact List.any_eq_true.2 ⟨_,List.mem_of_getElem? HU.out,by rw[HNV.out];rfl⟩)
      go_wp2_with fail;refine(HN.out _).mono ?_;rintro e w2 ⟨rfl,t2⟩;have HT2:=zh (HH.out.1.trans t2);clear t2;go_wp2_with fail;go_ret;rw[HV1.out];exact⟨rfl,HT0.out.trans HT2.out⟩
     ·have HNX:Hid (∀j u,j < k+1->us[j]? = some u->natR u=true):=zh fun j u hj hu=>by
       rcases Nat.lt_or_ge j k with h1 | h1
       ·exact HH.out.2 j u h1 hu
       ·obtain rfl:j=k:=by omega
        rw[HU.out] at hu;cases hu;exact HNV.out
      go_wp2_with fail;refine(HN.out _).mono ?_;rintro e w2 ⟨rfl,t2⟩;have HT2:=zh (HH.out.1.trans t2);clear t2;go_wp2_with fail
      go_roundw
      case rel=>exact⟨k+1,by omega,by go_num,zh ⟨HT2.out,HNX.out⟩⟩
      case measure=>simp[intOf];omega
    ·obtain rfl:nu=k:=by omega
     have HT2:=zh HH.out.1;replace HV:=zh (HV.out.trans (if_neg (by
      rintro(h | h)
      ·exact h rfl
      ·rw[<- HAV.out,List.any_eq_true] at h;obtain⟨u,h3,h4⟩:=h;obtain⟨j,hj⟩:=List.mem_iff_getElem?.1 h3;rw[HH.out.2 j u (by have:=(List.getElem?_eq_some_iff.1 hj).1;rw[HNU.out] at this;exact this) hj] at h4
       cases h4)))
     clear hlt hk HT1 HH;by_cases h5:200 < nc
     ·replace HV:=zh (HV.out.trans (if_pos h5));have h6:(200:Int) < nc:=by omega
      go_wp2_with fail;go_ret;rw[HV.out];exact⟨rfl,HT0.out.trans HT2.out⟩
     have h6:¬(200:Int) < nc:=by omega
     replace HV:=zh (HV.out.trans (if_neg h5));clear h5;go_wp2_with fail;clear c0 c1
     go_loopw [8] (fun i wr=>∃k:Nat,k<=nc/\i=(.int .i64 k)/\Hid (Turned (fun _=>False) w0 wr/\∀j u,j < k->cs[j]? = some u->badC nu u=0)) (fun i _=>nc-(intOf i).toNat)
     case atStart=>exact⟨0,Nat.zero_le _,rfl,zh ⟨HT2.out,fun j u h=>by omega⟩⟩
     case round =>
      clear HT2;obtain⟨k,hk,rfl,HH⟩:=hrel;by_cases hlt:k < nc
      ·have hx:cs[k]? = some (cs[k]'(by rw[HNC.out];exact hlt)):=List.getElem?_eq_getElem _
       obtain⟨⟨pl,rk,⟨un,ux,ud⟩⟩,hxe⟩ : ∃u,cs[k]'(by rw[HNC.out];exact hlt)=u:=⟨_,rfl⟩
       rw[hxe] at hx;obtain⟨b,a,rfl,-,e0,e1,e2,e3,e4⟩:=(HC.out.turned HH.out.1).claims hx;have TA:=zr wr;have ce:=HCE.out _ (HH.out.1.trans TA);obtain⟨k0,k1⟩:=ce;have HN:=zh (fun W=>yNatural_any ⟨un,ux,ud⟩ W (HSC.out _ (List.mem_of_getElem? hx)))
       have HCL:Hid (claimsE nu cs=if badC nu ⟨pl,rk,⟨un,ux,ud⟩⟩=0 then claimsE nu (cs.drop (k+1)) else badC nu ⟨pl,rk,⟨un,ux,ud⟩⟩):=zh (by
        rw[claimsE_drop nu cs k HH.out.2,List.drop_eq_getElem_cons (by rw[HNC.out];exact hlt),hxe,claimsE])
       have HX:=zh hx;have HTA:=zh (HH.out.1.trans TA);have HCS:=zh (And.intro e2 (And.intro e3 e4));have HBAD:Hid (∀v,badC nu ⟨pl,rk,⟨un,ux,ud⟩⟩=v->v≠0->sv=v):=zh fun v h1 h2=>by
        rw[HV.out,HCL.out,if_neg (by rw[h1];exact h2),h1]
       have HNX:Hid (badC nu ⟨pl,rk,⟨un,ux,ud⟩⟩=0->∀A,Turned (fun _=>False) w0 A->Hid (Turned (fun _=>False) w0 A/\∀j u,j < k+1->cs[j]? = some u->badC nu u=0)):=zh fun h0 A hA=>zh ⟨hA,fun j u hj hu=>by
        rcases Nat.lt_or_ge j k with h1 | h1
        ·exact HH.out.2 j u h1 hu
        ·obtain rfl:j=k:=by omega
         rw[HX.out] at hu;cases hu;exact h0⟩
       clear hx hxe;by_cases g:(pl < 0\/(nu:Int)<=pl)\/(rk < 0\/100 < rk)
       ·have HS3:Hid (sv=3):=zh (HBAD.out 3 (by unfold badC;rw[if_pos g]) (by decide))
        rcases g with(g | g) | (g | g)
        ·go_upto_region 17 with fail
         go_quiet (fail)
         go_wp2_with fail;go_ret;rw[HS3.out];exact⟨rfl,HT0.out.trans (HTA.out.trans (drewN_turned _ _ nq))⟩
        ·by_cases g1:pl < 0
         ·omega
         go_upto_region 17 with fail
         go_quiet (fail)
         go_wp2_with fail;go_ret;rw[HS3.out];exact⟨rfl,HT0.out.trans (HTA.out.trans (drewN_turned _ _ nq))⟩
        ·by_cases g1:pl < 0\/(nu:Int)<=pl
         ·rcases g1 with g1 | g1
          ·go_upto_region 17 with fail
           go_quiet (fail)
           go_wp2_with fail;go_ret;rw[HS3.out];exact⟨rfl,HT0.out.trans (HTA.out.trans (drewN_turned _ _ nq))⟩
          ·have g2:¬pl < 0:=by omega
           go_upto_region 17 with fail
           go_quiet (fail)
           go_wp2_with fail;go_ret;rw[HS3.out];exact⟨rfl,HT0.out.trans (HTA.out.trans (drewN_turned _ _ nq))⟩
         ·have g2:¬pl < 0:=by omega
          have g3:¬(nu:Int)<=pl:=by omega
          clear g1
          go_upto_region 17 with fail
          go_quiet (fail)
          go_wp2_with fail;go_ret;rw[HS3.out];exact⟨rfl,HT0.out.trans (HTA.out.trans (drewN_turned _ _ nq))⟩
        ·by_cases g1:pl < 0\/(nu:Int)<=pl
         ·rcases g1 with g1 | g1
          ·go_upto_region 17 with fail
           go_quiet (fail)
           go_wp2_with fail;go_ret;rw[HS3.out];exact⟨rfl,HT0.out.trans (HTA.out.trans (drewN_turned _ _ nq))⟩
          ·have g2:¬pl < 0:=by omega
           go_upto_region 17 with fail
           go_quiet (fail)
           go_wp2_with fail;go_ret;rw[HS3.out];exact⟨rfl,HT0.out.trans (HTA.out.trans (drewN_turned _ _ nq))⟩
         ·have g2:¬pl < 0:=by omega
          have g3:¬(nu:Int)<=pl:=by omega
          have g4:¬rk < 0:=by omega
          clear g1
          go_upto_region 17 with fail
          go_quiet (fail)
          go_wp2_with fail;go_ret;rw[HS3.out];exact⟨rfl,HT0.out.trans (HTA.out.trans (drewN_turned _ _ nq))⟩
       have g1:¬pl < 0:=by omega
       have g2:¬(nu:Int)<=pl:=by omega
       have g3:¬rk < 0:=by omega
       have g4:¬100 < rk:=by omega
       have HBC:Hid (badC nu ⟨pl,rk,⟨un,ux,ud⟩⟩=if natR ⟨un,ux,ud⟩=false then 1 else 0):=zh (by unfold badC;rw[if_neg g])
       clear g;obtain⟨nv,hnv⟩ : ∃v,natR ⟨un,ux,ud⟩=v:=⟨_,rfl⟩;rw[hnv] at HBC HN;clear hnv;cases nv
       ·have HS1:Hid (sv=1):=zh (HBAD.out 1 (by rw[HBC.out];rfl) (by decide))
        go_upto_region 17 with fail
        go_quiet (fail)
        have HTB:=zh (HTA.out.trans (drewN_turned _ _ nq));have q2:=cellT (drewN_turned (fun _=>False) wr nq) id HCS.out.1
        have q3:=cellT (drewN_turned (fun _=>False) wr nq) id HCS.out.2.1
        have q4:=cellT (drewN_turned (fun _=>False) wr nq) id HCS.out.2.2
        generalize wr.drewN nq=w2 at *;go_wp2_with fail;refine(HN.out _).mono ?_;rintro e w3 ⟨rfl,t3⟩;have T3:=zh t3;clear t3;go_wp2_with fail;go_ret;rw[HS1.out];exact⟨rfl,HT0.out.trans (HTB.out.trans T3.out)⟩
       ·have HG2:=zh (HNX.out (by rw[HBC.out];rfl))
        go_upto_region 17 with fail
        go_quiet (fail)
        have HTB:=zh (HTA.out.trans (drewN_turned _ _ nq));have q2:=cellT (drewN_turned (fun _=>False) wr nq) id HCS.out.1
        have q3:=cellT (drewN_turned (fun _=>False) wr nq) id HCS.out.2.1
        have q4:=cellT (drewN_turned (fun _=>False) wr nq) id HCS.out.2.2
        generalize wr.drewN nq=w2 at *;go_wp2_with fail;refine(HN.out _).mono ?_;rintro e w3 ⟨rfl,t3⟩;have T3:=zh t3;clear t3;go_wp2_with fail
        go_roundw
        case rel=>exact⟨k+1,by omega,by go_num,HG2.out _ (HTB.out.trans T3.out)⟩
        case measure=>simp[intOf];omega
      ·obtain rfl:k=nc:=by omega
       have HS0:Hid (sv=0):=zh (by
        rw[HV.out,claimsE_drop nu cs k HH.out.2,List.drop_eq_nil_of_le (by rw[HNC.out];exact Nat.le_refl _)];rfl)
       go_wp2_with fail;go_ret;rw[HS0.out];exact⟨rfl,HT0.out.trans HH.out.1⟩
  ·replace HV:=zh (HV.out.trans (if_pos (.inl h2)));have h3:((nu:Int) == (nr:Int))=false:=by simpa using fun h=>h2 (by omega)
   have h4:((nu:Int) != (nr:Int))=true:=by simpa using fun h=>h2 (by omega)
   clear h2;go_wp2_with fail;go_ret;rw[HV.out];exact⟨rfl,HT0.out.trans HT1.out⟩
 ·replace HV:=zh (HV.out.trans (if_pos h1));have h2:(rv == 0)=false:=by simpa using h1
  have h3:(rv != 0)=true:=by simpa using h1
  clear h1;go_wp2_with fail;go_ret;rw[HV.out];exact⟨rfl,HT0.out.trans HT1.out⟩
attribute [local go_sem ↓] run_eql_rat' run_neq_rat'
def shortR (u:Rv):Bool:=decide (u.num.size<=20) && decide (u.den.size<=20)
theorem shortR.sz{u:Rv} (h:shortR u=true):SzR u 20:=by
 unfold shortR at h;rw[Bool.and_eq_true,decide_eq_true_eq,decide_eq_true_eq] at h;exact h
theorem yShort_any(u:Rv) (W:World):Calls Tryz.prog 53 #[ratV u] W fun e w'=>e=.returned (.bool (shortR u))/\Turned (fun _=>False) W w':=by
 obtain⟨un,ux,ud⟩:=u;have T0:=(zr W).alloc (.cells #[.bool un,.string ux,.string ud] 68);have HT:=zh T0;clear T0;by_cases h1:ux.size<=20
 ·have h1':(ux.size:Int)<=20:=by omega
  by_cases h2:ud.size<=20
  ·have h2':(ud.size:Int)<=20:=by omega
   have HS:Hid (shortR ⟨un,ux,ud⟩=true):=zh (by simp[shortR,h1,h2])
   go_enter Tryz.func53,Tryz.ntmps53;go_wp2_with fail;go_ret;exact⟨by rw[HS.out];rfl,HT.out⟩
  ·have h2':¬(ud.size:Int)<=20:=by omega
   have HS:Hid (shortR ⟨un,ux,ud⟩=false):=zh (by simp[shortR,h2])
   go_enter Tryz.func53,Tryz.ntmps53;go_wp2_with fail;go_ret;exact⟨by rw[HS.out];rfl,HT.out⟩
 ·have h1':¬(ux.size:Int)<=20:=by omega
  have HS:Hid (shortR ⟨un,ux,ud⟩=false):=zh (by simp[shortR,h1])
  go_enter Tryz.func53,Tryz.ntmps53;go_wp2_with fail;go_ret;exact⟨by rw[HS.out];rfl,HT.out⟩
def IsB (e:Ending):Prop:=∃b,e=.returned (.bool b)
theorem box2{w:World} {b t:Nat} {x y:Value} (h:w.heap[b]? = some (.cells #[x,y] t (0,0))):w.cell? ⟨b,0,none⟩=some x/\w.cell? ⟨b,1,none⟩=some y:=by simp[World.cell?,h]
def IsBP (P:Prop) (e:Ending):Prop:=∃b,e=.returned (.bool b)/\(b=true->P)
theorem IsBP.no(P:Prop):IsBP P (.returned (.bool false)):=⟨false,rfl,fun h=>by cases h⟩
theorem IsBP.yes{P:Prop} (h:P):IsBP P (.returned (.bool true)):=⟨true,rfl,fun _=>h⟩
attribute [local go_sem ↓] run_eql_rat' run_neq_rat'
theorem lSupply_any(p q r g:Option Addr) (np nq nr ng cp cq cr cg:Nat) (W:World):Calls Tryz.prog 36 #[.agg #[.slice p np cp,.slice q nq cq,.slice r nr cr],.slice g ng cg] W fun e w'=>e=.returned (.agg #[.slice p np cp,.slice g ng cg])/\Turned (fun _=>False) W w':=by
 go_enter Tryz.func36,Tryz.ntmps36;go_wp2_with fail;refine bodyPost_ret (results_cell_row (fn:=Tryz.f36) rfl _ _ (W.heap.size+1) 65 #[.slice p np cp,.slice g ng cg] (0,0) _ rfl (new_second W (.cells #[.slice p np cp,.slice q nq cq,.slice r nr cr] 25) (.cells #[.slice p np cp,.slice g ng cg] 65)) Tryz.underlying65 rfl (by kernel_rfl)) rfl ?_
 exact⟨rfl,((zr W).alloc _).alloc _⟩
attribute [local go_sem ↓] run_eql_rat' run_neq_rat'
theorem lCheck_any(rs:List Rc) (lo hi:List Rv) (cs:List Cl) (rp lp hp cp:Option Addr) (rc lc hc cc:Nat) (W:World) (hf:FcAt W.heap.size W rs lo hi rp lp hp rc lc hc) (hcl:At W.heap.size W 5 claimCells cs cp cc)
  (sl:∀u∈lo,SzR u 20) (sh:∀u∈hi,SzR u 20) (sc:∀c∈cs,SzR c.amt 20) :
  Calls Tryz.prog 20 #[.agg #[.slice rp rs.length rc,.slice lp lo.length lc,.slice hp hi.length hc],.slice cp cs.length cc] W fun e w'=>e=.returned (.int .i64 (ordE rs lo hi cs))/\Turned (fun _=>False) W w':=by
 have HL:=zh (fun A (hA:Turned (fun _=>False) W A)=>yCheck_any rs lo cs rp lp cp rc lc cc A (hf.on hA).riv (hf.on hA).lo (hcl.on hA) (fun u hu=>(sl u hu).mono (by omega)) (fun c hc=>(sc c hc).mono (by omega)))
 have HH:=zh (fun A (hA:Turned (fun _=>False) W A)=>yCheck_any rs hi cs rp hp cp rc hc cc A (hf.on hA).riv (hf.on hA).hi (hcl.on hA) (fun u hu=>(sh u hu).mono (by omega)) (fun c hc=>(sc c hc).mono (by omega)))
 have HV:Hid (ordE rs lo hi cs=if supE rs lo cs≠0 then supE rs lo cs else if supE rs hi cs≠0 then supE rs hi cs else if crossB lo hi=true then 3 else 0):=zh rfl
 have HLN:Hid (supE rs lo cs=0->supE rs hi cs=0->lo.length=rs.length/\hi.length=rs.length):=zh fun h1 h2=>⟨(supE_zero h1).len,(supE_zero h2).len⟩
 have HFC:=zh hf;have HSZ:=zh (And.intro sl sh);have m1:(lo.length:Int)<=9223372036854775807:=by have:=hf.lo.len;unfold maxLen at this;omega
 obtain⟨nr,hnr⟩ : ∃n,rs.length=n:=⟨_,rfl⟩;obtain⟨nl,hnl⟩ : ∃n,lo.length=n:=⟨_,rfl⟩;obtain⟨nh,hnh⟩ : ∃n,hi.length=n:=⟨_,rfl⟩;obtain⟨nc,hnc⟩ : ∃n,cs.length=n:=⟨_,rfl⟩;obtain⟨e1,he1⟩ : ∃v,supE rs lo cs=v:=⟨_,rfl⟩;obtain⟨e2,he2⟩ : ∃v,supE rs hi cs=v:=⟨_,rfl⟩;obtain⟨ov,hov⟩ : ∃v,ordE rs lo hi cs=v:=⟨_,rfl⟩;rw[hnr,hnl,hnc,he1] at HL;rw[hnr,hnh,hnc,he2] at HH;rw[he1,he2,hov] at HV;rw[he1,he2,hnl,hnh,hnr] at HLN;rw[hnl] at m1;rw[hnr,hnl,hnh,hnc,hov];have HNL:=zh hnl;have HNH:=zh hnh;clear hf hcl sl sh sc hnr hnl hnh hnc he1 he2 hov;have T0:=(zr W).alloc (.cells #[.slice rp nr rc,.slice lp nl lc,.slice hp nh hc] 25);have n0:=World.alloc_heap_new W (.cells #[.slice rp nr rc,.slice lp nl lc,.slice hp nh hc] 25);obtain⟨w0,hw0⟩ : ∃w,w=W.alloc (.cells #[.slice rp nr rc,.slice lp nl lc,.slice hp nh hc] 25):=⟨_,rfl⟩;rw[<- hw0] at T0 n0;have HB:=zh n0;have HT0:=zh T0;have CE:∀A,Turned (fun _=>False) w0 A->(A.cell? ⟨W.heap.size,0,none⟩=some (.slice rp nr rc)/\A.cell? ⟨W.heap.size,1,none⟩=some (.slice lp nl lc)/\A.cell? ⟨W.heap.size,2,none⟩=some (.slice hp nh hc)):=fun A hA=>by
  have h0:=keepB hA HB.out;exact⟨by simp[World.cell?,h0],by simp[World.cell?,h0],by simp[World.cell?,h0]⟩
 have HCE:=zh CE;clear T0 n0 CE;go_enter Tryz.func20,Tryz.ntmps20;go_wp2_with fail;rw[<- hw0];refine(lSupply_any rp lp hp lp nr nl nh nl rc lc hc lc w0).mono ?_;rintro e w1 ⟨rfl,t1⟩;have HT1:=zh t1;clear t1 hw0;go_wp2_with fail;refine(HL.out w1 (HT0.out.trans HT1.out)).mono ?_;rintro e w2 ⟨rfl,t2⟩;have HT2:=zh (HT1.out.trans t2);clear t2 HT1 HL;by_cases g1:e1=0
 ·subst g1;replace HV:=zh (HV.out.trans (if_neg (by simp)))
  obtain⟨c0,c1,c2⟩:=HCE.out w2 HT2.out;go_wp2_with fail;refine(lSupply_any rp lp hp hp nr nl nh nh rc lc hc hc w2).mono ?_;rintro e w3 ⟨rfl,t3⟩;have HT3:=zh (HT2.out.trans t3);clear c0 c1 c2 t3;go_wp2_with fail;refine(HH.out w3 (HT0.out.trans HT3.out)).mono ?_;rintro e w4 ⟨rfl,t4⟩;have HT4:=zh (HT3.out.trans t4);clear t4 HT3 HH HT2;by_cases g1:e2=0
  ·subst g1;replace HV:=zh (HV.out.trans (if_neg (by simp)))
   obtain⟨hl1,hl2⟩:=HLN.out (by simp) (by simp)
   subst hl1;subst hl2;have HBL:Hid (crossB lo hi=(List.range nh).any fun g=>decide (gainQ hi g < gainQ lo g)):=zh (by unfold crossB;rw[HNL.out])
   clear HLN;go_wp2_with fail
   go_loopw [6] (fun i wr=>∃k:Nat,k<=nh/\i=(.int .i64 k)/\Hid (Turned (fun _=>False) w0 wr/\∀g,g < k->¬gainQ hi g < gainQ lo g)) (fun i _=>nh-(intOf i).toNat)
   case atStart=>exact⟨0,Nat.zero_le _,rfl,zh ⟨HT4.out,fun g h=>by omega⟩⟩
   case round =>
    clear HT4;obtain⟨k,hk,rfl,HI⟩:=hrel;obtain⟨c0,c1,c2⟩:=HCE.out wr HI.out.1;by_cases hlt:k < nh
    ·have hx:lo[k]? = some (lo[k]'(by rw[HNL.out];exact hlt)):=List.getElem?_eq_getElem _
     obtain⟨⟨xn,xx,xd⟩,hxe⟩ : ∃u,lo[k]'(by rw[HNL.out];exact hlt)=u:=⟨_,rfl⟩
     rw[hxe] at hx;have hy:hi[k]? = some (hi[k]'(by rw[HNH.out];exact hlt)):=List.getElem?_eq_getElem _
     obtain⟨⟨yn,yx,yd⟩,hye⟩ : ∃u,hi[k]'(by rw[HNH.out];exact hlt)=u:=⟨_,rfl⟩
     rw[hye] at hy;have HX:=zh hx;have HY:=zh hy;have hF:=HFC.out.turned (HT0.out.trans HI.out.1);obtain⟨b,a,rfl,-,e0,e1,e2⟩:=hF.lo.rats hx;obtain⟨b',a',rfl,-,g0,g1,g2⟩:=hF.hi.rats hy;have hq1:qR ⟨xn,xx,xd⟩=gainQ lo k:=by unfold gainQ;rw[getD_of hx]
     have hq2:qR ⟨yn,yx,yd⟩=gainQ hi k:=by unfold gainQ;rw[getD_of hy]
     have HCMP:=zh (fun W=>pCmp_any ⟨xn,xx,xd⟩ ⟨yn,yx,yd⟩ 20 W (by decide) (HSZ.out.1 _ (List.mem_of_getElem? hx)) (HSZ.out.2 _ (List.mem_of_getElem? hy)))
     obtain⟨c,hcq⟩ : ∃c,cmpQ (gainQ lo k) (gainQ hi k)=c:=⟨_,rfl⟩;rw[hq1,hq2,hcq] at HCMP;have hcl:=cmpQ_le (p:=gainQ lo k) (q:=gainQ hi k);rw[hcq] at hcl;have HCL:=zh hcl;have HK0:Hid ((wr.drew.cell? ⟨W.heap.size,1,none⟩=some (.slice (some ⟨b,a,none⟩) nh lc)/\wr.drew.cell? ⟨W.heap.size,2,none⟩=some (.slice (some ⟨b',a',none⟩) nh hc))/\(wr.drew.cell? ⟨b,a+k*3,none⟩=some (.bool xn)/\wr.drew.cell? ⟨b,a+k*3+1,none⟩=some (.string xx)/\wr.drew.cell? ⟨b,a+k*3+2,none⟩=some (.string xd))/\(wr.drew.cell? ⟨b',a'+k*3,none⟩=some (.bool yn)/\wr.drew.cell? ⟨b',a'+k*3+1,none⟩=some (.string yx)/\wr.drew.cell? ⟨b',a'+k*3+2,none⟩=some (.string yd))) :=
      zh ⟨⟨cellT (zr wr).drew id c1,cellT (zr wr).drew id c2⟩,⟨cellT (zr wr).drew id e0,cellT (zr wr).drew id e1,cellT (zr wr).drew id e2⟩,cellT (zr wr).drew id g0,cellT (zr wr).drew id g1,cellT (zr wr).drew id g2⟩
     have HD:=zh (HI.out.1.drew);have hk0:(0:Int)<=k:=by omega
     have hk1:(k:Int) < nh:=by omega
     clear hx hxe hy hye hF e0 e1 e2 g0 g1 g2 hq1 hq2 hcq hcl
     go_upto_region 9 with fail
     clear c0 c1 c2
     go_region_held3 (fun V=>(V.cell? ⟨W.heap.size,1,none⟩=some (.slice (some ⟨b,a,none⟩) nh lc)/\V.cell? ⟨W.heap.size,2,none⟩=some (.slice (some ⟨b',a',none⟩) nh hc))/\(V.cell? ⟨b,a+k*3,none⟩=some (.bool xn)/\V.cell? ⟨b,a+k*3+1,none⟩=some (.string xx)/\V.cell? ⟨b,a+k*3+2,none⟩=some (.string xd))/\(V.cell? ⟨b',a'+k*3,none⟩=some (.bool yn)/\V.cell? ⟨b',a'+k*3+1,none⟩=some (.string yx)/\V.cell? ⟨b',a'+k*3+2,none⟩=some (.string yd)))
      (first | exact HK1.out | exact HK0.out | go_keep)
      (first | (go_at_call 45;refine(HCMP.out _).mono ?_;rintro e w5 ⟨rfl,t5⟩;have HT5:=zh (HD.out.trans t5);have HK1:Hid _:=zh (And.intro (And.intro (cellT t5 id HK0.out.1.1) (cellT t5 id HK0.out.1.2)) (And.intro (And.intro (cellT t5 id HK0.out.2.1.1) (And.intro (cellT t5 id HK0.out.2.1.2.1) (cellT t5 id HK0.out.2.1.2.2))) (And.intro (cellT t5 id HK0.out.2.2.1) (And.intro (cellT t5 id HK0.out.2.2.2.1) (cellT t5 id HK0.out.2.2.2.2)))));clear t5))
     by_cases h0:0 < c
     ·have HBT:Hid (crossB lo hi=true):=zh (by
       rw[HBL.out,List.any_eq_true];refine⟨k,List.mem_range.2 hlt,decide_eq_true ?_⟩;have:=HCL.out;exact Rat.not_le.1 fun h=>by have:=this.2 h;omega)
      replace HV:=zh (HV.out.trans (if_pos HBT.out));go_wp2_with fail;go_ret;rw[HV.out];exact⟨rfl,HT0.out.trans HT5.out⟩
     ·have HG:Hid (Turned (fun _=>False) w0 w5/\∀g,g < k+1->¬gainQ hi g < gainQ lo g):=zh ⟨HT5.out,fun g hg=>by
       rcases Nat.lt_or_ge g k with h1 | h1
       ·exact HI.out.2 g h1
       ·obtain rfl:g=k:=by omega
        exact Rat.not_lt.2 (HCL.out.1 (by omega))⟩
      go_wp2_with fail
      go_roundw
      case rel=>exact⟨k+1,by omega,by go_num,HG⟩
      case measure=>simp[intOf];omega
    ·obtain rfl:k=nh:=by omega
     have HBF:Hid (crossB lo hi=false):=zh (by
      rw[HBL.out,List.any_eq_false];intro g hg;rw[decide_eq_true_eq];exact HI.out.2 g (List.mem_range.1 hg))
     replace HV:=zh (HV.out.trans (if_neg (by rw[HBF.out];simp)))
     go_wp2_with fail;go_ret;rw[HV.out];exact⟨rfl,HT0.out.trans HI.out.1⟩
  ·have g2:(e2 == 0)=false:=by simpa using g1
   have g3:(e2 != 0)=true:=by simpa using g1
   replace HV:=zh (HV.out.trans (if_pos g1));clear g1;go_wp2_with fail;go_ret;rw[HV.out];exact⟨rfl,HT0.out.trans HT4.out⟩
 ·have g2:(e1 == 0)=false:=by simpa using g1
  have g3:(e1 != 0)=true:=by simpa using g1
  replace HV:=zh (HV.out.trans (if_pos g1));clear g1;go_wp2_with fail;go_ret;rw[HV.out];exact⟨rfl,HT0.out.trans HT2.out⟩
theorem wayN_step(d:List Int) (f:Nat) (p:Int):wayN d (f+1) p=if p < 0 then[] else p.toNat::wayN d f (downOf d p):=rfl
theorem wayN_more(d:List Int):∀(f:Nat) (r:Int),stepN d f r < 0->wayN d (f+1) r=wayN d f r
 | 0,r,h=>(wayN_step d 0 r).trans (if_pos h)
 | f+1,r,h=>by
  have h2:=wayN_more d f (downOf d r) h;show(if r < 0 then[] else r.toNat::wayN d (f+1) (downOf d r))=(if r < 0 then[] else r.toNat::wayN d f (downOf d r))
  rw[h2]
theorem way_cons{d:List Int} {q:Int} (h0:¬q < 0) (h:stepN d d.length (downOf d q) < 0):way d q=q.toNat::way d (downOf d q):=by
 unfold way;rw[wayN_step,if_neg h0,wayN_more d _ _ h]
theorem way_neg{d:List Int} {q:Int} (h0:q < 0):way d q=[]:=by
 unfold way;rw[wayN_step,if_pos h0]
theorem down_ends{ds:List Int} (h:RivOK ds) {q:Int} (h0:0<=q) (h1:q < ds.length) : -1<=downOf ds q/\downOf ds q < ds.length/\stepN ds ds.length (downOf ds q) < 0:=by
 have hm:downOf ds q∈ds:=by
  unfold downOf;rw[if_neg (by omega),List.getD_eq_getElem?_getD,List.getElem?_eq_getElem (by omega)]
  exact List.getElem_mem _
 obtain⟨b1,b2⟩:=h.bd _ hm;refine⟨b1,b2,?_⟩;by_cases g:downOf ds q < 0
 ·exact step_neg _ _ _ g
 ·have:=h.ends (downOf ds q).toNat (by omega)
  rwa [Int.toNat_of_nonneg (by omega)] at this
theorem yBelow_any(rs:List Rc) (p:Option Addr) (c N g f:Nat) (W:World) (h:At N W 2 reachCells rs p c) (hR:RivOK (rs.map (·.down))) (hf:f < rs.length) :
  Calls Tryz.prog 134 #[.slice p rs.length c,.int .i64 g,.int .i64 f] W fun e w'=>e=.returned (.bool (onN (rs.map (·.down)) g f))/\w'=W:=by
 obtain⟨b,hb⟩ : ∃b,onN (rs.map (·.down)) g f=b:=⟨_,rfl⟩;have hs:Hid (g∈way (rs.map (·.down)) (f:Int)↔b=true):=zh (by rw[<- hb];exact way_on hR.endsN)
 rw[hb];obtain⟨n,hn⟩ : ∃n,rs.length=n:=⟨_,rfl⟩;obtain⟨ds,hds⟩ : ∃ds,rs.map (·.down)=ds:=⟨_,rfl⟩;have HD:Hid (∀(i:Nat) (u:Rc),rs[i]? = some u->downOf ds i=u.down):=zh (fun i u hu=>by
  rw[<- hds];unfold downOf;rw[if_neg (by omega),Int.toNat_natCast,List.getD_eq_getElem?_getD,List.getElem?_map,hu]
  rfl)
 rw[hds] at hR hs;have HN:=zh hn;have HDL:Hid (ds.length=n):=zh (by rw[<- hds,List.length_map,hn])
 have HW:=zh h;have HR:=zh hR;rw[hn] at hf ⊢;clear h hR hn hds hb;go_enter Tryz.func134,Tryz.ntmps134;go_wp2_with fail
 go_loop [7] (fun i=>∃q:Int,i=(.int .i64 q) /\ -1<=q/\q < n/\Hid (g∈way ds q↔b=true)) (fun i=>(way ds (intOf i)).length)
 case atStart=>exact⟨f,rfl,by omega,by omega,hs⟩
 case round =>
  obtain⟨q,rfl,hq1,hq2,HQ⟩:=hrel;clear hs hf;by_cases h0:q < 0
  ·have hb:b=false:=by
    have h1:=HQ.out;rw[way_neg h0] at h1;cases b with
    | false=>rfl
    | true=>exact absurd (h1.2 rfl) (by simp)
   subst hb
   go_wp2
   go_ret;exact⟨rfl,rfl⟩
  obtain⟨k,rfl⟩ : ∃k:Nat,q=k:=⟨q.toNat,by omega⟩
  have hkn:k < rs.length:=by rw[HN.out];omega
  obtain⟨u,hu⟩ : ∃u,rs[k]? = some u:=⟨_,List.getElem?_eq_getElem hkn⟩;have hdn:=HD.out k u hu;obtain⟨e1,e2,e3⟩:=down_ends HR.out (show(0:Int)<=(k:Int) by omega) (by rw[HDL.out];exact hq2)
  have hcons:=way_cons h0 e3;rw[hdn] at e1 e2 hcons;rw[HDL.out] at e2;rw[Int.toNat_natCast] at hcons;have HCo:=zh hcons;obtain⟨bb,a,rfl,-,hc,-⟩:=HW.out.reaches hu;clear hcons hdn e3 hu;by_cases hg:(k:Int)=g
  ·have hb:b=true:=HQ.out.1 (by rw[HCo.out,show g=k by omega];exact List.mem_cons_self ..)
   subst hb;have hg1:((k:Int) == (g:Int))=true:=by simpa using hg
   go_wp2
   go_ret;exact⟨rfl,rfl⟩
  ·have hg1:((k:Int) == (g:Int))=false:=by simpa using hg
   have HB:Hid (g∈way ds u.down↔b=true):=zh (by
    rw[<- HQ.out,HCo.out,List.mem_cons];exact⟨Or.inr,fun h=>h.elim (fun h=>absurd (by omega) hg) id⟩)
   have HM:Hid ((way ds u.down).length < (way ds (k:Int)).length):=zh (by rw[HCo.out,List.length_cons];exact Nat.lt_succ_self _)
   clear hg
   go_wp2
   go_round
   case rel=>exact⟨u.down,rfl,e1,e2,HB⟩
   case measure=>exact HM.out
theorem sum_part{f:Nat->Rat} {b:Nat} (h:∀k,BytesQ (f k) (b+1)) (c:Nat->Bool) (m:Nat):BytesQ (sumQ m (onlyQ c f)) (m*(b+2)+1):=sumQ_bytes m fun k _=>only_bytes (h k)
section
variable {on:Nat->Nat->Bool} {n m:Nat} {place:Nat->Nat} {rank:Nat->Int} {a x t:Nat->Rat} {op:Nat->Bool} {part:Rat} {r:Int}
def restTo (on:Nat->Nat->Bool) (n:Nat) (place:Nat->Nat) (x t:Nat->Rat) (g k:Nat):Rat:=passQ on n x g-sumQ k (onlyQ (fun k=>on g (place k)) t)
theorem restTo_zero(g:Nat):restTo on n place x t g 0=passQ on n x g:=by
 unfold restTo;show passQ on n x g-0=_
 grind
theorem restTo_end(g:Nat):restTo on n place x t g m=restQ on n m place x t g:=rfl
theorem restTo_on{g k:Nat} (h:on g (place k)=true):restTo on n place x t g (k+1)=restTo on n place x t g k-t k:=by
 unfold restTo;rw[sumQ,show onlyQ (fun k=>on g (place k)) t k=t k by unfold onlyQ;simp only[h];rfl]
 grind
theorem restTo_off{g k:Nat} (h:on g (place k)=false):restTo on n place x t g (k+1)=restTo on n place x t g k:=by
 unfold restTo;rw[sumQ,show onlyQ (fun k=>on g (place k)) t k=0 by unfold onlyQ;simp only[h];rfl]
 grind
structure SzS (on:Nat->Nat->Bool) (n m:Nat) (place:Nat->Nat) (x t:Nat->Rat) (part:Rat) (ky rem kx:Nat):Prop where
 x1:1<=kx
 rest:∀g,BytesQ (restQ on n m place x t g) kx
 part:BytesQ part (kx+ky-1)
 lim:(kx+2*ky+2)*2 ^ rem<=2920000
 take:∀k,BytesQ (t k) (kx+300)
theorem SzS.bound{kx ky rem:Nat} (h:SzS on n m place x t part ky rem kx):kx+2*ky+2<=2920000:=by
 have h1:=h.lim;have h2:(kx+2*ky+2)*1<=(kx+2*ky+2)*2 ^ rem:=Nat.mul_le_mul_left _ (Nat.one_le_two_pow);omega
theorem SzS.grow{kx ky rem:Nat} (h:SzS on n m place x t part ky rem kx) (hy:∀g,BytesQ (wantQ on m place a op g) ky) (hy1:1<=ky) (c:Nat) :
  BytesQ (growTo (restQ on n m place x t) (wantQ on m place a op) (1-part) c) (kx+ky+1) :=
 growTo_size h.rest hy (((bytes_one 0).sub h.part).mono (by have:=h.x1;omega)) c
theorem SzS.reach{kx ky rem:Nat} (h:SzS on n m place x t part ky rem kx) (hy:∀g,BytesQ (wantQ on m place a op g) ky) (hy1:1<=ky) (c:Nat) :
  BytesQ (reachQ on n m place a x t op part c) (2*kx+2*ky+1):=by
 rw[reach_grow];exact(h.part.add (h.grow hy hy1 c)).mono (by have:=h.x1;omega)
theorem SzS.step{kx ky rem rem':Nat} (h:SzS on n m place x t part ky rem kx) (hy:∀g,BytesQ (wantQ on m place a op g) ky) (hy1:1<=ky) (hI:InvQ on n m place rank a x r t op part) (ha:∀k,BytesQ (a k) 21) (hr:rem' < rem) :
  SzS on n m place x (growQ a t op (reachQ on n m place a x t op part n)) (reachQ on n m place a x t op part n) ky rem' (2*kx+2*ky+2):=by
 have hg:=h.grow hy hy1 n;rw[reach_grow];generalize growTo (restQ on n m place x t) (wantQ on m place a op) (1-part) n=g at hg ⊢;have h1:=h.x1;refine⟨by omega,fun i=>?_,(h.part.add hg).mono (by omega),?_,fun k=>?_⟩
 ·rw[rest_grow hI];exact((h.rest i).sub ((hy i).mul hg)).mono (by omega)
 ·have h2:=h.lim;have h3:2 ^ (rem'+1)<=2 ^ rem:=Nat.pow_le_pow_right (by decide) hr
  have h4:(kx+2*ky+2)*2 ^ (rem'+1)<=(kx+2*ky+2)*2 ^ rem:=Nat.mul_le_mul_left _ h3;rw[Nat.pow_succ] at h4;have h5:(2*kx+2*ky+2+2*ky+2)*2 ^ rem'=(kx+2*ky+2)*(2 ^ rem'*2):=by
   rw[Nat.mul_comm (2 ^ rem') 2,<- Nat.mul_assoc]
   congr 1
   omega
  omega
 ·show BytesQ (cond (op k) (a k*(part+g)) (t k)) _;cases op k
  ·exact(h.take k).mono (by omega)
  ·exact((ha k).mul (h.part.add hg)).mono (by omega)
theorem SzS.less{kx ky rem rem':Nat} (h:SzS on n m place x t part ky rem kx) (hr:rem'<=rem):SzS on n m place x t part ky rem' kx :=
 ⟨h.x1,h.rest,h.part,Nat.le_trans (Nat.mul_le_mul_left _ (Nat.pow_le_pow_right (by decide) hr)) h.lim,h.take⟩
theorem SzS.anew{kx ky rem:Nat} (h:SzS on n m place x t part ky rem kx) (hy1:1<=ky):SzS on n m place x t 0 ky rem kx :=
 ⟨h.x1,h.rest,by have:=h.x1;obtain⟨c,hc⟩ : ∃c,kx+ky-1=c+1:=⟨kx+ky-2,by omega⟩;rw[hc];exact bytes_zero c,h.lim,h.take⟩
theorem SzS.part_rest{kx ky rem:Nat} (h:SzS on n m place x t part ky rem kx) (hx:∀p,BytesQ (x p) 21) (hn:n<=8) (g k:Nat) (hk:k<=12):BytesQ (restTo on n place x t g k) 36000000:=by
 have h1:=h.bound;have h2:=sum_part (b:=kx+299) h.take (fun k=>on g (place k)) k
 have h3:BytesQ (passQ on n x g) (n*22+1):=pass_bytes (b:=20) (fun p _=>hx p) g
 have h4:k*(kx+299+2)<=12*(kx+299+2):=Nat.mul_le_mul_right _ hk;have h5:n*22<=8*22:=Nat.mul_le_mul_right _ hn;exact(h3.sub h2).mono (by omega)
end
theorem region_tl{P:Program} {id:Nat} {Q:Exit->Act->World->Prop} {a:Act} {W:World} {l:List Oper} (n:Nat) (hm:P.follows .mixedOrders=true) (hB:Region.lexTailB .any l.toArray n=true)
  (h:∀V,Turned (fun _=>False) W V->wpStill P l.toArray V (fun a'=>wpList P l.toArray Q (l.drop n) a' V) (l.take n) a):(Code.region id l.toArray true).wp P Q a W :=
 wp_region_still_tail n hm hB (h _ (Turned.refl _ W).drew)
structure SIn (N:Nat) (W:World) (rs:List Rc) (us:List Rv) (cs:List Cl) (rp gp cp:Option Addr) (rc gc cc:Nat):Prop where
 riv:At N W 2 reachCells rs rp rc
 gain:At N W 3 ratCells us gp gc
 cl:At N W 5 claimCells cs cp cc
theorem SIn.on{W V:World} {rs:List Rc} {us:List Rv} {cs:List Cl} {rp gp cp:Option Addr} {rc gc cc:Nat} (h:SIn W.heap.size W rs us cs rp gp cp rc gc cc) (ht:Turned (fun _=>False) W V):SIn V.heap.size V rs us cs rp gp cp rc gc cc :=
 ⟨h.riv.on ht,h.gain.on ht,h.cl.on ht⟩
structure SOK (rs:List Rc) (us:List Rv) (cs:List Cl):Prop where
 riv:RivOK (rs.map (·.down))
 len:us.length=rs.length
 n8:rs.length<=8
 m12:cs.length<=12
 su:∀u∈us,SzR u 20
 sc:∀c∈cs,SzR c.amt 20
 cl:∀c∈cs,0<=c.place/\c.place < rs.length/\0<=c.rank/\c.rank<=100/\natR c.amt=true
 nat:∀u∈us,natR u=true
structure Tri (W w:World) (o:Obj) (B:Nat) (u:Rv):Prop where
 b0:w.heap[W.heap.size]? = some o
 b1:w.heap[W.heap.size+1]? = some (.cells #[.bool false,.string ⟨#[]⟩,.string ⟨#[]⟩] 68 (0,0))
 b2:w.heap[B]? = some (.cells #[.bool u.neg,.string u.num,.string u.den] 68 (0,0))
 hB:W.heap.size+2<=B
 t:Turned (fun _=>False) W w
theorem Tri.call{W w V:World} {o:Obj} {B:Nat} {u:Rv} (h:Tri W w o B u) (t:Turned (fun _=>False) w V):Tri W V o B u:=⟨keepB t h.b0,keepB t h.b1,keepB t h.b2,h.hB,h.t.trans t⟩
theorem Tri.put{W w:World} {o:Obj} {B:Nat} {u:Rv} (h:Tri W w o B u) (v:Rv):Tri W (((w.setCell ⟨B,0,none⟩ (.bool v.neg)).setCell ⟨B,1,none⟩ (.string v.num)).setCell ⟨B,2,none⟩ (.string v.den)) o B v:=by
 obtain⟨k1,k2⟩:=set3 h.b2 (.bool v.neg) (.string v.num) (.string v.den);have hB:=h.hB;refine⟨(k2.block _ (getElem?_lt h.b0) (by omega)).trans h.b0,(k2.block _ (getElem?_lt h.b1) (by omega)).trans h.b1,k1,h.hB,h.t.fresh k2 fun g hg=>by omega⟩
attribute [local go_sem ↓] run_eql_rat' run_neq_rat'
theorem gain_bytes{us:List Rv} {b:Nat} (h:∀u∈us,SzR u b) (p:Nat):BytesQ (gainQ us p) (b+1):=by
 unfold gainQ;rw[List.getD_eq_getElem?_getD];cases hk:us[p]? with
 | none=>exact bytes_zero b
 | some u =>
  have:=h u (List.mem_of_getElem? hk);exact qR_bytes this.1 this.2
theorem gain_of{us:List Rv} {k:Nat} {u:Rv} (h:us[k]? = some u):gainQ us k=qR u:=by
 unfold gainQ;rw[getD_of h]
theorem sumQ_on{f:Nat->Rat} {c:Nat->Bool} {k:Nat} (h:c k=true):sumQ (k+1) (onlyQ c f)=sumQ k (onlyQ c f)+f k:=by
 rw[sumQ,show onlyQ c f k=f k by unfold onlyQ;simp only[h];rfl]
theorem sumQ_off{f:Nat->Rat} {c:Nat->Bool} {k:Nat} (h:c k=false):sumQ (k+1) (onlyQ c f)=sumQ k (onlyQ c f):=by
 rw[sumQ,show onlyQ c f k=0 by unfold onlyQ;simp only[h];rfl,Rat.add_zero]
theorem results_ySupply(tmps:Array Value) (w:World) (g:Nat) (a b c:Value) (hp:tmps.getD 4 undef=.pointer (some ⟨g,0,none⟩)) (hg:w.heap[g]? = some (.cells #[a,b,c] 68 (0,0))) :
  (results Tryz.f163 tmps).run Tryz.prog w=.ok (.agg #[a,b,c]) w :=
 results_cell_row (fn:=Tryz.f163) rfl tmps w g 68 #[a,b,c] (0,0) _ hp hg Tryz.underlying68 rfl (by kernel_rfl)
theorem ySupply_any(rs:List Rc) (us:List Rv) (cs:List Cl) (rp gp cp:Option Addr) (rc gc cc g:Nat) (W:World) (hi:SIn W.heap.size W rs us cs rp gp cp rc gc cc) (hok:SOK rs us cs) :
  Calls Tryz.prog 163 #[.agg #[.slice rp rs.length rc,.slice gp us.length gc],.int .i64 g] W fun e w'=>e=.returned (ratV (repR (passQ (onN (rs.map (·.down))) rs.length (gainQ us) g)))/\Turned (fun _=>False) W w':=by
 obtain⟨c,hc⟩ : ∃c,(fun k=>onN (rs.map (·.down)) g k)=c:=⟨_,rfl⟩
 have HB:=zh (fun(V:World) (hV:Turned (fun _=>False) W V) (k:Nat) (hk:k < rs.length)=>(show Calls _ _ _ _ fun e w'=>e=.returned (.bool (c k))/\w'=V from by rw[<- hc];exact yBelow_any rs rp rc W.heap.size g k V (hi.riv.turned hV) hok.riv hk))
 have HG:=zh hi.gain;have hlen:=hok.len;have hn8:=hok.n8;obtain⟨x,hx⟩ : ∃x,gainQ us=x:=⟨_,rfl⟩;have HX:=zh (fun k=>gain_bytes hok.su k)
 have HU:=zh (fun(k:Nat) (u:Rv) (h:us[k]? = some u)=>And.intro (gain_of h) (hok.su u (List.mem_of_getElem? h)))
 have HP:passQ (onN (rs.map (·.down))) rs.length x g=sumQ rs.length (onlyQ c x):=by unfold passQ;rw[hc]
 rw[hx] at HX HU ⊢;rw[HP,hlen];obtain⟨n,hn⟩ : ∃n,rs.length=n:=⟨_,rfl⟩;have HL:Hid (us.length=n):=zh (by rw[hlen,hn])
 rw[hn] at HB hn8 ⊢;have HSZ:Hid (∀k,k<=n->BytesQ (sumQ k (onlyQ c x)) 200):=zh fun k hk=>(sum_part HX.out c k).mono (by
  have:k*(20+2)<=8*22:=Nat.mul_le_mul_right _ (by omega)
  omega)
 obtain⟨n0,n1,n2⟩:=new3 W (.cells #[.slice rp n rc,.slice gp n gc] 65 (0,0)) (.cells #[.bool false,.string ⟨#[]⟩,.string ⟨#[]⟩] 68 (0,0)) (.cells #[.bool false,.string ⟨#[]⟩,.string ⟨#[]⟩] 68 (0,0));have T0:=(((zr W).alloc (.cells #[.slice rp n rc,.slice gp n gc] 65 (0,0))).alloc (.cells #[.bool false,.string ⟨#[]⟩,.string ⟨#[]⟩] 68 (0,0))).alloc (.cells #[.bool false,.string ⟨#[]⟩,.string ⟨#[]⟩] 68 (0,0));have HT0:Hid (Tri W _ _ (W.heap.size+1+1) zeroR):=zh ⟨n0,n1,n2,Nat.le_refl _,T0⟩;have hnn:(n:Int)<=8:=by omega
 clear hi hok hlen hn hc hx HP n0 n1 n2 T0;go_enter Tryz.func163,Tryz.ntmps163;go_wp2_with fail
 go_loopw [6,7] (fun i is wr=>∃k:Nat,k<=n/\i=(.int .i64 k)/\Hid (Tri W wr (.cells #[.slice rp n rc,.slice gp n gc] 65 (0,0)) (W.heap.size+1+1) (repR (sumQ k (onlyQ c x))))) (fun i _ _=>n-(intOf i).toNat)
 case atStart=>exact⟨0,Nat.zero_le _,rfl,HT0⟩
 case round =>
  obtain⟨k,hk,rfl,HI⟩:=hrel;clear HT0;obtain⟨c0,c1⟩:=box2c HI.out.b0;obtain⟨d0,d1,d2,-,-,-⟩:=box3 HI.out.b2;by_cases hlt:k < n
  ·obtain⟨u,hu⟩ : ∃u,us[k]? = some u:=⟨_,List.getElem?_eq_getElem (by rw[HL.out];exact hlt)⟩
   obtain⟨b,a,rfl,-,e0,e1,e2⟩:=(HG.out.turned HI.out.t).rats hu;obtain⟨hxk,hsu⟩:=HU.out k u hu;obtain⟨cb,hcb⟩ : ∃cb,c k=cb:=⟨_,rfl⟩;have HCB:=zh hcb;have HC2:=zh (HB.out wr HI.out.t k hlt);rw[hcb] at HC2;have hk0:(0:Int)<=k:=by omega
   have hk1:(k:Int) < n:=by omega
   clear hcb hu;cases cb
   ·have HST:Hid (sumQ (k+1) (onlyQ c x)=sumQ k (onlyQ c x)):=zh (sumQ_off HCB.out);clear hxk hsu e0 e1 e2;go_wp2_with fail;refine HC2.out.mono ?_;rintro e w1 ⟨rfl,rfl⟩;go_wp2_with fail
    go_roundw
    case rel=>exact⟨k+1,by omega,by go_num,by rw[HST.out];exact HI⟩
    case measure=>simp[intOf];omega
   ·have hs1:=SzR.rep (HSZ.out k (by omega))
    have HD:=zh (fun V=>pAdd_any (repR (sumQ k (onlyQ c x))) u 200 V (by omega) hs1 (hsu.mono (by omega)))
    rw[qR_repR,<- hxk] at HD;have HST:Hid (sumQ (k+1) (onlyQ c x)=sumQ k (onlyQ c x)+x k):=zh (sumQ_on HCB.out);obtain⟨⟨un,ux,ud⟩,hu⟩ : ∃s,u=s:=⟨_,rfl⟩;obtain⟨⟨fn,fx,fd⟩,hf⟩ : ∃s,repR (sumQ k (onlyQ c x))=s:=⟨_,rfl⟩;obtain⟨⟨sn,sx,sy⟩,hs⟩ : ∃s,repR (sumQ k (onlyQ c x)+x k)=s:=⟨_,rfl⟩;rw[hu] at HD e0 e1 e2;rw[hf] at HD HI d0 d1 d2;rw[hs] at HD;replace HST:Hid (repR (sumQ (k+1) (onlyQ c x))=⟨sn,sx,sy⟩):=zh (by rw[HST.out,hs])
    clear hu hf hs hxk hsu hs1;go_wp2_with fail;refine HC2.out.mono ?_;rintro e w1 ⟨rfl,rfl⟩
    go_upto_region 7 with fail
    refine region_tl 6 (by kernel_rfl) (by kernel_rfl) (fun V hT=>?_)
    have HTV:=zh (HI.out.call hT);have e0:=cellT hT id e0;have e1:=cellT hT id e1;have e2:=cellT hT id e2;clear hT c0 c1 d0 d1 d2;obtain⟨c0,c1⟩:=box2c HTV.out.b0;obtain⟨d0,d1,d2,-,-,-⟩:=box3 HTV.out.b2;simp only[List.take_succ_cons,List.take_zero,List.drop_succ_cons,List.drop_zero]
    repeat still_step
    refine wpStill_nil ?_;go_wp2_with fail;refine(HD.out V).mono ?_;rintro e w3 ⟨rfl,t3⟩;have HT3:=zh (HTV.out.call t3);clear t3 c0 c1 d0 d1 d2 e0 e1 e2;obtain⟨f0,f1,f2,f3,f4,f5⟩:=box3 HT3.out.b2;have HT4:=zh (HT3.out.put ⟨sn,sx,sy⟩);go_wp2_with fail
    go_roundw
    case rel=>exact⟨k+1,by omega,by go_num,by rw[HST.out];exact HT4⟩
    case measure=>simp[intOf];omega
  ·obtain rfl:k=n:=by omega
   obtain⟨r0,r1,r2,r3,r4,r5⟩:=box3 HI.out.b1;obtain⟨⟨sn,sx,sy⟩,hs⟩ : ∃s,repR (sumQ k (onlyQ c x))=s:=⟨_,rfl⟩;rw[hs] at HI d0 d1 d2;have HS:=zh hs;clear hs;go_wp2_with fail;have HK:=set3 HI.out.b1 (.bool sn) (.string sx) (.string sy);refine bodyPost_ret (results_ySupply _ _ (W.heap.size+1) _ _ _ rfl HK.1) rfl ?_;rw[HS.out];exact⟨rfl,HI.out.t.fresh HK.2 fun g hg=>by omega⟩
attribute [local go_sem ↓] run_eql_rat' run_neq_rat'
theorem SOK.place{rs:List Rc} {us:List Rv} {cs:List Cl} (h:SOK rs us cs) {k:Nat} {u:Cl} (hu:cs[k]? = some u):u.place=(placeK cs k:Int)/\placeK cs k < rs.length:=by
 have h1:=h.cl u (List.mem_of_getElem? hu);unfold placeK;rw[getD_of hu];omega
theorem results_yRest(tmps:Array Value) (w:World) (g:Nat) (a b c:Value) (hp:tmps.getD 8 undef=.pointer (some ⟨g,0,none⟩)) (hg:w.heap[g]? = some (.cells #[a,b,c] 68 (0,0))) :
  (results Tryz.f136 tmps).run Tryz.prog w=.ok (.agg #[a,b,c]) w :=
 results_cell_row (fn:=Tryz.f136) rfl tmps w g 68 #[a,b,c] (0,0) _ hp hg Tryz.underlying68 rfl (by kernel_rfl)
def RestS (on:Nat->Nat->Bool) (n m:Nat) (place:Nat->Nat) (x t:Nat->Rat):Prop:=(∀g k,k<=m->BytesQ (restTo on n place x t g k) 36000000)/\∀k,BytesQ (t k) 36000000
theorem yRest_any(rs:List Rc) (us:List Rv) (cs:List Cl) (rp gp cp tp:Option Addr) (rc gc cc tc g:Nat) (t:Nat->Rat) (W:World) (hi:SIn W.heap.size W rs us cs rp gp cp rc gc cc) (ht:At W.heap.size W 3 ratCells (repL cs.length t) tp tc) (hok:SOK rs us cs)
  (hsz:RestS (onN (rs.map (·.down))) rs.length cs.length (placeK cs) (gainQ us) t) :
  Calls Tryz.prog 136 #[.agg #[.slice rp rs.length rc,.slice gp us.length gc],.slice cp cs.length cc,.slice tp cs.length tc,.int .i64 g] W fun e w'=>e=.returned (ratV (repR (restQ (onN (rs.map (·.down))) rs.length cs.length (placeK cs) (gainQ us) t g)))/\Turned (fun _=>False) W w':=by
 have HS:=zh (fun(V:World) (hV:Turned (fun _=>False) W V)=>ySupply_any rs us cs rp gp cp rc gc cc g V (hi.on hV) hok)
 have HPL:=zh (fun(k:Nat) (u:Cl) (hu:cs[k]? = some u)=>(hok.place hu).1)
 obtain⟨c,hc⟩ : ∃c,(fun k=>onN (rs.map (·.down)) g (placeK cs k))=c:=⟨_,rfl⟩
 have HB:=zh (fun(V:World) (hV:Turned (fun _=>False) W V) (k:Nat) (u:Cl) (hu:cs[k]? = some u)=>(show Calls _ _ _ _ fun e w'=>e=.returned (.bool (c k))/\w'=V from by rw[<- hc];exact yBelow_any rs rp rc W.heap.size g (placeK cs k) V (hi.riv.turned hV) hok.riv (hok.place hu).2))
 have HON:Hid (∀k,onN (rs.map (·.down)) g (placeK cs k)=c k):=zh (fun k=>by rw[<- hc])
 have HG:=zh hi.cl;have HT:=zh ht;have hlen:=hok.len;have hn8:=hok.n8;have hm12:=hok.m12;obtain⟨x,hx⟩ : ∃x,gainQ us=x:=⟨_,rfl⟩;rw[hx] at HS hsz ⊢;rw[hlen] at HS ⊢;obtain⟨n,hn⟩ : ∃n,rs.length=n:=⟨_,rfl⟩;obtain⟨m,hm⟩ : ∃n,cs.length=n:=⟨_,rfl⟩;have HL:Hid (cs.length=m):=zh hm;rw[hn] at HB HS hn8 hsz ⊢;rw[hm] at hm12 hsz HT ⊢;obtain⟨on,hon⟩ : ∃o,onN (rs.map (·.down))=o:=⟨_,rfl⟩;rw[hon] at hsz HS HON ⊢;have HSZ:=zh (fun k (hk:k<=m)=>hsz.1 g k hk)
 have HST0:=zh hsz.2;rw[<- restTo_zero (place:=placeK cs) (t:=t)] at HS;rw[<- restTo_end];obtain⟨n0,n1⟩ : _/\_:=⟨new_first W (.cells #[.slice rp n rc,.slice gp n gc] 65 (0,0)) (.cells #[.bool false,.string ⟨#[]⟩,.string ⟨#[]⟩] 68 (0,0)),new_second W (.cells #[.slice rp n rc,.slice gp n gc] 65 (0,0)) (.cells #[.bool false,.string ⟨#[]⟩,.string ⟨#[]⟩] 68 (0,0))⟩;have T0:=((zr W).alloc (.cells #[.slice rp n rc,.slice gp n gc] 65 (0,0))).alloc (.cells #[.bool false,.string ⟨#[]⟩,.string ⟨#[]⟩] 68 (0,0));have z0:((W.alloc (.cells #[.slice rp n rc,.slice gp n gc] 65 (0,0))).alloc (.cells #[.bool false,.string ⟨#[]⟩,.string ⟨#[]⟩] 68 (0,0))).heap.size=W.heap.size+2:=by simp
 have hmm:(m:Int)<=12:=by omega
 obtain⟨c0,c1⟩:=box2c n0;have HT0:=zh (And.intro n0 (And.intro n1 (And.intro T0 z0)));clear hi hok hlen hn hm hc hx hon n0 n1 T0 z0 ht hsz;obtain⟨⟨zn,zx,zd⟩,hz⟩ : ∃s,repR (restTo on n (placeK cs) x t g 0)=s:=⟨_,rfl⟩;rw[hz] at HS;have HZ:=zh hz;clear hz;go_enter Tryz.func136,Tryz.ntmps136;go_wp2_with fail;refine(HS.out _ HT0.out.2.2.1).mono ?_;rintro e w1 ⟨rfl,t1⟩;have HT1:Hid (Tri W (w1.alloc (.cells #[.bool zn,.string zx,.string zd] 68)) _ w1.heap.size (repR (restTo on n (placeK cs) x t g 0))):=zh
  ⟨keepB ((zr w1).alloc _) (keepB t1 HT0.out.1),keepB ((zr w1).alloc _) (keepB t1 HT0.out.2.1),by rw[HZ.out];exact World.alloc_heap_new _ _,by have:=t1.size;have:=HT0.out.2.2.2;omega,(HT0.out.2.2.1.trans t1).alloc _⟩
 obtain⟨B,hB⟩ : ∃B,w1.heap.size=B:=⟨_,rfl⟩;rw[hB] at HT1;clear t1 c0 c1 HT0 HS;go_wp2_with fail;clear hB
 go_loopw [10] (fun i wr=>∃k:Nat,k<=m/\i=(.int .i64 k)/\Hid (Tri W wr (.cells #[.slice rp n rc,.slice gp n gc] 65 (0,0)) B (repR (restTo on n (placeK cs) x t g k)))) (fun i _=>m-(intOf i).toNat)
 case atStart=>exact⟨0,Nat.zero_le _,rfl,HT1⟩
 case round =>
  obtain⟨k,hk,rfl,HI⟩:=hrel;clear HT1 HZ;obtain⟨c0,c1⟩:=box2c HI.out.b0;obtain⟨d0,d1,d2,-,-,-⟩:=box3 HI.out.b2;by_cases hlt:k < m
  ·obtain⟨u,hu⟩ : ∃u,cs[k]? = some u:=⟨_,List.getElem?_eq_getElem (by rw[HL.out];exact hlt)⟩
   obtain⟨b,a,rfl,-,e0,-,-,-,-⟩:=(HG.out.turned HI.out.t).claims hu;rw[HPL.out k u hu] at e0;have HC2:=zh (fun V (hV:Turned (fun _=>False) W V)=>HB.out V hV k u hu)
   obtain⟨cb,hcb⟩ : ∃cb,c k=cb:=⟨_,rfl⟩;have HCB:=zh hcb;rw[hcb] at HC2;have hk0:(0:Int)<=k:=by omega
   have hk1:(k:Int) < m:=by omega
   clear hcb hu;cases cb
   ·have HST:Hid (restTo on n (placeK cs) x t g (k+1)=restTo on n (placeK cs) x t g k):=zh (restTo_off (by rw[HON.out];exact HCB.out))
    go_upto_region 5 with fail
    go_quiet ((go_at_call 134;exact Calls.quiet_of_same (HC2.out _ (HI.out.t.trans (drewN_turned _ _ _)))))
    have HI2:=zh (HI.out.call (drewN_turned (fun _=>False) wr nq))
    go_wp2_with fail
    go_roundw
    case rel=>exact⟨k+1,by omega,by go_num,by rw[HST.out];exact HI2⟩
    case measure=>simp[intOf];omega
   ·have HST:Hid (restTo on n (placeK cs) x t g (k+1)=restTo on n (placeK cs) x t g k-t k):=zh (restTo_on (by rw[HON.out];exact HCB.out))
    have hs1:=SzR.rep (HSZ.out k (by omega))
    have hs2:=SzR.rep (HST0.out k);have HD:=zh (fun V=>pSub_any (repR (restTo on n (placeK cs) x t g k)) (repR (t k)) 36000000 V (by omega) hs1 hs2)
    rw[qR_repR,qR_repR,<- HST.out] at HD;obtain⟨tb,ta,rfl,-,g0,g1,g2⟩:=(HT.out.turned HI.out.t).rats (repL_get t hlt);obtain⟨⟨un,ux,ud⟩,hu⟩ : ∃s,repR (t k)=s:=⟨_,rfl⟩;obtain⟨⟨fn,fx,fd⟩,hf⟩ : ∃s,repR (restTo on n (placeK cs) x t g k)=s:=⟨_,rfl⟩;obtain⟨⟨sn,sx,sy⟩,hs⟩ : ∃s,repR (restTo on n (placeK cs) x t g (k+1))=s:=⟨_,rfl⟩;rw[hu] at HD g0 g1 g2;rw[hf] at HD HI d0 d1 d2;rw[hs] at HD;have HSS:=zh hs;clear hu hf hs hs1 hs2
    go_upto_region 5 with fail
    go_quiet ((go_at_call 134;exact Calls.quiet_of_same (HC2.out _ (HI.out.t.trans (drewN_turned _ _ _)))))
    have HI2:=zh (HI.out.call (drewN_turned (fun _=>False) wr nq))
    have g0:=cellT (drewN_turned (fun _=>False) wr nq) id g0
    have g1:=cellT (drewN_turned (fun _=>False) wr nq) id g1
    have g2:=cellT (drewN_turned (fun _=>False) wr nq) id g2
    clear c0 c1 d0 d1 d2 e0;generalize wr.drewN nq=w2 at *
    go_upto_region 7 with fail
    refine region_tl 5 (by kernel_rfl) (by kernel_rfl) (fun V hT=>?_)
    have HTV:=zh (HI2.out.call hT);have g0:=cellT hT id g0;have g1:=cellT hT id g1;have g2:=cellT hT id g2;clear hT;obtain⟨d0,d1,d2,-,-,-⟩:=box3 HTV.out.b2;simp only[List.take_succ_cons,List.take_zero,List.drop_succ_cons,List.drop_zero]
    repeat still_step
    refine wpStill_nil ?_;go_wp2_with fail;refine(HD.out V).mono ?_;rintro e w3 ⟨rfl,t3⟩;have HT3:=zh (HTV.out.call t3);clear t3 d0 d1 d2 g0 g1 g2;obtain⟨f0,f1,f2,f3,f4,f5⟩:=box3 HT3.out.b2;have HT4:=zh (HT3.out.put ⟨sn,sx,sy⟩);go_wp2_with fail
    go_roundw
    case rel=>exact⟨k+1,by omega,by go_num,by rw[HSS.out];exact HT4⟩
    case measure=>simp[intOf];omega
  ·obtain rfl:k=m:=by omega
   obtain⟨r0,r1,r2,r3,r4,r5⟩:=box3 HI.out.b1;obtain⟨⟨sn,sx,sy⟩,hs⟩ : ∃s,repR (restTo on n (placeK cs) x t g k)=s:=⟨_,rfl⟩;rw[hs] at HI d0 d1 d2;have HS:=zh hs;clear hs;go_wp2_with fail;have HK:=set3 HI.out.b1 (.bool sn) (.string sx) (.string sy);refine bodyPost_ret (results_yRest _ _ (W.heap.size+1) _ _ _ rfl HK.1) rfl ?_;rw[HS.out];exact⟨rfl,HI.out.t.fresh HK.2 fun g hg=>by omega⟩
end Go.Proofs.YtanhhdndgkhcfaaGreatDoor
