/- Part 10 of the proof of lawSpec.card: OrdWalkE, OrdWalkF, KerRefA, OrdSum. Conditions: those of each theorem. -/
import Derived.Test.YtanhhdndgkhcfaaGreatDoorSp01
import Derived.Test.YtanhhdndgkhcfaaGreatDoorSp08
import Derived.Test.YtanhhdndgkhcfaaGreatDoorSp09
set_option maxRecDepth 100000
set_option maxHeartbeats 8000000
namespace Go.Proofs.YtanhhdndgkhcfaaGreatDoor
open Go Go.Proofs Go.RowKit
attribute [local go_sem] Oper.semAt_some
attribute [local go_sem ↓] run_eql_rat' run_neq_rat'
def natR (u:Rv):Bool:=decide (validR u) && !u.neg
def badC (n:Nat) (c:Cl):Int:=if(c.place < 0\/(n:Int)<=c.place)\/(c.rank < 0\/100 < c.rank) then 3 else if natR c.amt=false then 1 else 0
def claimsE (n:Nat):List Cl->Int
 | []=>0
 | c::l=>if badC n c=0 then claimsE n l else badC n c
def supE (rs:List Rc) (us:List Rv) (cs:List Cl):Int :=
 if rivE rs≠0 then rivE rs else if us.length≠rs.length\/(us.any fun u=>!natR u)=true then 1 else if 200 < cs.length then 2 else claimsE rs.length cs
theorem hZero_any(W:World):Calls Tryz.prog 57 #[] W fun e w'=>e=.returned (ratV zeroR)/\Turned (fun _=>False) W w':=by
 go_enter Tryz.func57,Tryz.ntmps57;go_wp2_with fail;refine bodyPost_ret (results_cell_row (fn:=Tryz.f57) rfl _ _ W.heap.size 68 #[.bool false,.string ⟨#[]⟩,.string ⟨#[]⟩] (0,0) _ rfl (World.alloc_heap_new _ _) Tryz.underlying68 rfl (by kernel_rfl)) rfl ?_
 exact⟨rfl,(Turned.refl _ W).alloc _⟩
theorem hNatural_any(u:Rv) (W:World) (hu:SzR u 400000000):Calls Tryz.prog 89 #[ratV u] W fun e w'=>e=.returned (.bool (natR u))/\Turned (fun _=>False) W w':=by
 have HV:=zh (fun W=>qValid_any u W hu.1 hu.2)
 obtain⟨un,ux,ud⟩:=u;obtain⟨v,hv⟩ : ∃v,decide (validR ⟨un,ux,ud⟩)=v:=⟨_,rfl⟩;have HR:Hid (natR ⟨un,ux,ud⟩=(v && !un)):=zh (by unfold natR;rw[hv])
 rw[hv] at HV;clear hu hv;cases v
 ·go_enter Tryz.func89,Tryz.ntmps89;go_wp2_with fail;refine(HV.out _).mono ?_;rintro e w1 ⟨rfl,t1⟩;have HT:=zh (((zr W).alloc _).trans t1);clear t1 HV;go_wp2_with fail;go_ret;rw[HR.out];exact⟨rfl,HT.out⟩
 ·go_enter Tryz.func89,Tryz.ntmps89;go_wp2_with fail;refine(HV.out _).mono ?_;rintro e w1 ⟨rfl,t1⟩;have c0:=(box3 (keepB t1 (World.alloc_heap_new W _))).1;have HT:=zh (((zr W).alloc _).trans t1);clear t1 HV;go_wp2_with fail;go_ret;rw[HR.out];exact⟨rfl,HT.out⟩
theorem hCheckE_any(u:Rv) (W:World) (hu:SzR u 400000000):Calls Tryz.prog 88 #[ratV u] W fun e w'=>e=.returned (.bool (!natR u))/\Turned (fun _=>False) W w':=by
 have HV:=zh (fun W=>hNatural_any u W hu)
 obtain⟨un,ux,ud⟩:=u;obtain⟨v,hv⟩ : ∃v,natR ⟨un,ux,ud⟩=v:=⟨_,rfl⟩;rw[hv] at HV ⊢;clear hu hv;go_enter Tryz.func88,Tryz.ntmps88;go_wp2_with fail;refine(HV.out _).mono ?_;rintro e w1 ⟨rfl,t1⟩;have HT:=zh (((zr W).alloc _).trans t1);clear t1 HV;go_wp2_with fail;go_ret;exact⟨rfl,HT.out⟩
def firstBad:List Rv->Nat->Int
 | [],_ => -1
 | u::l,k=>if natR u=true then firstBad l (k+1) else k
theorem firstBad_any:∀(l:List Rv) (k:Nat),decide (0<=firstBad l k)=l.any fun u=>!natR u
 | [],k=>by rfl
 | u::l,k=>by
  rw[firstBad,List.any_cons];split
  ·rename_i h
   rw[h,firstBad_any l (k+1)];rfl
  ·rename_i h
   simp[h]
theorem firstBad_drop:∀(l:List Rv) (k i:Nat),(∀j u,j < k->l[j]? = some u->natR u=true)->firstBad l i=firstBad (l.drop k) (i+k)
 | [],k,i,_=>by rw[List.drop_nil];rfl
 | u::l,0,i,_=>rfl
 | u::l,k+1,i,h=>by
  rw[firstBad,if_pos (h 0 u (by omega) rfl),List.drop_succ_cons,firstBad_drop l k (i+1) fun j v hj hv=>h (j+1) v (by omega) (by simpa using hv),show i+1+k=i+(k+1) by omega]
theorem slIndF_any(us:List Rv) (p:Option Addr) (c N:Nat) (W:World) (h:At N W 3 ratCells us p c) (hs:∀u∈us,SzR u 400000000) :
  Calls Tryz.prog 119 #[.slice p us.length c,.func (.func 88) #[] #[]] W fun e w'=>e=.returned (.int .i64 (firstBad us 0))/\Turned (fun _=>False) W w':=by
 have HL:=zh h;have HS:=zh hs;have hmx:(us.length:Int)<=9223372036854775807:=by have:=h.len;unfold maxLen at this;omega
 obtain⟨n,hn⟩ : ∃n,us.length=n:=⟨_,rfl⟩;have HN:=zh hn;rw[hn] at hmx ⊢;clear h hs hn;go_enter Tryz.func119,Tryz.ntmps119;go_wp2_with fail
 go_loopw [8] (fun i wr=>∃k:Nat,k<=n/\i=(.int .i64 k)/\Hid (Turned (fun _=>False) W wr/\∀j u,j < k->us[j]? = some u->natR u=true)) (fun i _=>n-(intOf i).toNat)
 case atStart=>exact⟨0,Nat.zero_le _,rfl,zh ⟨Turned.refl _ _,fun j u h=>by omega⟩⟩
 case round =>
  obtain⟨k,hk,rfl,HH⟩:=hrel;by_cases hlt:k < n
  ·have hx:us[k]? = some (us[k]'(by rw[HN.out];exact hlt)):=List.getElem?_eq_getElem _
   obtain⟨⟨un,ux,ud⟩,hxe⟩ : ∃u,us[k]'(by rw[HN.out];exact hlt)=u:=⟨_,rfl⟩
   rw[hxe] at hx;obtain⟨b,a,rfl,-,e0,e1,e2⟩:=(HL.out.turned HH.out.1).rats hx;have HC:=zh (fun W=>hCheckE_any ⟨un,ux,ud⟩ W (HS.out _ (List.mem_of_getElem? hx)))
   have HFB:Hid (firstBad us 0=if natR ⟨un,ux,ud⟩=true then firstBad (us.drop (k+1)) (k+1) else k):=zh (by
    rw[firstBad_drop us k 0 HH.out.2,List.drop_eq_getElem_cons (by rw[HN.out];exact hlt),hxe,firstBad,Nat.zero_add])
   have HX:=zh hx;clear hx hxe;by_cases hv:natR ⟨un,ux,ud⟩=true
   ·rw[hv] at HC;have HG:∀A,Turned (fun _=>False) wr A->Hid (Turned (fun _=>False) W A/\∀j u,j < k+1->us[j]? = some u->natR u=true):=fun A hA=>zh ⟨HH.out.1.trans hA,fun j u hj hu=>by
     rcases Nat.lt_or_ge j k with h1 | h1
     ·exact HH.out.2 j u h1 hu
     ·obtain rfl:j=k:=by omega
      rw[HX.out] at hu;cases hu;exact hv⟩
    have HGG:=zh HG;clear HG hv;go_wp2_with fail;refine(HC.out _).mono ?_;rintro e w1 ⟨rfl,t1⟩;have T1:=zh t1;clear t1;go_wp2_with fail
    go_roundw
    case rel=>exact⟨k+1,by omega,by go_num,HGG.out _ T1.out⟩
    case measure=>simp[intOf];omega
   ·have hv2:natR ⟨un,ux,ud⟩=false:=by simpa using hv
    rw[hv2] at HC;have HFB2:Hid (firstBad us 0=k):=zh (by rw[HFB.out,if_neg hv])
    clear hv hv2;go_wp2_with fail;refine(HC.out _).mono ?_;rintro e w1 ⟨rfl,t1⟩;have T1:=zh (HH.out.1.trans t1);clear t1;go_wp2_with fail;go_ret;rw[HFB2.out];exact⟨rfl,T1.out⟩
  ·obtain rfl:k=n:=by omega
   have HFB2:Hid (firstBad us 0 = -1):=zh (by
    rw[firstBad_drop us k 0 HH.out.2,List.drop_eq_nil_of_le (by rw[HN.out];exact Nat.le_refl _)];rfl)
   go_wp2_with fail;go_ret;rw[HFB2.out];exact⟨rfl,HH.out.1⟩
theorem slContF_any(us:List Rv) (p:Option Addr) (c N:Nat) (W:World) (h:At N W 3 ratCells us p c) (hs:∀u∈us,SzR u 400000000) :
  Calls Tryz.prog 87 #[.slice p us.length c,.func (.func 88) #[] #[]] W fun e w'=>e=.returned (.bool (us.any fun u=>!natR u))/\Turned (fun _=>False) W w':=by
 have HC:=zh (slIndF_any us p c N W h hs);obtain⟨z,hz⟩ : ∃z,firstBad us 0=z:=⟨_,rfl⟩;rw[<- firstBad_any us 0];rw[hz] at HC ⊢;clear h hs hz;go_enter Tryz.func87,Tryz.ntmps87;go_wp2_with fail;refine HC.out.mono ?_;rintro e w1 ⟨rfl,t1⟩;have T1:=zh t1;clear t1;go_wp2_with fail;go_ret;exact⟨rfl,T1.out⟩
attribute [local go_sem ↓] run_eql_rat' run_neq_rat'
theorem claimsE_drop(n:Nat):∀(l:List Cl) (k:Nat),(∀j u,j < k->l[j]? = some u->badC n u=0)->claimsE n l=claimsE n (l.drop k)
 | [],k,_=>by rw[List.drop_nil]
 | u::l,0,_=>rfl
 | u::l,k+1,h=>by
  rw[claimsE,if_pos (h 0 u (by omega) rfl),List.drop_succ_cons,claimsE_drop n l k fun j v hj hv=>h (j+1) v (by omega) (by simpa using hv)]
theorem hCheck_any(rs:List Rc) (us:List Rv) (cs:List Cl) (rp gp cp:Option Addr) (rc gc cc:Nat) (W:World) (hr:RivAt W.heap.size W rs rp rc) (hg:At W.heap.size W 3 ratCells us gp gc) (hc:At W.heap.size W 5 claimCells cs cp cc)
  (su:∀u∈us,SzR u 400000000) (sc:∀c∈cs,SzR c.amt 400000000) :
  Calls Tryz.prog 49 #[.agg #[.slice rp rs.length rc,.slice gp us.length gc],.slice cp cs.length cc] W fun e w'=>e=.returned (.int .i64 (supE rs us cs))/\Turned (fun _=>False) W w':=by
 have T0:=(zr W).alloc (.cells #[.slice rp rs.length rc,.slice gp us.length gc] 65);have B0:=World.alloc_heap_new W (.cells #[.slice rp rs.length rc,.slice gp us.length gc] 65);have HB0:=zh B0;have hr0:=(hr.turned T0).mono T0.size;have HE:=zh (eCheck_any rs rp rc _ hr0);have HG:=zh (fun A (hA:Turned (fun _=>False) (W.alloc (.cells #[.slice rp rs.length rc,.slice gp us.length gc] 65)) A)=>slContF_any us gp gc W.heap.size A ((hg.turned T0).turned hA) su)
 have HC:=zh (hc.turned T0);have HSC:=zh sc;have m1:(cs.length:Int)<=9223372036854775807:=by have:=hc.len;unfold maxLen at this;omega
 have m2:(us.length:Int)<=9223372036854775807:=by have:=hg.len;unfold maxLen at this;omega
 have m3:(rs.length:Int)<=9223372036854775807:=by have:=hr.at_.len;unfold maxLen at this;omega
 have HV:Hid (supE rs us cs=if rivE rs≠0 then rivE rs else if us.length≠rs.length\/(us.any fun u=>!natR u)=true then 1 else if 200 < cs.length then 2 else claimsE rs.length cs):=zh rfl
 obtain⟨nr,hnr⟩ : ∃n,rs.length=n:=⟨_,rfl⟩;obtain⟨nu,hnu⟩ : ∃n,us.length=n:=⟨_,rfl⟩;obtain⟨nc,hnc⟩ : ∃n,cs.length=n:=⟨_,rfl⟩;have HNC:=zh hnc;obtain⟨rv,hrv⟩ : ∃v,rivE rs=v:=⟨_,rfl⟩;obtain⟨av,hav⟩ : ∃v,(us.any fun u=>!natR u)=v:=⟨_,rfl⟩
 obtain⟨sv,hsv⟩ : ∃v,supE rs us cs=v:=⟨_,rfl⟩;rw[hnr,hnu] at B0 T0 HB0 HG HE HC;rw[hrv] at HE;rw[hav] at HG;rw[hnr,hnu,hnc,hrv,hav,hsv] at HV;rw[hnr] at m3;rw[hnu] at m2;rw[hnc] at m1;rw[hnr,hnu,hnc,hsv];obtain⟨w0,hw0⟩ : ∃w0,w0=W.alloc (.cells #[.slice rp nr rc,.slice gp nu gc] 65):=⟨_,rfl⟩;rw[<- hw0] at B0 T0 HB0 HG HE HC;have HT0:=zh T0;clear hr hg hc su sc hr0 hnr hnu hnc hrv hav hsv B0 T0;have CE:∀A,Turned (fun _=>False) w0 A->A.cell? ⟨W.heap.size,0,none⟩=some (.slice rp nr rc)/\A.cell? ⟨W.heap.size,1,none⟩=some (.slice gp nu gc):=fun A hA=>by
  have:=keepB hA HB0.out;constructor <;> simp[World.cell?,this]
 have HCE:=zh CE;clear CE;go_enter Tryz.func49,Tryz.ntmps49;go_wp2_with fail;rw[<- hw0];refine HE.out.mono ?_;rintro e w1 ⟨rfl,t1⟩;have HT1:=zh t1;obtain⟨c0,c1⟩:=HCE.out w1 t1;clear t1 HE hw0;by_cases h1:rv=0
 ·subst h1;replace HV:=zh (HV.out.trans (if_neg (by simp)))
  by_cases h2:nu=nr
  ·subst h2;have hG1:=zh (HG.out w1 HT1.out);clear HG;cases av
   ·replace HV:=zh (HV.out.trans (if_neg (by simp)))
    by_cases h5:200 < nc
    ·replace HV:=zh (HV.out.trans (if_pos h5));have h6:(200:Int) < nc:=by omega
     go_wp2_with (refine hG1.out.mono ?_;rintro e w2 ⟨rfl,t2⟩;have HT2:=zh (HT1.out.trans t2);clear t2);go_ret;rw[HV.out];exact⟨rfl,HT0.out.trans HT2.out⟩
    have h6:¬(200:Int) < nc:=by omega
    replace HV:=zh (HV.out.trans (if_neg h5));clear h5;go_wp2_with (refine hG1.out.mono ?_;rintro e w2 ⟨rfl,t2⟩;have HT2:=zh (HT1.out.trans t2);clear t2);clear hG1 c0 c1 HT1
    go_loopw [31] (fun i wr=>∃k:Nat,k<=nc/\i=(.int .i64 k)/\Hid (Turned (fun _=>False) w0 wr/\∀j u,j < k->cs[j]? = some u->badC nu u=0)) (fun i _=>nc-(intOf i).toNat)
    case atStart=>exact⟨0,Nat.zero_le _,rfl,zh ⟨HT2.out,fun j u h=>by omega⟩⟩
    case round =>
     clear HT2;obtain⟨k,hk,rfl,HH⟩:=hrel;by_cases hlt:k < nc
     ·have hx:cs[k]? = some (cs[k]'(by rw[HNC.out];exact hlt)):=List.getElem?_eq_getElem _
      obtain⟨⟨pl,rk,⟨un,ux,ud⟩⟩,hxe⟩ : ∃u,cs[k]'(by rw[HNC.out];exact hlt)=u:=⟨_,rfl⟩
      rw[hxe] at hx;obtain⟨b,a,rfl,-,e0,e1,e2,e3,e4⟩:=(HC.out.turned HH.out.1).claims hx;have TA:=(zr wr).alloc (.cells #[.int .i64 pl,.int .i64 rk,.bool un,.string ux,.string ud] 75);have ce:=HCE.out _ (HH.out.1.trans TA);obtain⟨k0,k1⟩:=ce;have HN:=zh (fun W=>hNatural_any ⟨un,ux,ud⟩ W (HSC.out _ (List.mem_of_getElem? hx)))
      have HCL:Hid (claimsE nu cs=if badC nu ⟨pl,rk,⟨un,ux,ud⟩⟩=0 then claimsE nu (cs.drop (k+1)) else badC nu ⟨pl,rk,⟨un,ux,ud⟩⟩):=zh (by
       rw[claimsE_drop nu cs k HH.out.2,List.drop_eq_getElem_cons (by rw[HNC.out];exact hlt),hxe,claimsE])
      have HX:=zh hx;have HTA:=zh (HH.out.1.trans TA);have HBAD:Hid (∀v,badC nu ⟨pl,rk,⟨un,ux,ud⟩⟩=v->v≠0->sv=v):=zh fun v h1 h2=>by
       rw[HV.out,HCL.out,if_neg (by rw[h1];exact h2),h1]
      have HNX:Hid (badC nu ⟨pl,rk,⟨un,ux,ud⟩⟩=0->∀A,Turned (fun _=>False) w0 A->Hid (Turned (fun _=>False) w0 A/\∀j u,j < k+1->cs[j]? = some u->badC nu u=0)):=zh fun h0 A hA=>zh ⟨hA,fun j u hj hu=>by
       rcases Nat.lt_or_ge j k with h1 | h1
       ·exact HH.out.2 j u h1 hu
       ·obtain rfl:j=k:=by omega
        rw[HX.out] at hu;cases hu;exact h0⟩
      clear hx hxe;by_cases g:(pl < 0\/(nu:Int)<=pl)\/(rk < 0\/100 < rk)
      ·have HS3:Hid (sv=3):=zh (HBAD.out 3 (by unfold badC;rw[if_pos g]) (by decide))
       rcases g with(g | g) | (g | g)
       ·go_wp2_with fail;go_ret;rw[HS3.out];exact⟨rfl,HT0.out.trans HTA.out⟩
       ·by_cases g1:pl < 0
        ·omega
        go_wp2_with fail;go_ret;rw[HS3.out];exact⟨rfl,HT0.out.trans HTA.out⟩
       ·by_cases g1:pl < 0\/(nu:Int)<=pl
        ·rcases g1 with g1 | g1
         ·go_wp2_with fail;go_ret;rw[HS3.out];exact⟨rfl,HT0.out.trans HTA.out⟩
         ·have g2:¬pl < 0:=by omega
          go_wp2_with fail;go_ret;rw[HS3.out];exact⟨rfl,HT0.out.trans HTA.out⟩
        ·have g2:¬pl < 0:=by omega
         have g3:¬(nu:Int)<=pl:=by omega
         clear g1;go_wp2_with fail;go_ret;rw[HS3.out];exact⟨rfl,HT0.out.trans HTA.out⟩
       ·by_cases g1:pl < 0\/(nu:Int)<=pl
        ·rcases g1 with g1 | g1
         ·go_wp2_with fail;go_ret;rw[HS3.out];exact⟨rfl,HT0.out.trans HTA.out⟩
         ·have g2:¬pl < 0:=by omega
          go_wp2_with fail;go_ret;rw[HS3.out];exact⟨rfl,HT0.out.trans HTA.out⟩
        ·have g2:¬pl < 0:=by omega
         have g3:¬(nu:Int)<=pl:=by omega
         have g4:¬rk < 0:=by omega
         clear g1;go_wp2_with fail;go_ret;rw[HS3.out];exact⟨rfl,HT0.out.trans HTA.out⟩
      have g1:¬pl < 0:=by omega
      have g2:¬(nu:Int)<=pl:=by omega
      have g3:¬rk < 0:=by omega
      have g4:¬100 < rk:=by omega
      have HBC:Hid (badC nu ⟨pl,rk,⟨un,ux,ud⟩⟩=if natR ⟨un,ux,ud⟩=false then 1 else 0):=zh (by unfold badC;rw[if_neg g])
      clear g;obtain⟨nv,hnv⟩ : ∃v,natR ⟨un,ux,ud⟩=v:=⟨_,rfl⟩;rw[hnv] at HBC HN;clear hnv;cases nv
      ·have HS1:Hid (sv=1):=zh (HBAD.out 1 (by rw[HBC.out];rfl) (by decide))
       go_wp2_with (refine(HN.out _).mono ?_;rintro e w3 ⟨rfl,t3⟩;have T3:=zh t3;clear t3);go_ret;rw[HS1.out];exact⟨rfl,HT0.out.trans (HTA.out.trans T3.out)⟩
      ·have HG2:=zh (HNX.out (by rw[HBC.out];rfl))
       go_wp2_with (refine(HN.out _).mono ?_;rintro e w3 ⟨rfl,t3⟩;have T3:=zh t3;clear t3)
       go_roundw
       case rel=>exact⟨k+1,by omega,by go_num,HG2.out _ (HTA.out.trans T3.out)⟩
       case measure=>simp[intOf];omega
     ·obtain rfl:k=nc:=by omega
      have HS0:Hid (sv=0):=zh (by
       rw[HV.out,claimsE_drop nu cs k HH.out.2,List.drop_eq_nil_of_le (by rw[HNC.out];exact Nat.le_refl _)];rfl)
      go_wp2_with fail;go_ret;rw[HS0.out];exact⟨rfl,HT0.out.trans HH.out.1⟩
   ·replace HV:=zh (HV.out.trans (if_pos (by simp)))
    go_wp2_with (refine hG1.out.mono ?_;rintro e w2 ⟨rfl,t2⟩;have HT2:=zh (HT1.out.trans t2);clear t2);go_ret;rw[HV.out];exact⟨rfl,HT0.out.trans HT2.out⟩
  ·replace HV:=zh (HV.out.trans (if_pos (.inl h2)));have h3:((nu:Int) == (nr:Int))=false:=by simpa using fun h=>h2 (by omega)
   have h4:((nu:Int) != (nr:Int))=true:=by simpa using fun h=>h2 (by omega)
   clear h2;go_wp2_with fail;go_ret;rw[HV.out];exact⟨rfl,HT0.out.trans HT1.out⟩
 ·replace HV:=zh (HV.out.trans (if_pos h1));have h2:(rv == 0)=false:=by simpa using h1
  have h3:(rv != 0)=true:=by simpa using h1
  clear h1;go_wp2_with fail;go_ret;rw[HV.out];exact⟨rfl,HT0.out.trans HT1.out⟩
theorem xSum_any(ws:List Int) (p:Option Addr) (c N:Nat) (W:World) (h:At N W 1 intCells ws p c) (hr:∀x∈ws,0<=x/\x<=999999999999999) (hl:ws.length<=400) :
  Calls Tryz.prog 142 #[.slice p ws.length c] W fun e w'=>e=.returned (.int .i64 ws.sum)/\w'=W:=by
 have HW:=zh h;have HS:=zh (fun k=>sum_bound (ws:=ws.take k) fun x hx=>hr x (List.mem_of_mem_take hx))
 have HR:=zh hr;obtain⟨n,hn⟩ : ∃n,ws.length=n:=⟨_,rfl⟩;have HN:=zh hn;rw[hn] at hl ⊢;clear h hr hn;go_enter Tryz.func142,Tryz.ntmps142;go_wp2_with fail
 go_loop [3,4] (fun s i=>∃k:Nat,k<=n/\i=(.int .i64 k)/\s=(.int .i64 ((ws.take k).sum))) (fun _ i=>n-(intOf i).toNat)
 case atStart=>exact⟨0,Nat.zero_le _,rfl,rfl⟩
 case round =>
  obtain⟨k,hk,rfl,rfl⟩:=hrel;by_cases hlt:k < n
  ·have hx:ws[k]? = some (ws[k]'(by rw[HN.out];exact hlt)):=List.getElem?_eq_getElem _
   obtain⟨x,hxe⟩ : ∃x,ws[k]'(by rw[HN.out];exact hlt)=x:=⟨_,rfl⟩
   rw[hxe] at hx;obtain⟨b,a,rfl,-,hc⟩:=HW.out.ints hx;have HE:=zh (sum_take_succ hx);have hb:=(HS.out k);have hb2:=HR.out x (List.mem_of_getElem? hx);have hlen:(ws.take k).length<=400:=by rw[List.length_take];omega
   have b0:=hb.1;have b1:(ws.take k).sum<=400000000000000000:=by have:=hb.2;omega
   have b2:=hb2.1;have b3:=hb2.2;clear hxe hx hb hb2 hlen;obtain⟨t,ht⟩ : ∃t,(ws.take k).sum=t:=⟨_,rfl⟩;rw[ht] at b0 b1 HE ⊢;clear ht
   go_wp2
   go_round
   case rel=>exact⟨k+1,by omega,by go_num,by rw[HE.out]⟩
   case measure=>simp[intOf];omega
  ·obtain rfl:k=n:=by omega
   have HT:Hid (ws.take k=ws):=zh (List.take_of_length_le (by rw[HN.out];omega))
   go_wp2
   go_ret;rw[HT.out];exact⟨rfl,rfl⟩
theorem xKCheck_any(ws:List Int) (p:Option Addr) (c N:Nat) (W:World) (h:At N W 1 intCells ws p c) :
  Calls Tryz.prog 120 #[.agg #[.slice p ws.length c]] W fun e w'=>e=.returned (.int .i64 (kerE ws))/\Turned (fun _=>False) W w':=by
 have HW:=zh (h.turned ((zr W).alloc (.cells #[.slice p ws.length c] 121)));have HC:=zh (fun(hr:∀x∈ws,0<=x/\x<=999999999999999) (hl:ws.length<=400)=>xSum_any ws p c N _ HW.out hr hl)
 have hmx:(ws.length:Int)<=9223372036854775807:=by have:=h.len;unfold maxLen at this;omega
 obtain⟨n,hn⟩ : ∃n,ws.length=n:=⟨_,rfl⟩;have HN:=zh hn;have HKE:Hid (kerE ws=if n < 1\/400 < n then 2 else if ws.any badW=true then 3 else if 999999999999999 < ws.sum then 3 else if ws.sum=0 then 1 else 0):=zh (by unfold kerE;rw[hn])
 rw[hn] at HW HC hmx ⊢;clear h hn;by_cases h1:n < 1
 ·have HK2:Hid (kerE ws=2):=zh (by rw[HKE.out,if_pos (.inl h1)])
  clear HKE HC;go_enter Tryz.func120,Tryz.ntmps120;go_wp2_with fail;go_ret;rw[HK2.out];exact⟨rfl,(Turned.refl _ W).alloc _⟩
 by_cases h2:400 < n
 ·have HK2:Hid (kerE ws=2):=zh (by rw[HKE.out,if_pos (.inr h2)])
  clear HKE HC;go_enter Tryz.func120,Tryz.ntmps120;go_wp2_with fail;go_ret;rw[HK2.out];exact⟨rfl,(Turned.refl _ W).alloc _⟩
 replace HKE:=zh (HKE.out.trans (if_neg (by omega)))
 have h1':¬(n:Int) < 1:=by omega
 have h2':¬(400:Int) < (n:Int):=by omega
 go_enter Tryz.func120,Tryz.ntmps120;go_wp2_with fail
 go_loop [3] (fun i=>∃k:Nat,k<=n/\i=(.int .i64 k)/\Hid ((ws.take k).any badW=false)) (fun i=>n-(intOf i).toNat)
 case atStart=>exact⟨0,Nat.zero_le _,rfl,zh rfl⟩
 case round =>
  obtain⟨k,hk,rfl,HA⟩:=hrel;by_cases hlt:k < n
  ·have hx:ws[k]? = some (ws[k]'(by rw[HN.out];exact hlt)):=List.getElem?_eq_getElem _
   obtain⟨x,hxe⟩ : ∃x,ws[k]'(by rw[HN.out];exact hlt)=x:=⟨_,rfl⟩
   rw[hxe] at hx;obtain⟨b,a,rfl,-,hc⟩:=HW.out.ints hx;have HX:=zh hx;clear hxe hx;by_cases g1:x < 0
   ·have HK2:Hid (kerE ws=3):=zh (by rw[HKE.out,if_pos (any_of HX.out (by unfold badW;simp[g1]))])
    go_wp2
    go_ret;rw[HK2.out];exact⟨rfl,(Turned.refl _ W).alloc _⟩
   by_cases g2:999999999999999 < x
   ·have HK2:Hid (kerE ws=3):=zh (by rw[HKE.out,if_pos (any_of HX.out (by unfold badW;simp[g2]))])
    go_wp2
    go_ret;rw[HK2.out];exact⟨rfl,(Turned.refl _ W).alloc _⟩
   have HB:Hid ((ws.take (k+1)).any badW=false):=zh (by rw[any_take_succ HX.out HA.out];unfold badW;simp[g1,g2])
   go_wp2
   go_round
   case rel=>exact⟨k+1,by omega,by go_num,HB⟩
   case measure=>simp[intOf];omega
  ·obtain rfl:k=n:=by omega
   have hA2:ws.any badW=false:=by
    have:=HA.out;rwa [List.take_of_length_le (by rw[HN.out];omega)] at this
   have hall:∀x∈ws,0<=x/\x<=999999999999999:=fun x hx=>by
    have:=List.any_eq_false.1 hA2 x hx;unfold badW at this;simp at this;omega
   have HT:=zh (HC.out hall (by omega))
   replace HKE:=zh (HKE.out.trans (if_neg (by rw[hA2];simp)))
   clear hA2 HA HC hlt;have hsb:=sum_bound hall;rw[HN.out] at hsb;clear hall;obtain⟨t,ht⟩ : ∃t,ws.sum=t:=⟨_,rfl⟩;rw[ht] at hsb HKE HT;clear ht;by_cases g1:999999999999999 < t
   ·have HK2:Hid (kerE ws=3):=zh (by rw[HKE.out,if_pos g1])
    go_wp2_with (go_at_call 142;refine HT.out.mono ?_;rintro e _ ⟨rfl,rfl⟩);go_ret;rw[HK2.out];exact⟨rfl,(Turned.refl _ W).alloc _⟩
   replace HKE:=zh (HKE.out.trans (if_neg g1));by_cases g2:t=0
   ·have HK2:Hid (kerE ws=1):=zh (by rw[HKE.out,if_pos g2])
    subst g2;go_wp2_with (go_at_call 142;refine HT.out.mono ?_;rintro e _ ⟨rfl,rfl⟩);go_ret;rw[HK2.out];exact⟨rfl,(Turned.refl _ W).alloc _⟩
   have HK2:Hid (kerE ws=0):=zh (by rw[HKE.out,if_neg g2])
   have g3:(t == 0)=false:=by simpa using g2
   clear g2;go_wp2_with (go_at_call 142;refine HT.out.mono ?_;rintro e _ ⟨rfl,rfl⟩);go_ret;rw[HK2.out];exact⟨rfl,(Turned.refl _ W).alloc _⟩
def addAt (s:Nat->Rat) (g:Nat) (a:Rat):Nat->Rat:=fun h=>if h=g then s h+a else s h
def addWay (s:Nat->Rat) (l:List Nat) (a:Rat):Nat->Rat:=l.foldl (fun s g=>addAt s g a) s
def addAll (ds:List Int) (pl:Nat->Int) (am:Nat->Rat) (s:Nat->Rat) (xs:List Nat):Nat->Rat:=xs.foldl (fun s k=>addWay s (way ds (pl k)) (am k)) s
def repL (n:Nat) (s:Nat->Rat):List Rv:=(List.range n).map fun g=>repR (s g)
theorem repL_len(n:Nat) (s:Nat->Rat):(repL n s).length=n:=by unfold repL;simp
theorem repL_get{n g:Nat} (s:Nat->Rat) (h:g < n):(repL n s)[g]? = some (repR (s g)):=by unfold repL;simp[h]
theorem repL_zero(n:Nat):List.replicate n zeroR=repL n fun _=>0:=by
 unfold repL;rw[<- repR_zero];apply List.ext_getElem
 ·simp
 ·intro i h1 h2;simp
theorem repL_at(n:Nat) (s:Nat->Rat) (i:Nat):(repL n s)[i]? = if i < n then some (repR (s i)) else none:=by
 unfold repL;rw[List.getElem?_map];by_cases h:i < n
 ·simp[h]
 ·rw[List.getElem?_eq_none (by simp;omega),if_neg h];rfl
theorem repL_set{n g:Nat} (s:Nat->Rat) (a:Rat):(repL n s).set g (repR (s g+a))=repL n (addAt s g a):=by
 apply List.ext_getElem?;intro i;rw[List.getElem?_set,repL_at,repL_at,repL_len];by_cases h:g=i
 ·subst h;rw[if_pos rfl,show addAt s g a g=s g+a from if_pos rfl]
 ·rw[if_neg h,show addAt s g a i=s i from if_neg fun e=>h e.symm]
theorem addWay_take{s:Nat->Rat} {l:List Nat} {a:Rat} {i g:Nat} (h:l[i]? = some g):addWay s (l.take (i+1)) a=addAt (addWay s (l.take i) a) g a:=by
 obtain⟨hlt,rfl⟩:=List.getElem?_eq_some_iff.1 h;unfold addWay;rw[List.take_succ_eq_append_getElem hlt,List.foldl_append];rfl
theorem addAll_take{ds:List Int} {pl:Nat->Int} {am:Nat->Rat} {s:Nat->Rat} {xs:List Nat} {i k:Nat} (h:xs[i]? = some k):addAll ds pl am s (xs.take (i+1))=addWay (addAll ds pl am s (xs.take i)) (way ds (pl k)) (am k):=by
 obtain⟨hlt,rfl⟩:=List.getElem?_eq_some_iff.1 h;unfold addAll;rw[List.take_succ_eq_append_getElem hlt,List.foldl_append];rfl
theorem addAt_bytes{s:Nat->Rat} {g:Nat} {a:Rat} {b m:Nat} (h:∀h,BytesQ (s h) b) (ha:BytesQ a m):∀h,BytesQ (addAt s g a h) (b+(m+1)):=by
 intro i;unfold addAt;split
 ·exact((h i).add ha).mono (by omega)
 ·exact(h i).mono (by omega)
theorem addWay_bytes{a:Rat} {m:Nat} (ha:BytesQ a m):∀(l:List Nat) (s:Nat->Rat) (b:Nat),(∀h,BytesQ (s h) b)->∀h,BytesQ (addWay s l a h) (b+l.length*(m+1))
 | [],s,b,h=>by intro i;simpa [addWay] using h i
 | g::l,s,b,h=>by
  intro i;have:=addWay_bytes ha l (addAt s g a) (b+(m+1)) (addAt_bytes h ha) i;refine this.mono ?_;rw[List.length_cons,Nat.add_mul];omega
theorem addAll_bytes{ds:List Int} {pl:Nat->Int} {am:Nat->Rat} {m:Nat} : ∀(xs:List Nat) (s:Nat->Rat) (b:Nat),(∀k∈xs,BytesQ (am k) m)->(∀h,BytesQ (s h) b)->∀h,BytesQ (addAll ds pl am s xs h) (b+xs.length*((ds.length+1)*(m+1)))
 | [],s,b,_,h=>by intro i;simpa [addAll] using h i
 | k::xs,s,b,ha,h=>by
  intro i;have h1:=addWay_bytes (ha k (by simp)) (way ds (pl k)) s b h
  have h2:(way ds (pl k)).length*(m+1)<=(ds.length+1)*(m+1):=Nat.mul_le_mul_right _ (way_len ds (pl k));have:=addAll_bytes (ds:=ds) (pl:=pl) xs _ (b+(ds.length+1)*(m+1)) (fun k hk=>ha k (by simp[hk])) (fun j=>(h1 j).mono (by omega)) i
  refine this.mono ?_;rw[List.length_cons,Nat.add_mul xs.length 1];omega
end Go.Proofs.YtanhhdndgkhcfaaGreatDoor
