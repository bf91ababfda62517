/- Part 14 of the proof of lawSpec.card: OrdAllotB, OrdAllotC. Conditions: those of each theorem. -/
import Derived.Test.YtanhhdndgkhcfaaGreatDoorSp01
import Derived.Test.YtanhhdndgkhcfaaGreatDoorSp12
import Derived.Test.YtanhhdndgkhcfaaGreatDoorSp13
set_option maxRecDepth 1000000
set_option maxHeartbeats 1000000
namespace Go.Proofs.YtanhhdndgkhcfaaGreatDoor
open Go.RowKit
attribute [local go_sem ↓] run_eql_rat' run_neq_rat'
theorem amt_zero{u:Rv} (h:natR u=true):sameR u zeroR=decide (qR u=0):=by
 unfold sameR
 congr 1
 refine propext ⟨fun e=>?_,fun e=>?_⟩
 ·rw[e,<- repR_zero,qR_repR]
 ·rw[<- repR_qR (natR_valid h).1,e,repR_zero]
theorem box5{w:World} {b t:Nat} {v x y z u:Value} (h:w.heap[b]? = some (.cells #[v,x,y,z,u] t (0,0))):w.cell? ⟨b,0,none⟩=some v/\w.cell? ⟨b,1,none⟩=some x/\w.cell? ⟨b,2,none⟩=some y/\w.cell? ⟨b,3,none⟩=some z/\w.cell? ⟨b,4,none⟩=some u:=by
 simp[World.cell?,h]
theorem wp_region_plain{P:Program} {Q:Exit->Act->World->Prop} {S:World->Prop} {id:Nat} {ops:Array Oper} {a:Act} {w:World} (hm:P.follows .mixedOrders=true)
  (h:wpAnyH P .any ops (OnlyN Q) S ops.size (Array.replicate ops.size false) a w.drew):(Code.region id ops true).wp P Q a w :=
 wp_mono (wp_region_held hm h) (fun e a' w' hq=>by cases e <;> first | exact hq | exact hq.elim)
def openTo (cs:List Cl) (r:Int) (j:Nat):Nat->Bool:=fun k=>decide (k < j) && firstOpen (rankK cs) (amtK cs) r k
theorem openTo_step{cs:List Cl} {r:Int} {j:Nat} {x:Cl} (hx:cs[j]? = some x) (hn:natR x.amt=true) (m:Nat):(bL m (openTo cs r j)).set j (decide (x.rank=r) && !sameR x.amt zeroR)=bL m (openTo cs r (j+1)):=by
 rw[bL_set];refine bL_congr fun k _=>?_
 have hk:=getD_of (d:=noCl) hx;unfold openTo firstOpen rankK amtK;by_cases h:k=j
 ·subst h;rw[if_pos rfl,hk,amt_zero hn,show decide (k < k+1)=true from decide_eq_true (by omega),Bool.true_and]
  congr 1
  by_cases hz:qR x.amt=0 <;> simp[hz]
 ·rw[if_neg h]
  congr 1
  by_cases h2:k < j
  ·rw[decide_eq_true h2,decide_eq_true (by omega:k < j+1)]
  ·rw[decide_eq_false h2,decide_eq_false (by omega:¬k < j+1)]
theorem openTo_all(cs:List Cl) (r:Int) (m:Nat):bL m (openTo cs r m)=bL m (firstOpen (rankK cs) (amtK cs) r):=bL_congr fun k hk=>by
 unfold openTo;rw[decide_eq_true hk,Bool.true_and]
theorem openTo_none(cs:List Cl) (r:Int) (m:Nat):bL m (fun _=>false)=bL m (openTo cs r 0):=bL_congr fun k _=>by
 unfold openTo;rw[decide_eq_false (by omega),Bool.false_and]
set_option linter.unusedSimpArgs false in
theorem allotL3{Q:Exit->Act->World->Prop} (cs:List Cl) (cp:Option Addr) (cc bo ob N:Nat) (r:Int) (w0:World) (ds:List Deferred) (c0 c1 c2 c3 c4 c5 c6 c7 c8 c9 c10 c11 c12 c13 c18 c19 c20 c21 c22 c23 c24 c25 c26 c27 c28 c29 c30 c31 c32 c33 c34 c35 c36 c37 c38 c39 c40 c41 c42 c43 c44 c45 c46 c47 c48 c49 c50 c51 c52 c53 c54 c55 c56 c57 c58 c59 c60 c61 c62 c63 c64 c65 c66 c88 c89 c90 c91 c92 c93 c94 c95 c96 c97 c98 c99 c100 c101 c102 c103 c104 c105 c106 c107 c108 c109 c110 c111 c112 c113 c114 c115 c116 c117 c118 c119 c120 c121 c122 c123 c124 c125 c126 c127 c128 c129 c130 c131 c132 c133 c134 c135 c136 c137 c138 c139 c140 c141 c142 c143 c144 c145 c146 c147 c148 c149 c150 c151 c152 c153 c154 c155 c156 c157 c158 c159 c160 c161 c162 c163 c164 c165 c166 c167 c168 c169 c170 c171 c172 c173 c174 c175 c176 c177 c178 c179 c180 c181 c182 c183 c184 c185 c186 c187 c188 c189 c190 c191 c192 c193 c194 c195 c196 c16 c17 c70 c71 c72 c73 c74 c75 c76 c77 c78 c79 c80 c81 c82 c83 c84 c85 c86 c87:Value)
  (HA:At N w0 5 claimCells cs cp cc) (hsz:cs.length<=200) (hc:∀c∈cs,natR c.amt=true) (hbx:w0.heap[bo]? = some (.cells #[.slice (some ⟨ob,0,none⟩) cs.length cs.length] 104 (0,0))) (hob:OwnB w0 ob (List.replicate cs.length false)) (hN1:N<=bo) (hN2:N<=ob) (hne:bo≠ob)
  (hexit:∀(u16 u17 u69 u70 u71 u72 u73 u74 u75 u76 u77 u78 u79 u80 u81 u82 u83 u84 u85 u86 u87:Value) (w':World),OwnB w' ob (bL cs.length (firstOpen (rankK cs) (amtK cs) r))->Turned (fun i=>i=ob) w0 w'->Q (.exit 4) { tmps:=(c0::c1::c2::c3::c4::c5::c6::c7::c8::c9::c10::c11::c12::c13::(.int .i64 r)::.pointer (some ⟨bo,0,none⟩)::u16::u17::c18::c19::c20::c21::c22::c23::c24::c25::c26::c27::c28::c29::c30::c31::c32::c33::c34::c35::c36::c37::c38::c39::c40::c41::c42::c43::c44::c45::c46::c47::c48::c49::c50::c51::c52::c53::c54::c55::c56::c57::c58::c59::c60::c61::c62::c63::c64::c65::c66::.slice cp cs.length cc::(.int .i64 cs.length)::u69::u70::u71::u72::u73::u74::u75::u76::u77::u78::u79::u80::u81::u82::u83::u84::u85::u86::u87::c88::c89::c90::c91::c92::c93::c94::c95::c96::c97::c98::c99::c100::c101::c102::c103::c104::c105::c106::c107::c108::c109::c110::c111::c112::c113::c114::c115::c116::c117::c118::c119::c120::c121::c122::c123::c124::c125::c126::c127::c128::c129::c130::c131::c132::c133::c134::c135::c136::c137::c138::c139::c140::c141::c142::c143::c144::c145::c146::c147::c148::c149::c150::c151::c152::c153::c154::c155::c156::c157::c158::c159::c160::c161::c162::c163::c164::c165::c166::c167::c168::c169::c170::c171::c172::c173::c174::c175::c176::c177::c178::c179::c180::c181::c182::c183::c184::c185::c186::c187::c188::c189::c190::c191::c192::c193::c194::c195::c196::[]).toArray,defers:=ds } w') :
  Code.wp Tryz.prog (Code.loop (aBody 4)) Q { tmps:=(c0::c1::c2::c3::c4::c5::c6::c7::c8::c9::c10::c11::c12::c13::(.int .i64 r)::.pointer (some ⟨bo,0,none⟩)::c16::c17::c18::c19::c20::c21::c22::c23::c24::c25::c26::c27::c28::c29::c30::c31::c32::c33::c34::c35::c36::c37::c38::c39::c40::c41::c42::c43::c44::c45::c46::c47::c48::c49::c50::c51::c52::c53::c54::c55::c56::c57::c58::c59::c60::c61::c62::c63::c64::c65::c66::.slice cp cs.length cc::(.int .i64 cs.length)::(.int .i64 0)::c70::c71::c72::c73::c74::c75::c76::c77::c78::c79::c80::c81::c82::c83::c84::c85::c86::c87::c88::c89::c90::c91::c92::c93::c94::c95::c96::c97::c98::c99::c100::c101::c102::c103::c104::c105::c106::c107::c108::c109::c110::c111::c112::c113::c114::c115::c116::c117::c118::c119::c120::c121::c122::c123::c124::c125::c126::c127::c128::c129::c130::c131::c132::c133::c134::c135::c136::c137::c138::c139::c140::c141::c142::c143::c144::c145::c146::c147::c148::c149::c150::c151::c152::c153::c154::c155::c156::c157::c158::c159::c160::c161::c162::c163::c164::c165::c166::c167::c168::c169::c170::c171::c172::c173::c174::c175::c176::c177::c178::c179::c180::c181::c182::c183::c184::c185::c186::c187::c188::c189::c190::c191::c192::c193::c194::c195::c196::[]).toArray,defers:=ds } w0:=by
 have HHA:=zh HA;have HR:=zh hc;have HBX:=zh hbx;obtain⟨n,hn⟩ : ∃n,cs.length=n:=⟨_,rfl⟩;have HNN:=zh hn;rw[hn] at hexit hsz hob HBX ⊢;rw[bL_none,openTo_none cs r] at hob;have hl1:=getElem?_lt hbx;have hl2:=hob.lt;have HOB:=zh hob;clear HA hc hn hbx hob;refine wp_loop (fun a w'=>∃(j:Nat) (u16 u17 u70 u71 u72 u73 u74 u75 u76 u77 u78 u79 u80 u81 u82 u83 u84 u85 u86 u87:Value),(j<=n/\Hid (OwnB w' ob (bL n (openTo cs r j))/\Turned (fun i=>i=ob) w0 w'))/\a={ tmps:=(c0::c1::c2::c3::c4::c5::c6::c7::c8::c9::c10::c11::c12::c13::(.int .i64 r)::.pointer (some ⟨bo,0,none⟩)::u16::u17::c18::c19::c20::c21::c22::c23::c24::c25::c26::c27::c28::c29::c30::c31::c32::c33::c34::c35::c36::c37::c38::c39::c40::c41::c42::c43::c44::c45::c46::c47::c48::c49::c50::c51::c52::c53::c54::c55::c56::c57::c58::c59::c60::c61::c62::c63::c64::c65::c66::.slice cp n cc::(.int .i64 n)::(.int .i64 j)::u70::u71::u72::u73::u74::u75::u76::u77::u78::u79::u80::u81::u82::u83::u84::u85::u86::u87::c88::c89::c90::c91::c92::c93::c94::c95::c96::c97::c98::c99::c100::c101::c102::c103::c104::c105::c106::c107::c108::c109::c110::c111::c112::c113::c114::c115::c116::c117::c118::c119::c120::c121::c122::c123::c124::c125::c126::c127::c128::c129::c130::c131::c132::c133::c134::c135::c136::c137::c138::c139::c140::c141::c142::c143::c144::c145::c146::c147::c148::c149::c150::c151::c152::c153::c154::c155::c156::c157::c158::c159::c160::c161::c162::c163::c164::c165::c166::c167::c168::c169::c170::c171::c172::c173::c174::c175::c176::c177::c178::c179::c180::c181::c182::c183::c184::c185::c186::c187::c188::c189::c190::c191::c192::c193::c194::c195::c196::[]).toArray,defers:=ds }) (fun a _=>n-tmpN a 69) ?_ ?_
 ·exact⟨0,_,_,_,_,_,_,_,_,_,_,_,_,_,_,_,_,_,_,_,_,⟨Nat.zero_le _,zh ⟨HOB.out,Turned.refl _ _⟩⟩,rfl⟩
 ·clear HOB;rintro a wr ⟨j,u16,u17,u70,u71,u72,u73,u74,u75,u76,u77,u78,u79,u80,u81,u82,u83,u84,u85,u86,u87,⟨hj,HH⟩,rfl⟩;by_cases hlt:j < n
  ·have hx:cs[j]? = some (cs[j]'(by rw[HNN.out];exact hlt)):=List.getElem?_eq_getElem _
   obtain⟨⟨pl,rk,⟨un,ux,ud⟩⟩,hxe⟩ : ∃u,cs[j]'(by rw[HNN.out];exact hlt)=u:=⟨_,rfl⟩
   rw[hxe] at hx;have hnat:=HR.out _ (List.mem_of_getElem? hx);have hstep:=openTo_step (r:=r) hx hnat n;have hsame:Same N w0 wr:=HH.out.2.same (by omega) (fun k hk=>by omega)
   obtain⟨b,a,rfl,-,e0,e1,e2,e3,e4⟩:=(HHA.out.same hsame).claims hx;have bx:=(HH.out.2.block bo hl1 hne).trans HBX.out;obtain⟨s,hs⟩ : ∃s,sameR ⟨un,ux,ud⟩ zeroR=s:=⟨_,rfl⟩;have hs2:sameR ⟨un,ux,ud⟩ ⟨false,⟨#[]⟩,⟨#[]⟩⟩=s:=hs;have HSTEP:=zh hstep;rw[show(⟨pl,rk,⟨un,ux,ud⟩⟩ : Cl).rank=rk from rfl,show(⟨pl,rk,⟨un,ux,ud⟩⟩ : Cl).amt=⟨un,ux,ud⟩ from rfl,hs] at HSTEP;have TA:=(zr wr).alloc (.cells #[.int .i64 pl,.int .i64 rk,.bool un,.string ux,.string ud] 75);have z1:=World.alloc_heap_new wr (.cells #[.int .i64 pl,.int .i64 rk,.bool un,.string ux,.string ud] 75);have hwl:ob < wr.heap.size:=by have:=HH.out.2.size;omega
   have hj0:(0:Int)<=j:=by omega
   have hj1:(j:Int) < n:=by omega
   clear hx hxe hsame hnat hstep hs
   conv=>arg 2;whnf
   go_wp2_with fail;obtain⟨B,hB⟩ : ∃B,wr.heap.size=B:=⟨_,rfl⟩;obtain⟨w1,hw1⟩ : ∃w1,w1=wr.alloc (.cells #[.int .i64 pl,.int .i64 rk,.bool un,.string ux,.string ud] 75):=⟨_,rfl⟩;rw[<- hw1] at TA z1 ⊢;rw[hB] at z1 hwl ⊢;have hBo:¬B=ob:=by omega
   clear hw1;obtain⟨-,y1,y2,y3,y4⟩:=box5 z1;have T1:=TA.trans ((zr w1).drew);have hS0:(w1.drew).cell? ⟨bo,0,none⟩=some (.slice (some ⟨ob,0,none⟩) n n)/\(w1.drew).cell? ⟨B,1,none⟩=some (.int .i64 rk)/\(w1.drew).cell? ⟨B,2,none⟩=some (.bool un)/\(w1.drew).cell? ⟨B,3,none⟩=some (.string ux)/\(w1.drew).cell? ⟨B,4,none⟩=some (.string ud) :=
    ⟨cell_of_box (keepB T1 bx),y1,y2,y3,y4⟩
   have HBX2:=zh bx;have HT1:=zh T1;have HZ:Hid (∀W,Calls Tryz.prog 57 #[] W fun e w'=>e=.returned (.agg #[.bool false,.string ⟨#[]⟩,.string ⟨#[]⟩])/\Turned (fun _=>False) W w'):=zh hZero_any
   clear bx T1 TA z1 y1 y2 y3 y4 e0 e1 e2 e3 e4 hB;by_cases hrk:rk=r
   ·subst hrk;have HST:Hid ((bL n (openTo cs rk j)).set j (!s)=bL n (openTo cs rk (j+1))):=zh (by rw[<- HSTEP.out,decide_eq_true rfl,Bool.true_and])
    refine wp_region_plain (S:=fun V=>V.cell? ⟨bo,0,none⟩=some (.slice (some ⟨ob,0,none⟩) n n)/\V.cell? ⟨B,1,none⟩=some (.int .i64 rk)/\V.cell? ⟨B,2,none⟩=some (.bool un)/\V.cell? ⟨B,3,none⟩=some (.string ux)/\V.cell? ⟨B,4,none⟩=some (.string ud)) (by kernel_rfl) ?_
    refine zt 0 (.slice (some ⟨ob,0,none⟩) n n) rfl (Or.inl ⟨by kernel_rfl,fun V hV=>?_⟩) hS0 ?_
    ·obtain⟨f0,f1,f2,f3,f4⟩:=hV;go_simp
    refine zt 1 (.int .i64 j) rfl (Or.inl ⟨by kernel_rfl,fun V hV=>?_⟩) hS0 ?_
    ·obtain⟨f0,f1,f2,f3,f4⟩:=hV;go_simp
    refine zt 2 (.pointer (some ⟨B,1,none⟩)) rfl (Or.inl ⟨by kernel_rfl,fun V hV=>?_⟩) hS0 ?_
    ·obtain⟨f0,f1,f2,f3,f4⟩:=hV;go_simp
    refine zt 3 (.int .i64 rk) rfl (Or.inl ⟨by kernel_rfl,fun V hV=>?_⟩) hS0 ?_
    ·obtain⟨f0,f1,f2,f3,f4⟩:=hV;go_simp
    refine zt 4 (.int .i64 rk) rfl (Or.inl ⟨by kernel_rfl,fun V hV=>?_⟩) hS0 ?_
    ·obtain⟨f0,f1,f2,f3,f4⟩:=hV;go_simp
    refine zt 5 (.bool true) rfl (Or.inl ⟨by kernel_rfl,fun V hV=>?_⟩) hS0 ?_
    ·obtain⟨f0,f1,f2,f3,f4⟩:=hV;go_simp
    refine zt 6 (.bool true) rfl (Or.inl ⟨by kernel_rfl,fun V hV=>?_⟩) hS0 ?_
    ·obtain⟨f0,f1,f2,f3,f4⟩:=hV;go_simp
    simp only[zz0,zz1,zz2,Act.put,zz3,zz4,zz5];refine zt 7 (.pointer (some ⟨B,2,none⟩)) rfl (Or.inl ⟨by kernel_rfl,fun V hV=>?_⟩) hS0 ?_
    ·obtain⟨f0,f1,f2,f3,f4⟩:=hV;go_simp
    refine zt 8 (.agg #[.bool un,.string ux,.string ud]) rfl (Or.inl ⟨by kernel_rfl,fun V hV=>?_⟩) hS0 ?_
    ·obtain⟨f0,f1,f2,f3,f4⟩:=hV;go_simp
    simp only[zz0,zz1,zz2,Act.put,zz3,zz4,zz5];refine wpAnyH_ready (rs:=[9]) (by kernel_rfl) (by simp) ?_
    refine .cons (o:=_) rfl (fun K hK=>?_) .nil
    go_simp;refine(HZ.out _).mono ?_;rintro e w4 ⟨rfl,t4⟩;have hS1:w4.cell? ⟨bo,0,none⟩=some (.slice (some ⟨ob,0,none⟩) n n)/\w4.cell? ⟨B,1,none⟩=some (.int .i64 rk)/\w4.cell? ⟨B,2,none⟩=some (.bool un)/\w4.cell? ⟨B,3,none⟩=some (.string ux)/\w4.cell? ⟨B,4,none⟩=some (.string ud) :=
     ⟨cellT t4 id hS0.1,cellT t4 id hS0.2.1,cellT t4 id hS0.2.2.1,cellT t4 id hS0.2.2.2.1,cellT t4 id hS0.2.2.2.2⟩
    have HT4:=zh (HT1.out.trans t4);refine hK.out _ _ hS1 (fun _=>?_)
    clear hK hS0 t4;refine zt 10 (.bool (!s)) rfl (Or.inl ⟨by kernel_rfl,fun V hV=>?_⟩) hS1 ?_
    ·obtain⟨f0,f1,f2,f3,f4⟩:=hV;go_simp
    refine zt 11 (.bool (!s)) rfl (Or.inl ⟨by kernel_rfl,fun V hV=>?_⟩) hS1 ?_
    ·obtain⟨f0,f1,f2,f3,f4⟩:=hV;go_simp
    refine zt 12 (.pointer (some ⟨ob,j,none⟩)) rfl (Or.inl ⟨by kernel_rfl,fun V hV=>?_⟩) hS1 ?_
    ·obtain⟨f0,f1,f2,f3,f4⟩:=hV;go_simp
    simp only[zz0,zz1,zz2,Act.put,zz3,zz4,zz5];have O4:=HH.out.1.turned HT4.out id;have o1:=O4.cell (bL_get _ hlt);have o2:=O4.free j;refine wpAnyH_ready (rs:=[13]) (by kernel_rfl) (by simp) ?_
    refine .cons (o:=_) rfl (fun K hK=>?_) .nil
    go_simp;have hst:=O4.set j (!s);rw[HST.out] at hst;have hS2:(w4.setCell ⟨ob,j,none⟩ (.bool !s)).cell? ⟨bo,0,none⟩=some (.slice (some ⟨ob,0,none⟩) n n)/\(w4.setCell ⟨ob,j,none⟩ (.bool !s)).cell? ⟨B,1,none⟩=some (.int .i64 rk)/\(w4.setCell ⟨ob,j,none⟩ (.bool !s)).cell? ⟨B,2,none⟩=some (.bool un)/\(w4.setCell ⟨ob,j,none⟩ (.bool !s)).cell? ⟨B,3,none⟩=some (.string ux)/\(w4.setCell ⟨ob,j,none⟩ (.bool !s)).cell? ⟨B,4,none⟩=some (.string ud) :=
     ⟨cellT hst.2 hne hS1.1,cellT hst.2 hBo hS1.2.1,cellT hst.2 hBo hS1.2.2.1,cellT hst.2 hBo hS1.2.2.2.1,cellT hst.2 hBo hS1.2.2.2.2⟩
    refine hK.out _ _ hS2 (fun _=>?_)
    have HF:=zh (And.intro hst.1 (HH.out.2.trans ((HT4.out.mono fun _ h=>h.elim).trans hst.2)))
    clear hK hS2 hS1 hst o1 o2 O4 HH HST HSTEP HT1 HT4 HZ;refine wpAnyH_done (by kernel_rfl) ?_ _
    unfold OnlyN;go_wp2_with fail;refine⟨⟨j+1,_,_,_,_,_,_,_,_,_,_,_,_,_,_,_,_,_,_,_,_,⟨hlt,HF⟩,rfl⟩,?_⟩;simp[tmpN];omega
   ·have hrk2:(rk == r)=false:=by simpa using hrk
    have HST:Hid ((bL n (openTo cs r j)).set j false=bL n (openTo cs r (j+1))):=zh (by rw[<- HSTEP.out,decide_eq_false hrk,Bool.false_and])
    clear hs2;refine wp_region_plain (S:=fun V=>V.cell? ⟨bo,0,none⟩=some (.slice (some ⟨ob,0,none⟩) n n)/\V.cell? ⟨B,1,none⟩=some (.int .i64 rk)/\V.cell? ⟨B,2,none⟩=some (.bool un)/\V.cell? ⟨B,3,none⟩=some (.string ux)/\V.cell? ⟨B,4,none⟩=some (.string ud)) (by kernel_rfl) ?_
    refine zt 0 (.slice (some ⟨ob,0,none⟩) n n) rfl (Or.inl ⟨by kernel_rfl,fun V hV=>?_⟩) hS0 ?_
    ·obtain⟨f0,f1,f2,f3,f4⟩:=hV;go_simp
    refine zt 1 (.int .i64 j) rfl (Or.inl ⟨by kernel_rfl,fun V hV=>?_⟩) hS0 ?_
    ·obtain⟨f0,f1,f2,f3,f4⟩:=hV;go_simp
    refine zt 2 (.pointer (some ⟨B,1,none⟩)) rfl (Or.inl ⟨by kernel_rfl,fun V hV=>?_⟩) hS0 ?_
    ·obtain⟨f0,f1,f2,f3,f4⟩:=hV;go_simp
    refine zt 3 (.int .i64 rk) rfl (Or.inl ⟨by kernel_rfl,fun V hV=>?_⟩) hS0 ?_
    ·obtain⟨f0,f1,f2,f3,f4⟩:=hV;go_simp
    refine zt 4 (.int .i64 r) rfl (Or.inl ⟨by kernel_rfl,fun V hV=>?_⟩) hS0 ?_
    ·obtain⟨f0,f1,f2,f3,f4⟩:=hV;go_simp
    refine zt 5 (.bool false) rfl (Or.inl ⟨by kernel_rfl,fun V hV=>?_⟩) hS0 ?_
    ·obtain⟨f0,f1,f2,f3,f4⟩:=hV;go_simp
    refine zt 6 (.bool false) rfl (Or.inl ⟨by kernel_rfl,fun V hV=>?_⟩) hS0 ?_
    ·obtain⟨f0,f1,f2,f3,f4⟩:=hV;go_simp
    simp only[zz0,zz1,zz2,Act.put,zz3,zz4,zz5];refine zt 7 undef rfl (Or.inr ⟨by kernel_rfl,rfl⟩) hS0 ?_
    refine zt 8 undef rfl (Or.inr ⟨by kernel_rfl,rfl⟩) hS0 ?_
    refine zt 9 undef rfl (Or.inr ⟨by kernel_rfl,rfl⟩) hS0 ?_
    refine zt 10 undef rfl (Or.inr ⟨by kernel_rfl,rfl⟩) hS0 ?_
    simp only[zz0,zz1,zz2,Act.put,zz3,zz4,zz5];refine zt 11 (.bool false) rfl (Or.inl ⟨by kernel_rfl,fun V hV=>?_⟩) hS0 ?_
    ·obtain⟨f0,f1,f2,f3,f4⟩:=hV;go_simp
    refine zt 12 (.pointer (some ⟨ob,j,none⟩)) rfl (Or.inl ⟨by kernel_rfl,fun V hV=>?_⟩) hS0 ?_
    ·obtain⟨f0,f1,f2,f3,f4⟩:=hV;go_simp
    simp only[zz0,zz1,zz2,Act.put,zz3,zz4,zz5];have O4:=HH.out.1.turned HT1.out id;have o1:=O4.cell (bL_get _ hlt);have o2:=O4.free j;refine wpAnyH_ready (rs:=[13]) (by kernel_rfl) (by simp) ?_
    refine .cons (o:=_) rfl (fun K hK=>?_) .nil
    go_simp;have hst:=O4.set j false;rw[HST.out] at hst;have hS2:(w1.drew.setCell ⟨ob,j,none⟩ (.bool false)).cell? ⟨bo,0,none⟩=some (.slice (some ⟨ob,0,none⟩) n n)/\(w1.drew.setCell ⟨ob,j,none⟩ (.bool false)).cell? ⟨B,1,none⟩=some (.int .i64 rk)/\(w1.drew.setCell ⟨ob,j,none⟩ (.bool false)).cell? ⟨B,2,none⟩=some (.bool un)/\(w1.drew.setCell ⟨ob,j,none⟩ (.bool false)).cell? ⟨B,3,none⟩=some (.string ux)/\(w1.drew.setCell ⟨ob,j,none⟩ (.bool false)).cell? ⟨B,4,none⟩=some (.string ud) :=
     ⟨cellT hst.2 hne hS0.1,cellT hst.2 hBo hS0.2.1,cellT hst.2 hBo hS0.2.2.1,cellT hst.2 hBo hS0.2.2.2.1,cellT hst.2 hBo hS0.2.2.2.2⟩
    refine hK.out _ _ hS2 (fun _=>?_)
    have HF:=zh (And.intro hst.1 (HH.out.2.trans ((HT1.out.mono fun _ h=>h.elim).trans hst.2)))
    clear hK hS2 hS0 hst o1 o2 O4 HH HST HSTEP HT1 HZ;refine wpAnyH_done (by kernel_rfl) ?_ _
    unfold OnlyN;go_wp2_with fail;refine⟨⟨j+1,_,_,_,_,_,_,_,_,_,_,_,_,_,_,_,_,_,_,_,_,⟨hlt,HF⟩,rfl⟩,?_⟩;simp[tmpN];omega
  ·obtain rfl:j=n:=by omega
   conv=>arg 2;whnf
   go_wp2_with fail;refine hexit _ _ _ _ _ _ _ _ _ _ _ _ _ _ _ _ _ _ _ _ _ wr ?_ HH.out.2;have h1:=HH.out.1;rwa [openTo_all] at h1
def leftTo (x y:Nat->Rat) (p:Rat) (j:Nat):Nat->Rat:=fun g=>if g < j then x g-y g*p else x g
theorem leftTo_zero(n:Nat) (x y:Nat->Rat) (p:Rat):repL n (leftTo x y p 0)=repL n x:=by
 unfold repL;refine List.map_congr_left fun g _=>?_
 unfold leftTo;rw[if_neg (by omega)]
theorem leftTo_all(n:Nat) (x y:Nat->Rat) (p:Rat):repL n (leftTo x y p n)=repL n (fun g=>x g-y g*p):=by
 unfold repL;refine List.map_congr_left fun g hg=>?_
 unfold leftTo;rw[if_pos (List.mem_range.1 hg)]
theorem leftTo_step{n j:Nat} (x y:Nat->Rat) (p:Rat):(repL n (leftTo x y p j)).set j (repR (x j-y j*p))=repL n (leftTo x y p (j+1)):=by
 apply List.ext_getElem?;intro i;rw[List.getElem?_set,repL_at,repL_at,repL_len];unfold leftTo;by_cases h:j=i
 ·subst h;rw[if_pos rfl,if_pos (by omega:j < j+1)]
 ·rw[if_neg h];by_cases h2:i < j
  ·rw[if_pos h2,if_pos (by omega:i < j+1)]
  ·rw[if_neg h2,if_neg (by omega:¬i < j+1)]
theorem leftTo_here(x y:Nat->Rat) (p:Rat) (j:Nat):leftTo x y p j j=x j:=by
 unfold leftTo;rw[if_neg (by omega)]
set_option linter.unusedSimpArgs false in
theorem allotL6{Q:Exit->Act->World->Prop} (n bl la wa bg k:Nat) (x y:Nat->Rat) (p:Rat) (w0:World) (ds:List Deferred) (c0 c1 c2 c3 c4 c5 c6 c8 c9 c10 c11 c12 c13 c14 c15 c16 c17 c18 c19 c20 c22 c23 c24 c25 c28 c29 c30 c31 c32 c33 c34 c35 c36 c37 c38 c39 c40 c41 c42 c43 c44 c45 c46 c47 c48 c49 c50 c51 c52 c53 c54 c55 c56 c57 c58 c59 c60 c61 c62 c63 c64 c65 c66 c67 c68 c69 c70 c71 c72 c73 c74 c75 c76 c77 c78 c79 c80 c81 c82 c83 c84 c85 c86 c87 c88 c89 c90 c91 c92 c93 c94 c95 c96 c97 c98 c99 c100 c101 c102 c103 c104 c105 c106 c107 c108 c109 c110 c111 c112 c113 c114 c115 c116 c117 c118 c119 c120 c121 c122 c123 c124 c125 c126 c127 c147 c148 c149 c150 c151 c152 c153 c154 c155 c156 c157 c158 c159 c160 c161 c162 c163 c164 c165 c166 c167 c168 c169 c170 c171 c172 c173 c174 c175 c176 c177 c178 c179 c180 c181 c182 c183 c184 c185 c186 c187 c188 c189 c190 c191 c192 c193 c194 c195 c196 c26 c27 c131 c132 c133 c134 c135 c136 c137 c138 c139 c140 c141 c142 c143 c144 c145 c146:Value)
  (hn:n<=40) (hbl:w0.heap[bl]? = some (.cells #[.slice (some ⟨la,0,none⟩) n n] 23 (0,0))) (hla:OwnR w0 la (repL n x)) (hwa:OwnR w0 wa (repL n y)) (hbg:w0.heap[bg]? = some (.cells #[.bool (repR p).neg,.string (repR p).num,.string (repR p).den] 68 (0,0)))
  (h1:bl≠la) (h2:wa≠la) (h3:bg≠la) (hx:∀g,BytesQ (x g) k) (hy:∀g,BytesQ (y g) k) (hp:BytesQ p (2*k+1)) (hk:4*k+4<=100000000)
  (hexit:∀(u26 u27 u130 u131 u132 u133 u134 u135 u136 u137 u138 u139 u140 u141 u142 u143 u144 u145 u146:Value) (w':World),OwnR w' la (repL n fun g=>x g-y g*p)->Turned (fun i=>i=la) w0 w'->Q (.exit 10) { tmps:=(c0::c1::c2::c3::c4::c5::c6::.pointer (some ⟨bl,0,none⟩)::c8::c9::c10::c11::c12::c13::c14::c15::c16::c17::c18::c19::c20::.pointer (some ⟨bg,0,none⟩)::c22::c23::c24::c25::u26::u27::c28::c29::c30::c31::c32::c33::c34::c35::c36::c37::c38::c39::c40::c41::c42::c43::c44::c45::c46::c47::c48::c49::c50::c51::c52::c53::c54::c55::c56::c57::c58::c59::c60::c61::c62::c63::c64::c65::c66::c67::c68::c69::c70::c71::c72::c73::c74::c75::c76::c77::c78::c79::c80::c81::c82::c83::c84::c85::c86::c87::c88::c89::c90::c91::c92::c93::c94::c95::c96::c97::c98::c99::c100::c101::c102::c103::c104::c105::c106::c107::c108::c109::c110::c111::c112::c113::c114::c115::c116::c117::c118::c119::c120::c121::c122::c123::c124::c125::c126::c127::.slice (some ⟨wa,0,none⟩) n n::(.int .i64 n)::u130::u131::u132::u133::u134::u135::u136::u137::u138::u139::u140::u141::u142::u143::u144::u145::u146::c147::c148::c149::c150::c151::c152::c153::c154::c155::c156::c157::c158::c159::c160::c161::c162::c163::c164::c165::c166::c167::c168::c169::c170::c171::c172::c173::c174::c175::c176::c177::c178::c179::c180::c181::c182::c183::c184::c185::c186::c187::c188::c189::c190::c191::c192::c193::c194::c195::c196::[]).toArray,defers:=ds } w') :
  Code.wp Tryz.prog (Code.loop (aBody 10)) Q { tmps:=(c0::c1::c2::c3::c4::c5::c6::.pointer (some ⟨bl,0,none⟩)::c8::c9::c10::c11::c12::c13::c14::c15::c16::c17::c18::c19::c20::.pointer (some ⟨bg,0,none⟩)::c22::c23::c24::c25::c26::c27::c28::c29::c30::c31::c32::c33::c34::c35::c36::c37::c38::c39::c40::c41::c42::c43::c44::c45::c46::c47::c48::c49::c50::c51::c52::c53::c54::c55::c56::c57::c58::c59::c60::c61::c62::c63::c64::c65::c66::c67::c68::c69::c70::c71::c72::c73::c74::c75::c76::c77::c78::c79::c80::c81::c82::c83::c84::c85::c86::c87::c88::c89::c90::c91::c92::c93::c94::c95::c96::c97::c98::c99::c100::c101::c102::c103::c104::c105::c106::c107::c108::c109::c110::c111::c112::c113::c114::c115::c116::c117::c118::c119::c120::c121::c122::c123::c124::c125::c126::c127::.slice (some ⟨wa,0,none⟩) n n::(.int .i64 n)::(.int .i64 0)::c131::c132::c133::c134::c135::c136::c137::c138::c139::c140::c141::c142::c143::c144::c145::c146::c147::c148::c149::c150::c151::c152::c153::c154::c155::c156::c157::c158::c159::c160::c161::c162::c163::c164::c165::c166::c167::c168::c169::c170::c171::c172::c173::c174::c175::c176::c177::c178::c179::c180::c181::c182::c183::c184::c185::c186::c187::c188::c189::c190::c191::c192::c193::c194::c195::c196::[]).toArray,defers:=ds } w0:=by
 have HBL:=zh hbl;have HWA:=zh hwa;have HBG:=zh hbg;have HSX:=zh hx;have HSY:=zh hy;have HSP:=zh hp;have HK:=zh hk;rw[<- leftTo_zero n x y p] at hla;have HLA:=zh hla;have l1:=getElem?_lt hbl;have l2:=hwa.lt;have l3:=getElem?_lt hbg;have l4:=hla.lt;obtain⟨⟨gn,gx,gd⟩,hg⟩ : ∃v,repR p=v:=⟨_,rfl⟩;rw[hg] at HBG;have HG:=zh hg;clear hbl hwa hbg hx hy hp hk hla hg;refine wp_loop (fun a w'=>∃(j:Nat) (u26 u27 u131 u132 u133 u134 u135 u136 u137 u138 u139 u140 u141 u142 u143 u144 u145 u146:Value),(j<=n/\Hid (OwnR w' la (repL n (leftTo x y p j))/\Turned (fun i=>i=la) w0 w'))/\a={ tmps:=(c0::c1::c2::c3::c4::c5::c6::.pointer (some ⟨bl,0,none⟩)::c8::c9::c10::c11::c12::c13::c14::c15::c16::c17::c18::c19::c20::.pointer (some ⟨bg,0,none⟩)::c22::c23::c24::c25::u26::u27::c28::c29::c30::c31::c32::c33::c34::c35::c36::c37::c38::c39::c40::c41::c42::c43::c44::c45::c46::c47::c48::c49::c50::c51::c52::c53::c54::c55::c56::c57::c58::c59::c60::c61::c62::c63::c64::c65::c66::c67::c68::c69::c70::c71::c72::c73::c74::c75::c76::c77::c78::c79::c80::c81::c82::c83::c84::c85::c86::c87::c88::c89::c90::c91::c92::c93::c94::c95::c96::c97::c98::c99::c100::c101::c102::c103::c104::c105::c106::c107::c108::c109::c110::c111::c112::c113::c114::c115::c116::c117::c118::c119::c120::c121::c122::c123::c124::c125::c126::c127::.slice (some ⟨wa,0,none⟩) n n::(.int .i64 n)::(.int .i64 j)::u131::u132::u133::u134::u135::u136::u137::u138::u139::u140::u141::u142::u143::u144::u145::u146::c147::c148::c149::c150::c151::c152::c153::c154::c155::c156::c157::c158::c159::c160::c161::c162::c163::c164::c165::c166::c167::c168::c169::c170::c171::c172::c173::c174::c175::c176::c177::c178::c179::c180::c181::c182::c183::c184::c185::c186::c187::c188::c189::c190::c191::c192::c193::c194::c195::c196::[]).toArray,defers:=ds }) (fun a _=>n-tmpN a 130) ?_ ?_
 ·exact⟨0,_,_,_,_,_,_,_,_,_,_,_,_,_,_,_,_,_,_,⟨Nat.zero_le _,zh ⟨HLA.out,Turned.refl _ _⟩⟩,rfl⟩
 ·clear HLA;rintro a wr ⟨j,u26,u27,u131,u132,u133,u134,u135,u136,u137,u138,u139,u140,u141,u142,u143,u144,u145,u146,⟨hj,HH⟩,rfl⟩;by_cases hlt:j < n
  ·have hO:=HH.out.1;obtain⟨⟨un,ux,ud⟩,hu⟩ : ∃v,repR (y j)=v:=⟨_,rfl⟩;obtain⟨⟨vn,vx,vd⟩,hv⟩ : ∃v,repR (x j)=v:=⟨_,rfl⟩;obtain⟨⟨mn,mx,md⟩,hm⟩ : ∃v,repR (y j*p)=v:=⟨_,rfl⟩;obtain⟨⟨qn,qx,qd⟩,hq⟩ : ∃v,repR (x j-y j*p)=v:=⟨_,rfl⟩;have hwa:=HWA.out.turned HH.out.2 h2;have hwc:=hwa.cells (repL_get y hlt);rw[hu] at hwc;obtain⟨e0,e1,e2⟩:=hwc;have bxl:=(HH.out.2.block bl l1 h1).trans HBL.out;have bxg:=(HH.out.2.block bg l3 h3).trans HBG.out;have HMUL:=zh (fun W=>qMul_any ⟨un,ux,ud⟩ ⟨gn,gx,gd⟩ (4*k+4) W (by omega) HK.out (by rw[<- hu];exact((HSY.out j).mono (by omega)).szr) (by rw[<- HG.out];exact(HSP.out.mono (by omega)).szr))
   rw[show qR (⟨un,ux,ud⟩ : Rv)=y j by rw[<- hu,qR_repR],show qR (⟨gn,gx,gd⟩ : Rv)=p by rw[<- HG.out,qR_repR],hm] at HMUL
   have HSUB:=zh (fun W=>qSub_any ⟨vn,vx,vd⟩ ⟨mn,mx,md⟩ (4*k+4) W (by omega) HK.out (by rw[<- hv];exact((HSX.out j).mono (by omega)).szr) (by rw[<- hm];exact(((HSY.out j).mul HSP.out).mono (by omega)).szr))
   rw[show qR (⟨vn,vx,vd⟩ : Rv)=x j by rw[<- hv,qR_repR],show qR (⟨mn,mx,md⟩ : Rv)=y j*p by rw[<- hm,qR_repR],hq] at HSUB
   have HSET:=zh (fun(V:World) (hV:OwnR V la (repL n (leftTo x y p j)))=>hV.set (i:=j) (by rw[repL_len];exact hlt) (repR (x j-y j*p)))
   rw[leftTo_step,hq] at HSET;have HCELL:=zh (fun(V:World) (hV:OwnR V la (repL n (leftTo x y p j)))=>hV.cells (repL_get (leftTo x y p j) hlt))
   rw[leftTo_here,hv] at HCELL;have TA:=(zr wr).alloc (.cells #[.bool un,.string ux,.string ud] 68);have z1:=World.alloc_heap_new wr (.cells #[.bool un,.string ux,.string ud] 68);have hlw:=hO.lt;have HO:=zh hO;have hj0:(0:Int)<=j:=by omega
   have hj1:(j:Int) < n:=by omega
   clear hO hu hv hm hq hwa
   conv=>arg 2;whnf
   go_wp2_with fail;obtain⟨B,hB⟩ : ∃B,wr.heap.size=B:=⟨_,rfl⟩;obtain⟨w1,hw1⟩ : ∃w1,w1=wr.alloc (.cells #[.bool un,.string ux,.string ud] 68):=⟨_,rfl⟩;rw[<- hw1] at TA z1 ⊢;rw[hB] at z1 hlw ⊢;have hBo:¬B=la:=by omega
   clear hw1;obtain⟨y0,y1,y2,-,-,-⟩:=box3 z1;have T1:=TA.trans ((zr w1).drew);obtain⟨g0,g1,g2,-,-,-⟩:=box3 (keepB T1 bxg);have hS0:(w1.drew).cell? ⟨bl,0,none⟩=some (.slice (some ⟨la,0,none⟩) n n)/\(w1.drew).cell? ⟨B,0,none⟩=some (.bool un)/\(w1.drew).cell? ⟨B,1,none⟩=some (.string ux)/\(w1.drew).cell? ⟨B,2,none⟩=some (.string ud)/\(w1.drew).cell? ⟨bg,0,none⟩=some (.bool gn)/\(w1.drew).cell? ⟨bg,1,none⟩=some (.string gx)/\(w1.drew).cell? ⟨bg,2,none⟩=some (.string gd):=⟨cell_of_box (keepB T1 bxl),y0,y1,y2,g0,g1,g2⟩;have HT1:=zh T1;clear bxl bxg T1 TA z1 y0 y1 y2 g0 g1 g2 e0 e1 e2 hB;refine wp_region_plain (S:=fun V=>V.cell? ⟨bl,0,none⟩=some (.slice (some ⟨la,0,none⟩) n n)/\V.cell? ⟨B,0,none⟩=some (.bool un)/\V.cell? ⟨B,1,none⟩=some (.string ux)/\V.cell? ⟨B,2,none⟩=some (.string ud)/\V.cell? ⟨bg,0,none⟩=some (.bool gn)/\V.cell? ⟨bg,1,none⟩=some (.string gx)/\V.cell? ⟨bg,2,none⟩=some (.string gd)) (by kernel_rfl) ?_
   refine zt 0 (.slice (some ⟨la,0,none⟩) n n) rfl (Or.inl ⟨by kernel_rfl,fun V hV=>?_⟩) hS0 ?_
   ·obtain⟨f0,f1,f2,f3,f4,f5,f6⟩:=hV;go_simp
   refine zt 1 (.int .i64 j) rfl (Or.inl ⟨by kernel_rfl,fun V hV=>?_⟩) hS0 ?_
   ·obtain⟨f0,f1,f2,f3,f4,f5,f6⟩:=hV;go_simp
   refine zt 2 (.slice (some ⟨la,0,none⟩) n n) rfl (Or.inl ⟨by kernel_rfl,fun V hV=>?_⟩) hS0 ?_
   ·obtain⟨f0,f1,f2,f3,f4,f5,f6⟩:=hV;go_simp
   refine zt 3 (.int .i64 j) rfl (Or.inl ⟨by kernel_rfl,fun V hV=>?_⟩) hS0 ?_
   ·obtain⟨f0,f1,f2,f3,f4,f5,f6⟩:=hV;go_simp
   refine zt 4 (.pointer (some ⟨la,j*3,none⟩)) rfl (Or.inl ⟨by kernel_rfl,fun V hV=>?_⟩) hS0 ?_
   ·obtain⟨f0,f1,f2,f3,f4,f5,f6⟩:=hV;go_simp
   refine zt 6 (.agg #[.bool un,.string ux,.string ud]) rfl (Or.inl ⟨by kernel_rfl,fun V hV=>?_⟩) hS0 ?_
   ·obtain⟨f0,f1,f2,f3,f4,f5,f6⟩:=hV;go_simp
   refine zt 7 (.agg #[.bool gn,.string gx,.string gd]) rfl (Or.inl ⟨by kernel_rfl,fun V hV=>?_⟩) hS0 ?_
   ·obtain⟨f0,f1,f2,f3,f4,f5,f6⟩:=hV;go_simp
   simp only[zz0,zz1,zz2,Act.put,zz3,zz4,zz5];refine wpAnyH_ready (rs:=[5,8]) (by kernel_rfl) (by simp) ?_
   refine .cons (o:=_) rfl (fun K hK=>?_) (.cons (o:=_) rfl (fun K hK=>?_) .nil)
   ·skip
    obtain⟨k0,k1,k2⟩:=HCELL.out _ (HO.out.turned HT1.out id);go_simp;refine hK.out _ _ hS0 (fun _=>?_)
    clear hK k0 k1 k2;refine wpAnyH_ready (rs:=[8]) (by kernel_rfl) (by simp) ?_
    refine .cons (o:=_) rfl (fun K hK=>?_) .nil
    go_simp;refine(HMUL.out _).mono ?_;rintro e w4 ⟨rfl,t4⟩;have hS1:w4.cell? ⟨bl,0,none⟩=some (.slice (some ⟨la,0,none⟩) n n)/\w4.cell? ⟨B,0,none⟩=some (.bool un)/\w4.cell? ⟨B,1,none⟩=some (.string ux)/\w4.cell? ⟨B,2,none⟩=some (.string ud)/\w4.cell? ⟨bg,0,none⟩=some (.bool gn)/\w4.cell? ⟨bg,1,none⟩=some (.string gx)/\w4.cell? ⟨bg,2,none⟩=some (.string gd):=⟨cellT t4 id hS0.1,cellT t4 id hS0.2.1,cellT t4 id hS0.2.2.1,cellT t4 id hS0.2.2.2.1,cellT t4 id hS0.2.2.2.2.1,cellT t4 id hS0.2.2.2.2.2.1,cellT t4 id hS0.2.2.2.2.2.2⟩;have Hw4:=zh (HT1.out.trans t4);refine hK.out _ _ hS1 (fun _=>?_)
    clear hK t4 hS0;refine wpAnyH_ready (rs:=[9]) (by kernel_rfl) (by simp) ?_
    refine .cons (o:=_) rfl (fun K hK=>?_) .nil
    go_simp;refine(HSUB.out _).mono ?_;rintro e w5 ⟨rfl,t4⟩;have hS2:w5.cell? ⟨bl,0,none⟩=some (.slice (some ⟨la,0,none⟩) n n)/\w5.cell? ⟨B,0,none⟩=some (.bool un)/\w5.cell? ⟨B,1,none⟩=some (.string ux)/\w5.cell? ⟨B,2,none⟩=some (.string ud)/\w5.cell? ⟨bg,0,none⟩=some (.bool gn)/\w5.cell? ⟨bg,1,none⟩=some (.string gx)/\w5.cell? ⟨bg,2,none⟩=some (.string gd):=⟨cellT t4 id hS1.1,cellT t4 id hS1.2.1,cellT t4 id hS1.2.2.1,cellT t4 id hS1.2.2.2.1,cellT t4 id hS1.2.2.2.2.1,cellT t4 id hS1.2.2.2.2.2.1,cellT t4 id hS1.2.2.2.2.2.2⟩;have Hw5:=zh (Hw4.out.trans t4);refine hK.out _ _ hS2 (fun _=>?_)
    clear hK t4 hS1;have O4:=HO.out.turned Hw5.out id;obtain⟨o4,o5,o6⟩:=HCELL.out _ O4;have o1:=O4.free (j*3);have o2:=O4.free (j*3+1);have o3:=O4.free (j*3+2);refine zt 10 (.pointer (some ⟨la,j*3,none⟩)) rfl (Or.inl ⟨by kernel_rfl,fun V hV=>?_⟩) hS2 ?_
    ·obtain⟨f0,f1,f2,f3,f4,f5,f6⟩:=hV;go_simp
    simp only[zz0,zz1,zz2,Act.put,zz3,zz4,zz5];refine wpAnyH_ready (rs:=[11]) (by kernel_rfl) (by simp) ?_
    refine .cons (o:=_) rfl (fun K hK=>?_) .nil
    go_simp;have hst:=HSET.out _ O4;obtain⟨w9,hw9⟩ : ∃w9,((w5.setCell ⟨la,j*3,none⟩ (.bool qn)).setCell ⟨la,j*3+1,none⟩ (.string qx)).setCell ⟨la,j*3+2,none⟩ (.string qd)=w9:=⟨_,rfl⟩;rw[hw9] at hst ⊢;have hS9:w9.cell? ⟨bl,0,none⟩=some (.slice (some ⟨la,0,none⟩) n n)/\w9.cell? ⟨B,0,none⟩=some (.bool un)/\w9.cell? ⟨B,1,none⟩=some (.string ux)/\w9.cell? ⟨B,2,none⟩=some (.string ud)/\w9.cell? ⟨bg,0,none⟩=some (.bool gn)/\w9.cell? ⟨bg,1,none⟩=some (.string gx)/\w9.cell? ⟨bg,2,none⟩=some (.string gd):=⟨cellT hst.2 h1 hS2.1,cellT hst.2 hBo hS2.2.1,cellT hst.2 hBo hS2.2.2.1,cellT hst.2 hBo hS2.2.2.2.1,cellT hst.2 h3 hS2.2.2.2.2.1,cellT hst.2 h3 hS2.2.2.2.2.2.1,cellT hst.2 h3 hS2.2.2.2.2.2.2⟩;refine hK.out _ _ hS9 (fun _=>?_)
    have HF:=zh (And.intro hst.1 (HH.out.2.trans ((Hw5.out.mono fun _ h=>h.elim).trans hst.2)))
    clear hK hS9 hst o1 o2 o3 o4 o5 o6 O4 HH HSET HCELL HSUB HMUL hw9 hS2;refine wpAnyH_done (by kernel_rfl) ?_ _
    unfold OnlyN;go_wp2_with fail;refine⟨⟨j+1,_,_,_,_,_,_,_,_,_,_,_,_,_,_,_,_,_,_,⟨hlt,HF⟩,rfl⟩,?_⟩;simp[tmpN];omega
   ·skip
    go_simp;refine(HMUL.out _).mono ?_;rintro e w4 ⟨rfl,t4⟩;have hS1:w4.cell? ⟨bl,0,none⟩=some (.slice (some ⟨la,0,none⟩) n n)/\w4.cell? ⟨B,0,none⟩=some (.bool un)/\w4.cell? ⟨B,1,none⟩=some (.string ux)/\w4.cell? ⟨B,2,none⟩=some (.string ud)/\w4.cell? ⟨bg,0,none⟩=some (.bool gn)/\w4.cell? ⟨bg,1,none⟩=some (.string gx)/\w4.cell? ⟨bg,2,none⟩=some (.string gd):=⟨cellT t4 id hS0.1,cellT t4 id hS0.2.1,cellT t4 id hS0.2.2.1,cellT t4 id hS0.2.2.2.1,cellT t4 id hS0.2.2.2.2.1,cellT t4 id hS0.2.2.2.2.2.1,cellT t4 id hS0.2.2.2.2.2.2⟩;have Hw4:=zh (HT1.out.trans t4);refine hK.out _ _ hS1 (fun _=>?_)
    clear hK t4 hS0;refine wpAnyH_ready (rs:=[5]) (by kernel_rfl) (by simp) ?_
    refine .cons (o:=_) rfl (fun K hK=>?_) .nil
    obtain⟨k0,k1,k2⟩:=HCELL.out _ (HO.out.turned Hw4.out id);go_simp;refine hK.out _ _ hS1 (fun _=>?_)
    clear hK k0 k1 k2;refine wpAnyH_ready (rs:=[9]) (by kernel_rfl) (by simp) ?_
    refine .cons (o:=_) rfl (fun K hK=>?_) .nil
    go_simp;refine(HSUB.out _).mono ?_;rintro e w5 ⟨rfl,t4⟩;have hS2:w5.cell? ⟨bl,0,none⟩=some (.slice (some ⟨la,0,none⟩) n n)/\w5.cell? ⟨B,0,none⟩=some (.bool un)/\w5.cell? ⟨B,1,none⟩=some (.string ux)/\w5.cell? ⟨B,2,none⟩=some (.string ud)/\w5.cell? ⟨bg,0,none⟩=some (.bool gn)/\w5.cell? ⟨bg,1,none⟩=some (.string gx)/\w5.cell? ⟨bg,2,none⟩=some (.string gd):=⟨cellT t4 id hS1.1,cellT t4 id hS1.2.1,cellT t4 id hS1.2.2.1,cellT t4 id hS1.2.2.2.1,cellT t4 id hS1.2.2.2.2.1,cellT t4 id hS1.2.2.2.2.2.1,cellT t4 id hS1.2.2.2.2.2.2⟩;have Hw5:=zh (Hw4.out.trans t4);refine hK.out _ _ hS2 (fun _=>?_)
    clear hK t4 hS1;have O4:=HO.out.turned Hw5.out id;obtain⟨o4,o5,o6⟩:=HCELL.out _ O4;have o1:=O4.free (j*3);have o2:=O4.free (j*3+1);have o3:=O4.free (j*3+2);refine zt 10 (.pointer (some ⟨la,j*3,none⟩)) rfl (Or.inl ⟨by kernel_rfl,fun V hV=>?_⟩) hS2 ?_
    ·obtain⟨f0,f1,f2,f3,f4,f5,f6⟩:=hV;go_simp
    simp only[zz0,zz1,zz2,Act.put,zz3,zz4,zz5];refine wpAnyH_ready (rs:=[11]) (by kernel_rfl) (by simp) ?_
    refine .cons (o:=_) rfl (fun K hK=>?_) .nil
    go_simp;have hst:=HSET.out _ O4;obtain⟨w9,hw9⟩ : ∃w9,((w5.setCell ⟨la,j*3,none⟩ (.bool qn)).setCell ⟨la,j*3+1,none⟩ (.string qx)).setCell ⟨la,j*3+2,none⟩ (.string qd)=w9:=⟨_,rfl⟩;rw[hw9] at hst ⊢;have hS9:w9.cell? ⟨bl,0,none⟩=some (.slice (some ⟨la,0,none⟩) n n)/\w9.cell? ⟨B,0,none⟩=some (.bool un)/\w9.cell? ⟨B,1,none⟩=some (.string ux)/\w9.cell? ⟨B,2,none⟩=some (.string ud)/\w9.cell? ⟨bg,0,none⟩=some (.bool gn)/\w9.cell? ⟨bg,1,none⟩=some (.string gx)/\w9.cell? ⟨bg,2,none⟩=some (.string gd):=⟨cellT hst.2 h1 hS2.1,cellT hst.2 hBo hS2.2.1,cellT hst.2 hBo hS2.2.2.1,cellT hst.2 hBo hS2.2.2.2.1,cellT hst.2 h3 hS2.2.2.2.2.1,cellT hst.2 h3 hS2.2.2.2.2.2.1,cellT hst.2 h3 hS2.2.2.2.2.2.2⟩;refine hK.out _ _ hS9 (fun _=>?_)
    have HF:=zh (And.intro hst.1 (HH.out.2.trans ((Hw5.out.mono fun _ h=>h.elim).trans hst.2)))
    clear hK hS9 hst o1 o2 o3 o4 o5 o6 O4 HH HSET HCELL HSUB HMUL hw9 hS2;refine wpAnyH_done (by kernel_rfl) ?_ _
    unfold OnlyN;go_wp2_with fail;refine⟨⟨j+1,_,_,_,_,_,_,_,_,_,_,_,_,_,_,_,_,_,_,⟨hlt,HF⟩,rfl⟩,?_⟩;simp[tmpN];omega
  ·obtain rfl:j=n:=by omega
   conv=>arg 2;whnf
   go_wp2_with fail;refine hexit _ _ _ _ _ _ _ _ _ _ _ _ _ _ _ _ _ _ _ wr ?_ HH.out.2;have h1:=HH.out.1;rwa [leftTo_all] at h1
end Go.Proofs.YtanhhdndgkhcfaaGreatDoor
