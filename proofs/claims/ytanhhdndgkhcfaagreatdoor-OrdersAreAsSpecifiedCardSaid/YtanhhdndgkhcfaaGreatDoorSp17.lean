/- Part 17 of the proof of lawSpec.card: OrdAllotE. Conditions: those of each theorem. -/
import Derived.Test.YtanhhdndgkhcfaaGreatDoorSp01
import Derived.Test.YtanhhdndgkhcfaaGreatDoorSp09
import Derived.Test.YtanhhdndgkhcfaaGreatDoorSp16
set_option maxRecDepth 1000000
set_option maxHeartbeats 1000000
namespace Go.Proofs.YtanhhdndgkhcfaaGreatDoor
open Go.RowKit
attribute [local go_sem ↓] run_eql_rat' run_neq_rat'
theorem same_rep(a b:Rat):sameR (repR a) (repR b)=decide (a=b):=by
 unfold sameR
 congr 1
 refine propext ⟨fun e=>?_,fun e=>by rw[e]⟩
 rw[<- qR_repR a,e,qR_repR]
set_option linter.unusedSimpArgs false in
theorem allotL7{Q:Exit->Act->World->Prop} (rs:List Rc) (rp gp cp:Option Addr) (rc gc cc ng sb bl la tk bo ob bp n m k base N:Nat) (cs:List Cl) (x t:Nat->Rat) (op:Nat->Bool) (p:Rat) (w0:World) (ds:List Deferred) (c0 c1 c3 c4 c5 c6 c8 c10 c11 c12 c13 c14 c16 c17 c18 c20 c21 c22 c23 c24 c25 c26 c27 c31 c32 c33 c34 c35 c36 c37 c38 c39 c40 c41 c42 c43 c44 c45 c46 c47 c48 c49 c50 c51 c52 c53 c54 c55 c56 c57 c58 c59 c60 c61 c62 c63 c64 c65 c66 c67 c68 c69 c70 c71 c72 c73 c74 c75 c76 c77 c78 c79 c80 c81 c82 c83 c84 c85 c86 c87 c88 c89 c90 c91 c92 c93 c94 c95 c96 c97 c98 c99 c100 c101 c102 c103 c104 c105 c106 c107 c108 c109 c110 c111 c112 c113 c114 c115 c116 c117 c118 c119 c120 c121 c122 c123 c124 c125 c126 c127 c128 c129 c130 c131 c132 c133 c134 c135 c136 c137 c138 c139 c140 c141 c142 c143 c144 c145 c146 c194 c195 c196 c28 c29 c30 c150 c151 c152 c153 c154 c155 c156 c157 c158 c159 c160 c161 c162 c163 c164 c165 c166 c167 c168 c169 c170 c171 c172 c173 c174 c175 c176 c177 c178 c179 c180 c181 c182 c183 c184 c185 c186 c187 c188 c189 c190 c191 c192 c193:Value)
  (hR:RivAt N w0 rs rp rc) (HA:At N w0 5 claimCells cs cp cc) (hm:cs.length=m) (hm2:m<=200) (hok:RivOK (rs.map (·.down))) (hn:rs.length=n) (hcl:∀c∈cs,0<=c.place/\c.place < n) (hN:N<=sb/\N<=bl/\N<=la/\N<=tk/\N<=bo/\N<=ob/\N<=bp) (hb:base<=w0.heap.size)
  (hsb:w0.heap[sb]? = some (.cells #[.slice rp n rc,.slice gp ng gc] 65 (0,0))) (hbl:w0.heap[bl]? = some (.cells #[.slice (some ⟨la,0,none⟩) n n] 23 (0,0))) (hla:OwnR w0 la (repL n x)) (htk:OwnR w0 tk (repL m t)) (hbo:w0.heap[bo]? = some (.cells #[.slice (some ⟨ob,0,none⟩) m m] 104 (0,0))) (hob:OwnB w0 ob (bL m op))
  (hbp:w0.heap[bp]? = some (.cells #[.bool (repR p).neg,.string (repR p).num,.string (repR p).den] 68 (0,0))) (hne:tk≠ob/\sb≠tk/\sb≠ob/\bl≠tk/\bl≠ob/\la≠tk/\la≠ob/\bo≠tk/\bo≠ob/\bp≠tk/\bp≠ob) (hMK:Marks base w0 ds)
  (hamt:∀c∈cs,natR c.amt=true/\SzR c.amt k) (hp:BytesQ p k) (hk:1<=k/\k<=100000000)
  (hexit:∀(ds':List Deferred) (u28 u29 u30 u149 u150 u151 u152 u153 u154 u155 u156 u157 u158 u159 u160 u161 u162 u163 u164 u165 u166 u167 u168 u169 u170 u171 u172 u173 u174 u175 u176 u177 u178 u179 u180 u181 u182 u183 u184 u185 u186 u187 u188 u189 u190 u191 u192 u193:Value) (w':World),OwnR w' tk (repL m (growQ (amtK cs) t op p))->OwnB w' ob (bL m fun i=>(op i && decide (p≠1)) && wet x (way (rs.map (·.down)) (placeK cs i)))->Marks base w' ds'->Turned (fun i=>i=tk\/i=ob) w0 w'->Q (.exit 12) { tmps:=(c0::c1::.pointer (some ⟨sb,0,none⟩)::c3::c4::c5::c6::.pointer (some ⟨bl,0,none⟩)::c8::.slice (some ⟨tk,0,none⟩) m m::c10::c11::c12::c13::c14::.pointer (some ⟨bo,0,none⟩)::c16::c17::c18::.pointer (some ⟨bp,0,none⟩)::c20::c21::c22::c23::c24::c25::c26::c27::u28::u29::u30::c31::c32::c33::c34::c35::c36::c37::c38::c39::c40::c41::c42::c43::c44::c45::c46::c47::c48::c49::c50::c51::c52::c53::c54::c55::c56::c57::c58::c59::c60::c61::c62::c63::c64::c65::c66::c67::c68::c69::c70::c71::c72::c73::c74::c75::c76::c77::c78::c79::c80::c81::c82::c83::c84::c85::c86::c87::c88::c89::c90::c91::c92::c93::c94::c95::c96::c97::c98::c99::c100::c101::c102::c103::c104::c105::c106::c107::c108::c109::c110::c111::c112::c113::c114::c115::c116::c117::c118::c119::c120::c121::c122::c123::c124::c125::c126::c127::c128::c129::c130::c131::c132::c133::c134::c135::c136::c137::c138::c139::c140::c141::c142::c143::c144::c145::c146::.slice cp m cc::(.int .i64 m)::u149::u150::u151::u152::u153::u154::u155::u156::u157::u158::u159::u160::u161::u162::u163::u164::u165::u166::u167::u168::u169::u170::u171::u172::u173::u174::u175::u176::u177::u178::u179::u180::u181::u182::u183::u184::u185::u186::u187::u188::u189::u190::u191::u192::u193::c194::c195::c196::[]).toArray,defers:=ds' } w') :
  Code.wpIn Fence.wide 0 Tryz.prog (Code.loop (aBody 12)) Q { tmps:=(c0::c1::.pointer (some ⟨sb,0,none⟩)::c3::c4::c5::c6::.pointer (some ⟨bl,0,none⟩)::c8::.slice (some ⟨tk,0,none⟩) m m::c10::c11::c12::c13::c14::.pointer (some ⟨bo,0,none⟩)::c16::c17::c18::.pointer (some ⟨bp,0,none⟩)::c20::c21::c22::c23::c24::c25::c26::c27::c28::c29::c30::c31::c32::c33::c34::c35::c36::c37::c38::c39::c40::c41::c42::c43::c44::c45::c46::c47::c48::c49::c50::c51::c52::c53::c54::c55::c56::c57::c58::c59::c60::c61::c62::c63::c64::c65::c66::c67::c68::c69::c70::c71::c72::c73::c74::c75::c76::c77::c78::c79::c80::c81::c82::c83::c84::c85::c86::c87::c88::c89::c90::c91::c92::c93::c94::c95::c96::c97::c98::c99::c100::c101::c102::c103::c104::c105::c106::c107::c108::c109::c110::c111::c112::c113::c114::c115::c116::c117::c118::c119::c120::c121::c122::c123::c124::c125::c126::c127::c128::c129::c130::c131::c132::c133::c134::c135::c136::c137::c138::c139::c140::c141::c142::c143::c144::c145::c146::.slice cp m cc::(.int .i64 m)::(.int .i64 0)::c150::c151::c152::c153::c154::c155::c156::c157::c158::c159::c160::c161::c162::c163::c164::c165::c166::c167::c168::c169::c170::c171::c172::c173::c174::c175::c176::c177::c178::c179::c180::c181::c182::c183::c184::c185::c186::c187::c188::c189::c190::c191::c192::c193::c194::c195::c196::[]).toArray,defers:=ds } w0:=by
 obtain⟨nw,hnw⟩ : ∃nw:Nat->Bool,nw=fun i=>(op i && decide (p≠1)) && wet x (way (rs.map (·.down)) (placeK cs i)):=⟨_,rfl⟩
 rw[<- hnw] at hexit;have HNW:=zh hnw;have HHA:=zh HA;have HHR:=zh hR;have HOK:=zh hok;have HCL:=zh hcl;have HMM:=zh hm;have HNN:=zh hn;have HNE:=zh (And.intro hne hN);have HBX:=zh (And.intro hsb (And.intro hbl (And.intro hbo hbp)));have HLA:=zh hla;have HAM:=zh (And.intro hamt (And.intro hp hk));have l1:=getElem?_lt hsb;have l2:=getElem?_lt hbl;have l3:=getElem?_lt hbo;have l4:=getElem?_lt hbp;have l5:=hla.lt;have l6:=htk.lt;have l7:=hob.lt;rw[<- takeTo_zero m t (amtK cs) op p] at htk;rw[<- shutTo_zero m op nw] at hob;have HST:=zh (And.intro htk (And.intro hob hMK));have HB:=zh hb;clear HA hR hok hcl hm hn hne hN hsb hbl hbo hbp hla hamt hp hk htk hob hMK hnw hb;refine wpIn_loop (fun a w'=>∃(j:Nat) (ds':List Deferred) (u28 u29 u30 u150 u151 u152 u153 u154 u155 u156 u157 u158 u159 u160 u161 u162 u163 u164 u165 u166 u167 u168 u169 u170 u171 u172 u173 u174 u175 u176 u177 u178 u179 u180 u181 u182 u183 u184 u185 u186 u187 u188 u189 u190 u191 u192 u193:Value),(j<=m/\Hid ((OwnR w' tk (repL m (takeTo t (amtK cs) op p j))/\OwnB w' ob (bL m (shutTo op nw j))/\Marks base w' ds')/\Turned (fun i=>i=tk\/i=ob) w0 w'))/\a={ tmps:=(c0::c1::.pointer (some ⟨sb,0,none⟩)::c3::c4::c5::c6::.pointer (some ⟨bl,0,none⟩)::c8::.slice (some ⟨tk,0,none⟩) m m::c10::c11::c12::c13::c14::.pointer (some ⟨bo,0,none⟩)::c16::c17::c18::.pointer (some ⟨bp,0,none⟩)::c20::c21::c22::c23::c24::c25::c26::c27::u28::u29::u30::c31::c32::c33::c34::c35::c36::c37::c38::c39::c40::c41::c42::c43::c44::c45::c46::c47::c48::c49::c50::c51::c52::c53::c54::c55::c56::c57::c58::c59::c60::c61::c62::c63::c64::c65::c66::c67::c68::c69::c70::c71::c72::c73::c74::c75::c76::c77::c78::c79::c80::c81::c82::c83::c84::c85::c86::c87::c88::c89::c90::c91::c92::c93::c94::c95::c96::c97::c98::c99::c100::c101::c102::c103::c104::c105::c106::c107::c108::c109::c110::c111::c112::c113::c114::c115::c116::c117::c118::c119::c120::c121::c122::c123::c124::c125::c126::c127::c128::c129::c130::c131::c132::c133::c134::c135::c136::c137::c138::c139::c140::c141::c142::c143::c144::c145::c146::.slice cp m cc::(.int .i64 m)::(.int .i64 j)::u150::u151::u152::u153::u154::u155::u156::u157::u158::u159::u160::u161::u162::u163::u164::u165::u166::u167::u168::u169::u170::u171::u172::u173::u174::u175::u176::u177::u178::u179::u180::u181::u182::u183::u184::u185::u186::u187::u188::u189::u190::u191::u192::u193::c194::c195::c196::[]).toArray,defers:=ds' }) (fun a _=>m-tmpN a 149) ?_ ?_
 ·exact⟨0,ds,_,_,_,_,_,_,_,_,_,_,_,_,_,_,_,_,_,_,_,_,_,_,_,_,_,_,_,_,_,_,_,_,_,_,_,_,_,_,_,_,_,_,_,_,_,_,_,⟨Nat.zero_le _,zh ⟨HST.out,Turned.refl _ _⟩⟩,rfl⟩
 ·clear HST;rintro a wr ⟨j,ds',u28,u29,u30,u150,u151,u152,u153,u154,u155,u156,u157,u158,u159,u160,u161,u162,u163,u164,u165,u166,u167,u168,u169,u170,u171,u172,u173,u174,u175,u176,u177,u178,u179,u180,u181,u182,u183,u184,u185,u186,u187,u188,u189,u190,u191,u192,u193,⟨hj,HH⟩,rfl⟩;by_cases hlt:j < m
  ·have hx:cs[j]? = some (cs[j]'(by rw[HMM.out];exact hlt)):=List.getElem?_eq_getElem _
   obtain⟨⟨pl,rk,⟨un,ux,ud⟩⟩,hxe⟩ : ∃u,cs[j]'(by rw[HMM.out];exact hlt)=u:=⟨_,rfl⟩
   rw[hxe] at hx;have HX:=zh hx;have hsame:Same N w0 wr:=HH.out.2.same (by have:=HNE.out;omega) (fun k hk=>by have:=HNE.out;omega)
   obtain⟨b,a,rfl,-,e0,e1,e2,e3,e4⟩:=(HHA.out.same hsame).claims hx;have bxo:=(HH.out.2.block bo l3 (by have:=HNE.out;omega)).trans HBX.out.2.2.1
   have T1:=(zr wr).alloc (.cells #[.int .i64 j] 3);have T2:=T1.alloc (.cells #[.int .i64 pl,.int .i64 rk,.bool un,.string ux,.string ud] 75);have f0:=cell_of_box (keepB T2 bxo);obtain⟨oj,ho⟩ : ∃o,op j=o:=⟨_,rfl⟩;have o1:=(HH.out.1.2.1.turned T2 id).cell (bL_get (shutTo op nw j) hlt);rw[shutTo_here,ho] at o1;have hj0:(0:Int)<=j:=by omega
   have hj1:(j:Int) < m:=by omega
   have HO:=zh ho;have HTT:=zh T2;clear hx hxe hsame ho bxo T1 T2
   conv=>arg 4;whnf
   cases oj
   ·gi_wp2_with fail
    refine⟨⟨j+1,⟨hlt,zh ⟨⟨?_,?_,HH.out.1.2.2.turned HTT.out fun _ _ h=>h.elim⟩,HH.out.2.trans (HTT.out.mono fun _ h=>h.elim)⟩⟩,rfl⟩,?_⟩
    ·rw[<- takeTo_shut HO.out];exact HH.out.1.1.turned HTT.out id
    ·rw[<- shutTo_same (by rw[HNW.out];simp[HO.out])];exact HH.out.1.2.1.turned HTT.out id
    ·simp[tmpN];omega
   ·gi_wp2_with fail
    obtain⟨⟨gn,gx,gd⟩,hg⟩ : ∃v,repR p=v:=⟨_,rfl⟩;obtain⟨⟨qn,qx,qd⟩,hq⟩ : ∃v,repR (amtK cs j*p)=v:=⟨_,rfl⟩;have hca:=HAM.out.1 _ (List.mem_of_getElem? HX.out);have hqu:qR (⟨un,ux,ud⟩ : Rv)=amtK cs j:=by
     unfold amtK;rw[getD_of HX.out]
    have HMUL:=zh (fun W=>qMul_any ⟨un,ux,ud⟩ ⟨gn,gx,gd⟩ k W HAM.out.2.2.1 HAM.out.2.2.2 hca.2 (by rw[<- hg];exact HAM.out.2.1.szr))
    rw[hqu,show qR (⟨gn,gx,gd⟩ : Rv)=p by rw[<- hg,qR_repR],hq] at HMUL
    have HSET:=zh (fun(V:World) (hV:OwnR V tk (repL m (takeTo t (amtK cs) op p j)))=>hV.set (i:=j) (by rw[repL_len];exact hlt) (repR (amtK cs j*p)))
    rw[takeTo_open HO.out,hq] at HSET;have HCELL:=zh (fun(V:World) (hV:OwnR V tk (repL m (takeTo t (amtK cs) op p j)))=>hV.cells (repL_get (takeTo t (amtK cs) op p j) hlt))
    have bxp:=(HH.out.2.block bp l4 (by have:=HNE.out;omega)).trans HBX.out.2.2.2
    rw[hg] at bxp;have z0:=new_first wr (.cells #[.int .i64 j] 3) (.cells #[.int .i64 pl,.int .i64 rk,.bool un,.string ux,.string ud] 75);have z1:=new_second wr (.cells #[.int .i64 j] 3) (.cells #[.int .i64 pl,.int .i64 rk,.bool un,.string ux,.string ud] 75);have HG:=zh hg;clear hg hq hca hqu;have hwz:=HH.out.2.size;obtain⟨C,hC⟩ : ∃C,wr.heap.size=C:=⟨_,rfl⟩;obtain⟨D,hD⟩ : ∃D,C+1=D:=⟨_,rfl⟩;obtain⟨w1,hw1⟩ : ∃w1,w1=(wr.alloc (.cells #[.int .i64 j] 3)).alloc (.cells #[.int .i64 pl,.int .i64 rk,.bool un,.string ux,.string ud] 75):=⟨_,rfl⟩;rw[<- hw1] at HTT z0 z1 ⊢;rw[hC] at z0 z1 hwz ⊢;rw[hD] at z1 ⊢;obtain⟨-,-,y2,y3,y4⟩:=box5 z1;obtain⟨g0,g1,g2,-,-,-⟩:=box3 (keepB HTT.out bxp);have hS0:(w1.drew).cell? ⟨C,0,none⟩=some (.int .i64 j)/\(w1.drew).cell? ⟨D,2,none⟩=some (.bool un)/\(w1.drew).cell? ⟨D,3,none⟩=some (.string ux)/\(w1.drew).cell? ⟨D,4,none⟩=some (.string ud)/\(w1.drew).cell? ⟨bp,0,none⟩=some (.bool gn)/\(w1.drew).cell? ⟨bp,1,none⟩=some (.string gx)/\(w1.drew).cell? ⟨bp,2,none⟩=some (.string gd):=⟨cell_of_box z0,y2,y3,y4,g0,g1,g2⟩;have T1:=HTT.out.trans ((zr w1).drew);have HT1:=zh T1;have HZ:=zh (And.intro z0 (And.intro z1 bxp));have HCD:=zh (And.intro hC hD);clear T1 z0 z1 y2 y3 y4 g0 g1 g2 bxp hC hw1 e0 e1 e2 e3 e4 f0 o1;refine wpIn_wide.2 (wp_region_plain (S:=fun V=>V.cell? ⟨C,0,none⟩=some (.int .i64 j)/\V.cell? ⟨D,2,none⟩=some (.bool un)/\V.cell? ⟨D,3,none⟩=some (.string ux)/\V.cell? ⟨D,4,none⟩=some (.string ud)/\V.cell? ⟨bp,0,none⟩=some (.bool gn)/\V.cell? ⟨bp,1,none⟩=some (.string gx)/\V.cell? ⟨bp,2,none⟩=some (.string gd)) (by kernel_rfl) ?_)
    refine zt 0 (.slice (some ⟨tk,0,none⟩) m m) rfl (Or.inl ⟨by kernel_rfl,fun V hV=>?_⟩) hS0 ?_
    ·obtain⟨f0,f1,f2,f3,f4,f5,f6⟩:=hV;go_simp
    refine zt 1 (.int .i64 j) rfl (Or.inl ⟨by kernel_rfl,fun V hV=>?_⟩) hS0 ?_
    ·obtain⟨f0,f1,f2,f3,f4,f5,f6⟩:=hV;go_simp
    refine zt 2 (.pointer (some ⟨D,2,none⟩)) rfl (Or.inl ⟨by kernel_rfl,fun V hV=>?_⟩) hS0 ?_
    ·obtain⟨f0,f1,f2,f3,f4,f5,f6⟩:=hV;go_simp
    refine zt 3 (.agg #[.bool un,.string ux,.string ud]) rfl (Or.inl ⟨by kernel_rfl,fun V hV=>?_⟩) hS0 ?_
    ·obtain⟨f0,f1,f2,f3,f4,f5,f6⟩:=hV;go_simp
    refine zt 4 (.agg #[.bool gn,.string gx,.string gd]) rfl (Or.inl ⟨by kernel_rfl,fun V hV=>?_⟩) hS0 ?_
    ·obtain⟨f0,f1,f2,f3,f4,f5,f6⟩:=hV;go_simp
    simp only[zz0,zz1,zz2,Act.put,zz3,zz4,zz5];refine wpAnyH_ready (rs:=[5]) (by kernel_rfl) (by simp) ?_
    refine .cons (o:=_) rfl (fun K hK=>?_) .nil
    go_simp;refine(HMUL.out _).mono ?_;rintro e w4 ⟨rfl,t4⟩;have hS1:w4.cell? ⟨C,0,none⟩=some (.int .i64 j)/\w4.cell? ⟨D,2,none⟩=some (.bool un)/\w4.cell? ⟨D,3,none⟩=some (.string ux)/\w4.cell? ⟨D,4,none⟩=some (.string ud)/\w4.cell? ⟨bp,0,none⟩=some (.bool gn)/\w4.cell? ⟨bp,1,none⟩=some (.string gx)/\w4.cell? ⟨bp,2,none⟩=some (.string gd):=⟨cellT t4 id hS0.1,cellT t4 id hS0.2.1,cellT t4 id hS0.2.2.1,cellT t4 id hS0.2.2.2.1,cellT t4 id hS0.2.2.2.2.1,cellT t4 id hS0.2.2.2.2.2.1,cellT t4 id hS0.2.2.2.2.2.2⟩;have HT4:=zh (HT1.out.trans t4);have HA4:=zh (((zr w1).drew).trans t4);refine hK.out _ _ hS1 (fun _=>?_)
    clear hK t4 hS0;have O4:=HH.out.1.1.turned HT4.out id;obtain⟨o4,o5,o6⟩:=HCELL.out _ O4;have o1:=O4.free (j*3);have o2:=O4.free (j*3+1);have o3:=O4.free (j*3+2);refine zt 6 (.pointer (some ⟨tk,j*3,none⟩)) rfl (Or.inl ⟨by kernel_rfl,fun V hV=>?_⟩) hS1 ?_
    ·obtain⟨f0,f1,f2,f3,f4,f5,f6⟩:=hV;go_simp
    simp only[zz0,zz1,zz2,Act.put,zz3,zz4,zz5];refine wpAnyH_ready (rs:=[7]) (by kernel_rfl) (by simp) ?_
    refine .cons (o:=_) rfl (fun K hK=>?_) .nil
    go_simp;have hst:=HSET.out w4 O4;obtain⟨w9,hw9⟩ : ∃w9,((w4.setCell ⟨tk,j*3,none⟩ (.bool qn)).setCell ⟨tk,j*3+1,none⟩ (.string qx)).setCell ⟨tk,j*3+2,none⟩ (.string qd)=w9:=⟨_,rfl⟩;rw[hw9] at hst ⊢;have hCt:¬C=tk:=by have:=HCD.out;omega
    have hDt:¬D=tk:=by have:=HCD.out;omega
    have hpt:¬bp=tk:=by have:=HNE.out;omega
    have hS9:w9.cell? ⟨C,0,none⟩=some (.int .i64 j)/\w9.cell? ⟨D,2,none⟩=some (.bool un)/\w9.cell? ⟨D,3,none⟩=some (.string ux)/\w9.cell? ⟨D,4,none⟩=some (.string ud)/\w9.cell? ⟨bp,0,none⟩=some (.bool gn)/\w9.cell? ⟨bp,1,none⟩=some (.string gx)/\w9.cell? ⟨bp,2,none⟩=some (.string gd):=⟨cellT hst.2 hCt hS1.1,cellT hst.2 hDt hS1.2.1,cellT hst.2 hDt hS1.2.2.1,cellT hst.2 hDt hS1.2.2.2.1,cellT hst.2 hpt hS1.2.2.2.2.1,cellT hst.2 hpt hS1.2.2.2.2.2.1,cellT hst.2 hpt hS1.2.2.2.2.2.2⟩;have HT9:=zh ((HT4.out.mono (C':=fun i=>i=tk\/i=ob) fun _ h=>h.elim).trans (hst.2.mono fun i h=>Or.inl h))
    have HA9:=zh ((HA4.out.mono (C':=fun i=>i=tk\/i=ob) fun _ h=>h.elim).trans (hst.2.mono fun i h=>Or.inl h))
    have HO9:=zh (And.intro hst.1 (HH.out.1.2.1.turned HT4.out id |>.turned hst.2 (by have:=HNE.out;omega)))
    refine hK.out _ _ hS9 (fun _=>?_)
    clear hK hst o1 o2 o3 o4 o5 o6 O4 hw9 hS1 HSET HCELL HMUL;refine wpAnyH_done (by kernel_rfl) ?_ _
    unfold OnlyN
    gi_wp2_with fail
    have hTT:=HH.out.2.trans HT9.out;have bxo:=(hTT.block bo l3 (by have:=HNE.out;omega)).trans HBX.out.2.2.1
    obtain⟨⟨on,ox,od⟩,ho⟩ : ∃v,repR (1:Rat)=v:=⟨_,rfl⟩;obtain⟨s,hs⟩ : ∃s,decide (p=1)=s:=⟨_,rfl⟩;have hs2:sameR ⟨gn,gx,gd⟩ ⟨on,ox,od⟩=s:=by rw[<- HG.out,<- ho,same_rep,hs]
    have HONE:Hid (∀W,Calls Tryz.prog 32 #[.int .i64 1] W fun e w'=>e=.returned (.agg #[.bool on,.string ox,.string od])/\Turned (fun _=>False) W w'):=zh (fun W=>by
     have:=qInt_any 1 W (by decide)
     rw[show((1:Nat):Rat)=1 by simp,ho] at this
     exact this)
    have HS:=zh hs;have hS2:(w9.drew).cell? ⟨bo,0,none⟩=some (.slice (some ⟨ob,0,none⟩) m m)/\(w9.drew).cell? ⟨C,0,none⟩=some (.int .i64 j)/\(w9.drew).cell? ⟨bp,0,none⟩=some (.bool gn)/\(w9.drew).cell? ⟨bp,1,none⟩=some (.string gx)/\(w9.drew).cell? ⟨bp,2,none⟩=some (.string gd):=⟨cell_of_box bxo,hS9.1,hS9.2.2.2.2.1,hS9.2.2.2.2.2.1,hS9.2.2.2.2.2.2⟩;have HTB:=zh (HO9.out.2.turned ((zr w9).drew) id);clear hTT bxo ho hs hS9;refine wpIn_wide.2 (wp_region_plain (S:=fun V=>V.cell? ⟨bo,0,none⟩=some (.slice (some ⟨ob,0,none⟩) m m)/\V.cell? ⟨C,0,none⟩=some (.int .i64 j)/\V.cell? ⟨bp,0,none⟩=some (.bool gn)/\V.cell? ⟨bp,1,none⟩=some (.string gx)/\V.cell? ⟨bp,2,none⟩=some (.string gd)) (by kernel_rfl) ?_)
    refine zt 0 (.slice (some ⟨ob,0,none⟩) m m) rfl (Or.inl ⟨by kernel_rfl,fun V hV=>?_⟩) hS2 ?_
    ·obtain⟨f0,f1,f2,f3,f4⟩:=hV;go_simp
    refine zt 1 (.int .i64 j) rfl (Or.inl ⟨by kernel_rfl,fun V hV=>?_⟩) hS2 ?_
    ·obtain⟨f0,f1,f2,f3,f4⟩:=hV;go_simp
    refine zt 2 (.agg #[.bool gn,.string gx,.string gd]) rfl (Or.inl ⟨by kernel_rfl,fun V hV=>?_⟩) hS2 ?_
    ·obtain⟨f0,f1,f2,f3,f4⟩:=hV;go_simp
    simp only[zz0,zz1,zz2,Act.put,zz3,zz4,zz5];refine wpAnyH_ready (rs:=[3]) (by kernel_rfl) (by simp) ?_
    refine .cons (o:=_) rfl (fun K hK=>?_) .nil
    go_simp;refine(HONE.out _).mono ?_;rintro e w10 ⟨rfl,t4⟩;have hS3:w10.cell? ⟨bo,0,none⟩=some (.slice (some ⟨ob,0,none⟩) m m)/\w10.cell? ⟨C,0,none⟩=some (.int .i64 j)/\w10.cell? ⟨bp,0,none⟩=some (.bool gn)/\w10.cell? ⟨bp,1,none⟩=some (.string gx)/\w10.cell? ⟨bp,2,none⟩=some (.string gd):=⟨cellT t4 id hS2.1,cellT t4 id hS2.2.1,cellT t4 id hS2.2.2.1,cellT t4 id hS2.2.2.2.1,cellT t4 id hS2.2.2.2.2⟩;have HTC:=zh (HTB.out.turned t4 id);have HT10:=zh (((zr w9).drew).trans t4);refine hK.out _ _ hS3 (fun _=>?_)
    clear hK t4 hS2 HTB;refine zt 4 (.bool (!s)) rfl (Or.inl ⟨by kernel_rfl,fun V hV=>?_⟩) hS3 ?_
    ·obtain⟨f0,f1,f2,f3,f4⟩:=hV;go_simp
    refine zt 5 (.pointer (some ⟨ob,j,none⟩)) rfl (Or.inl ⟨by kernel_rfl,fun V hV=>?_⟩) hS3 ?_
    ·obtain⟨f0,f1,f2,f3,f4⟩:=hV;go_simp
    simp only[zz0,zz1,zz2,Act.put,zz3,zz4,zz5];have o1:=HTC.out.cell (bL_get _ hlt);have o2:=HTC.out.free j;refine wpAnyH_ready (rs:=[6]) (by kernel_rfl) (by simp) ?_
    refine .cons (o:=_) rfl (fun K hK=>?_) .nil
    go_simp;have hst:=HTC.out.set j (!s);obtain⟨w12,hw12⟩ : ∃w,w10.setCell ⟨ob,j,none⟩ (.bool !s)=w:=⟨_,rfl⟩;rw[hw12] at hst ⊢;have hCo:¬C=ob:=by have:=HCD.out;omega
    have hbo2:¬bo=ob:=by have:=HNE.out;omega
    have hpo:¬bp=ob:=by have:=HNE.out;omega
    have hS4:w12.cell? ⟨bo,0,none⟩=some (.slice (some ⟨ob,0,none⟩) m m)/\w12.cell? ⟨C,0,none⟩=some (.int .i64 j)/\w12.cell? ⟨bp,0,none⟩=some (.bool gn)/\w12.cell? ⟨bp,1,none⟩=some (.string gx)/\w12.cell? ⟨bp,2,none⟩=some (.string gd):=⟨cellT hst.2 hbo2 hS3.1,cellT hst.2 hCo hS3.2.1,cellT hst.2 hpo hS3.2.2.1,cellT hst.2 hpo hS3.2.2.2.1,cellT hst.2 hpo hS3.2.2.2.2⟩;have HOB:=zh hst.1;have HTK:=zh ((HO9.out.1.turned HT10.out id).turned hst.2 (by have:=HNE.out;omega))
    have HT12:=zh (HT9.out.trans ((HT10.out.mono (C':=fun i=>i=tk\/i=ob) fun _ h=>h.elim).trans (hst.2.mono fun i h=>Or.inr h)))
    have HA12:=zh (HA9.out.trans ((HT10.out.mono (C':=fun i=>i=tk\/i=ob) fun _ h=>h.elim).trans (hst.2.mono fun i h=>Or.inr h)))
    refine hK.out _ _ hS4 (fun _=>?_)
    clear hK hst o1 o2 hw12 hS3 HTC HONE hs2;refine wpAnyH_done (by kernel_rfl) ?_ _
    unfold OnlyN;have bxs:=((HH.out.2.trans HT12.out).block sb l1 (by have:=HNE.out;omega)).trans HBX.out.1
    have hd0:w12.cell? ⟨sb,0,none⟩=some (.slice rp n rc):=by simp[World.cell?,bxs]
    have hd1:w12.cell? ⟨D,0,none⟩=some (.int .i64 pl):=(box5 ((HA12.out.block D (getElem?_lt HZ.out.2.1) (by have:=HCD.out;omega)).trans HZ.out.2.1)).1
    gi_wp2_with fail
    refine⟨trivial,rfl,(callsIn_wide.2 (hDown_any rp n rc pl _)).mono ?_⟩;rintro e w13 ⟨rfl,rfl⟩
    gi_wp2_with fail
    have hTE:=HH.out.2.trans HT12.out;have hpl:=HCL.out _ (List.mem_of_getElem? HX.out);obtain⟨q,hq⟩ : ∃q:Nat,pl=q:=⟨pl.toNat,by have h:0<=pl/\pl < n:=hpl;omega⟩
    have hqn:q < n:=by have h:0<=pl/\pl < n:=hpl;omega
    have hnwj:nw j=(!s && wet x (way (rs.map (·.down)) q)):=by
     rw[HNW.out];show((op j && decide (p≠1)) && wet x (way (rs.map (·.down)) (placeK cs j)))=_;have h1:placeK cs j=q:=by
      unfold placeK;rw[getD_of HX.out];show pl.toNat=q;omega
     rw[h1,HO.out,Bool.true_and]
     congr 1
     rw[<- HS.out];by_cases h:p=1 <;> simp[h]
    have HNJ:=zh hnwj;have m0:=new_first w12 (.cells #[.slice rp n rc] 22) (.cells #[.int .i64 pl] 3);have m1:=new_second w12 (.cells #[.slice rp n rc] 22) (.cells #[.int .i64 pl] 3);have T14:=((zr w12).alloc (.cells #[.slice rp n rc] 22)).alloc (.cells #[.int .i64 pl] 3);have sz14:((w12.alloc (.cells #[.slice rp n rc] 22)).alloc (.cells #[.int .i64 pl] 3)).heap.size=w12.heap.size+2:=by simp
    obtain⟨w14,hw14⟩ : ∃w,w=(w12.alloc (.cells #[.slice rp n rc] 22)).alloc (.cells #[.int .i64 pl] 3):=⟨_,rfl⟩;rw[<- hw14] at m0 m1 T14 sz14 ⊢;obtain⟨E,hE⟩ : ∃E,w12.heap.size=E:=⟨_,rfl⟩;have szw:=HT12.out.size;have szc:=HCD.out;have szd:=getElem?_lt ((HA12.out.block D (getElem?_lt HZ.out.2.1) (by have:=HCD.out;omega)).trans HZ.out.2.1)
    rw[hE] at m0 m1 sz14 szw szd ⊢;rw[hq] at m1;have hTw:Turned (fun i=>i=tk\/i=ob) w0 w14:=hTE.trans (T14.mono fun _ h=>h.elim)
    have hne:=HNE.out;refine allotR rs (rs.map (·.down)) rp rc bl la bo ob C E N n m j q x (shutTo op nw j) (!s) w14 ds' _ _ _ _ _ _ _ _ _ _ _ _ _ _ _ _ _ _ _ _ _ _ _ _ _ _ _ _ _ _ _ _ _ _ _ _ _ _ _ _ _ _ _ _ _ _ _ _ _ _ _ _ _ _ _ _ _ _ _ _ _ _ _ _ _ _ _ _ _ _ _ _ _ _ _ _ _ _ _ _ _ _ _ _ _ _ _ _ _ _ _ _ _ _ _ _ _ _ _ _ _ _ _ _ _ _ _ _ _ _ _ _ _ _ _ _ _ _ _ _ _ _ _ _ _ _ _ _ _ _ _ _ _ _ _ _ _ _ _ _ _ _ _ _ _ _ _ _ _ _ _ _ _ _ _ _ _ _ _ _ _ _ _ _ _ _ _ _ _ _ _ _ _ _ _ _ _ _ _ _ _ _ _ _ _ _ _ _ _ _ _ _ _ ((HHR.out.same (hTw.same (by omega) (fun k hk=>by omega)))) rfl HOK.out HNN.out hqn hlt ⟨by omega,by omega,by omega,by omega,by omega,by omega⟩ (by omega) ⟨by omega,by omega,by omega,by omega,by omega⟩ ⟨by omega,by omega,by omega,by omega⟩
     m0 m1 ((hTw.block bl l2 (by omega)).trans HBX.out.2.1) (HLA.out.turned hTw (by omega)) ((hTw.block bo l3 (by omega)).trans HBX.out.2.2.1) ?_ ?_ ?_
    ·have h:=HOB.out.turned T14 id;rw[bL_set] at h;exact h
    ·exact(T14.block C (by omega) (by simp)).trans ((HA12.out.block C (getElem?_lt HZ.out.1) (by omega)).trans HZ.out.1)
    intro w15 ho15 ht15 hd15;rw[<- HNJ.out] at ho15;have h15:OwnB w15 ob (bL m (shutTo op nw (j+1))):=by
     rw[<- shutTo_set,bL_set];exact ho15
    have hTa:Turned (fun i=>i=tk\/i=ob) wr w14:=(HT12.out.trans (T14.mono fun _ h=>h.elim))
    have hTb:Turned (fun i=>i=tk\/i=ob) wr w15:=hTa.cut ht15 (fun g hg=>by rcases hg with hg | hg <;> omega)
    have hMK:Marks base w15 ({ target:=.collected w14.heap.size,args:=#[] }::ds'):=by
     refine(HH.out.1.2.2.turned hTb fun i o hi ho y hy=>?_).cons (by have:=HB.out;have:=hTw.size;omega) hd15 fun d hd D' hD' he=>?_
     ·rcases hi with hi | hi
      ·subst hi;have h1:=HH.out.1.1;unfold OwnR at h1;rw[h1] at ho;cases ho
       cases hy
      ·subst hi;have h1:=HH.out.1.2.1;unfold OwnB at h1;rw[h1] at ho;cases ho
       cases hy
     ·obtain⟨D2,h1,-,h3⟩:=HH.out.1.2.2.each d hd;rw[h1] at hD';cases hD'
      have h4:=getElem?_lt h3;have h5:=hTa.size;omega
    have HF:Hid ((OwnR w15 tk (repL m (takeTo t (amtK cs) op p (j+1)))/\OwnB w15 ob (bL m (shutTo op nw (j+1)))/\Marks base w15 ({ target:=.collected w14.heap.size,args:=#[] }::ds'))/\Turned (fun i=>i=tk\/i=ob) w0 w15) :=
     zh ⟨⟨(HTK.out.turned T14 id).turned ht15 (by omega),h15,hMK⟩,HH.out.2.trans hTb⟩
    clear ho15 h15 hTa hTb hMK ht15 hd15 hTw hTE m0 m1 T14 sz14 szw szc szd hnwj hne hw14 hE
    gi_wp2_with fail
    refine⟨⟨j+1,⟨hlt,HF⟩,rfl⟩,?_⟩;simp[tmpN];omega
  ·obtain rfl:j=m:=by omega
   conv=>arg 4;whnf
   gi_wp2_with fail
   refine hexit ds' _ _ _ _ _ _ _ _ _ _ _ _ _ _ _ _ _ _ _ _ _ _ _ _ _ _ _ _ _ _ _ _ _ _ _ _ _ _ _ _ _ _ _ _ _ _ _ _ wr ?_ ?_ HH.out.1.2.2 HH.out.2
   ·have:=HH.out.1.1;rwa [takeTo_all] at this
   ·have:=HH.out.1.2.1;rwa [shutTo_all] at this
end Go.Proofs.YtanhhdndgkhcfaaGreatDoor
