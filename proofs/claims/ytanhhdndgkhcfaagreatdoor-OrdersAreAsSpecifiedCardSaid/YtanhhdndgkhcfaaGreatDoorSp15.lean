/- Part 15 of the proof of lawSpec.card: OrdAllotD, OrdRounds, OrdClose. Conditions: those of each theorem. -/
import Derived.Test.YtanhhdndgkhcfaaGreatDoorSp01
import Derived.Test.YtanhhdndgkhcfaaGreatDoorSp12
import Derived.Test.YtanhhdndgkhcfaaGreatDoorSp14
set_option maxRecDepth 1000000
set_option maxHeartbeats 1000000
namespace Go.Proofs.YtanhhdndgkhcfaaGreatDoor
open Go.RowKit
attribute [local go_sem ↓] run_eql_rat' run_neq_rat'
def growTo (x y:Nat->Rat) (p:Rat):Nat->Rat
 | 0=>p
 | c+1=>if y c=0 then growTo x y p c else minR (growTo x y p c) (x c / y c)
theorem growTo_bytes{x y:Nat->Rat} {p:Rat} {k:Nat} (hx:∀g,BytesQ (x g) k) (hy:∀g,BytesQ (y g) k) (hp:BytesQ p (2*k+1)):∀c,BytesQ (growTo x y p c) (2*k+1)
 | 0=>hp
 | c+1=>by
  rw[growTo];split
  ·exact growTo_bytes hx hy hp c
  ·unfold minR;split
   ·exact growTo_bytes hx hy hp c
   ·exact((hx c).div (hy c)).mono (by omega)
theorem same_zero(q:Rat):sameR (repR q) zeroR=decide (q=0):=by
 unfold sameR
 congr 1
 refine propext ⟨fun e=>?_,fun e=>by rw[e,repR_zero]⟩
 rw[<- qR_repR q,e,<- repR_zero,qR_repR]
set_option linter.unusedSimpArgs false in
theorem allotL5{Q:Exit->Act->World->Prop} (n bl la wa bg k:Nat) (x y:Nat->Rat) (p:Rat) (w0:World) (ds:List Deferred) (c0 c1 c2 c3 c4 c5 c6 c8 c9 c10 c11 c12 c13 c14 c15 c16 c17 c18 c19 c20 c26 c27 c28 c29 c30 c31 c32 c33 c34 c35 c36 c37 c38 c39 c40 c41 c42 c43 c44 c45 c46 c47 c48 c49 c50 c51 c52 c53 c54 c55 c56 c57 c58 c59 c60 c61 c62 c63 c64 c65 c66 c67 c68 c69 c70 c71 c72 c73 c74 c75 c76 c77 c78 c79 c80 c81 c82 c83 c84 c85 c86 c87 c88 c89 c90 c91 c92 c93 c94 c95 c96 c97 c98 c99 c100 c101 c125 c126 c127 c128 c129 c130 c131 c132 c133 c134 c135 c136 c137 c138 c139 c140 c141 c142 c143 c144 c145 c146 c147 c148 c149 c150 c151 c152 c153 c154 c155 c156 c157 c158 c159 c160 c161 c162 c163 c164 c165 c166 c167 c168 c169 c170 c171 c172 c173 c174 c175 c176 c177 c178 c179 c180 c181 c182 c183 c184 c185 c186 c187 c188 c189 c190 c191 c192 c193 c194 c195 c196 c22 c23 c24 c25 c105 c106 c107 c108 c109 c110 c111 c112 c113 c114 c115 c116 c117 c118 c119 c120 c121 c122 c123 c124:Value)
  (hn:n<=40) (hbl:w0.heap[bl]? = some (.cells #[.slice (some ⟨la,0,none⟩) n n] 23 (0,0))) (hla:OwnR w0 la (repL n x)) (hwa:OwnR w0 wa (repL n y)) (hbg:w0.heap[bg]? = some (.cells #[.bool (repR p).neg,.string (repR p).num,.string (repR p).den] 68 (0,0)))
  (h1:bl≠bg) (h2:wa≠bg) (h3:la≠bg) (hx:∀g,BytesQ (x g) k) (hy:∀g,BytesQ (y g) k) (hp:BytesQ p (2*k+1)) (hk:4*k+4<=100000000)
  (hexit:∀(u22 u23 u24 u25 u104 u105 u106 u107 u108 u109 u110 u111 u112 u113 u114 u115 u116 u117 u118 u119 u120 u121 u122 u123 u124:Value) (w':World),w'.heap[bg]? = some (.cells #[.bool (repR (growTo x y p n)).neg,.string (repR (growTo x y p n)).num,.string (repR (growTo x y p n)).den] 68 (0,0))->Turned (fun i=>i=bg) w0 w'->Q (.exit 8) { tmps:=(c0::c1::c2::c3::c4::c5::c6::.pointer (some ⟨bl,0,none⟩)::c8::c9::c10::c11::c12::c13::c14::c15::c16::c17::c18::c19::c20::.pointer (some ⟨bg,0,none⟩)::u22::u23::u24::u25::c26::c27::c28::c29::c30::c31::c32::c33::c34::c35::c36::c37::c38::c39::c40::c41::c42::c43::c44::c45::c46::c47::c48::c49::c50::c51::c52::c53::c54::c55::c56::c57::c58::c59::c60::c61::c62::c63::c64::c65::c66::c67::c68::c69::c70::c71::c72::c73::c74::c75::c76::c77::c78::c79::c80::c81::c82::c83::c84::c85::c86::c87::c88::c89::c90::c91::c92::c93::c94::c95::c96::c97::c98::c99::c100::c101::.slice (some ⟨wa,0,none⟩) n n::(.int .i64 n)::u104::u105::u106::u107::u108::u109::u110::u111::u112::u113::u114::u115::u116::u117::u118::u119::u120::u121::u122::u123::u124::c125::c126::c127::c128::c129::c130::c131::c132::c133::c134::c135::c136::c137::c138::c139::c140::c141::c142::c143::c144::c145::c146::c147::c148::c149::c150::c151::c152::c153::c154::c155::c156::c157::c158::c159::c160::c161::c162::c163::c164::c165::c166::c167::c168::c169::c170::c171::c172::c173::c174::c175::c176::c177::c178::c179::c180::c181::c182::c183::c184::c185::c186::c187::c188::c189::c190::c191::c192::c193::c194::c195::c196::[]).toArray,defers:=ds } w') :
  Code.wp Tryz.prog (Code.loop (aBody 8)) Q { tmps:=(c0::c1::c2::c3::c4::c5::c6::.pointer (some ⟨bl,0,none⟩)::c8::c9::c10::c11::c12::c13::c14::c15::c16::c17::c18::c19::c20::.pointer (some ⟨bg,0,none⟩)::c22::c23::c24::c25::c26::c27::c28::c29::c30::c31::c32::c33::c34::c35::c36::c37::c38::c39::c40::c41::c42::c43::c44::c45::c46::c47::c48::c49::c50::c51::c52::c53::c54::c55::c56::c57::c58::c59::c60::c61::c62::c63::c64::c65::c66::c67::c68::c69::c70::c71::c72::c73::c74::c75::c76::c77::c78::c79::c80::c81::c82::c83::c84::c85::c86::c87::c88::c89::c90::c91::c92::c93::c94::c95::c96::c97::c98::c99::c100::c101::.slice (some ⟨wa,0,none⟩) n n::(.int .i64 n)::(.int .i64 0)::c105::c106::c107::c108::c109::c110::c111::c112::c113::c114::c115::c116::c117::c118::c119::c120::c121::c122::c123::c124::c125::c126::c127::c128::c129::c130::c131::c132::c133::c134::c135::c136::c137::c138::c139::c140::c141::c142::c143::c144::c145::c146::c147::c148::c149::c150::c151::c152::c153::c154::c155::c156::c157::c158::c159::c160::c161::c162::c163::c164::c165::c166::c167::c168::c169::c170::c171::c172::c173::c174::c175::c176::c177::c178::c179::c180::c181::c182::c183::c184::c185::c186::c187::c188::c189::c190::c191::c192::c193::c194::c195::c196::[]).toArray,defers:=ds } w0:=by
 have HBL:=zh hbl;have HWA:=zh hwa;have HLA:=zh hla;have HSX:=zh hx;have HSY:=zh hy;have HGB:=zh (growTo_bytes hx hy hp);have HK:=zh hk;have l1:=getElem?_lt hbl;have l3:=getElem?_lt hbg;have l4:=hla.lt;have HB0:Hid (w0.heap[bg]? = some (.cells #[.bool (repR (growTo x y p 0)).neg,.string (repR (growTo x y p 0)).num,.string (repR (growTo x y p 0)).den] 68 (0,0))):=zh hbg;clear hbl hwa hbg hx hy hp hk hla;refine wp_loop (fun a w'=>∃(j:Nat) (u22 u23 u24 u25 u105 u106 u107 u108 u109 u110 u111 u112 u113 u114 u115 u116 u117 u118 u119 u120 u121 u122 u123 u124:Value),(j<=n/\Hid (w'.heap[bg]? = some (.cells #[.bool (repR (growTo x y p j)).neg,.string (repR (growTo x y p j)).num,.string (repR (growTo x y p j)).den] 68 (0,0))/\Turned (fun i=>i=bg) w0 w'))/\a={ tmps:=(c0::c1::c2::c3::c4::c5::c6::.pointer (some ⟨bl,0,none⟩)::c8::c9::c10::c11::c12::c13::c14::c15::c16::c17::c18::c19::c20::.pointer (some ⟨bg,0,none⟩)::u22::u23::u24::u25::c26::c27::c28::c29::c30::c31::c32::c33::c34::c35::c36::c37::c38::c39::c40::c41::c42::c43::c44::c45::c46::c47::c48::c49::c50::c51::c52::c53::c54::c55::c56::c57::c58::c59::c60::c61::c62::c63::c64::c65::c66::c67::c68::c69::c70::c71::c72::c73::c74::c75::c76::c77::c78::c79::c80::c81::c82::c83::c84::c85::c86::c87::c88::c89::c90::c91::c92::c93::c94::c95::c96::c97::c98::c99::c100::c101::.slice (some ⟨wa,0,none⟩) n n::(.int .i64 n)::(.int .i64 j)::u105::u106::u107::u108::u109::u110::u111::u112::u113::u114::u115::u116::u117::u118::u119::u120::u121::u122::u123::u124::c125::c126::c127::c128::c129::c130::c131::c132::c133::c134::c135::c136::c137::c138::c139::c140::c141::c142::c143::c144::c145::c146::c147::c148::c149::c150::c151::c152::c153::c154::c155::c156::c157::c158::c159::c160::c161::c162::c163::c164::c165::c166::c167::c168::c169::c170::c171::c172::c173::c174::c175::c176::c177::c178::c179::c180::c181::c182::c183::c184::c185::c186::c187::c188::c189::c190::c191::c192::c193::c194::c195::c196::[]).toArray,defers:=ds }) (fun a _=>n-tmpN a 104) ?_ ?_
 ·exact⟨0,_,_,_,_,_,_,_,_,_,_,_,_,_,_,_,_,_,_,_,_,_,_,_,_,⟨Nat.zero_le _,zh ⟨HB0.out,Turned.refl _ _⟩⟩,rfl⟩
 ·clear HB0;rintro a wr ⟨j,u22,u23,u24,u25,u105,u106,u107,u108,u109,u110,u111,u112,u113,u114,u115,u116,u117,u118,u119,u120,u121,u122,u123,u124,⟨hj,HH⟩,rfl⟩;by_cases hlt:j < n
  ·obtain⟨⟨un,ux,ud⟩,hu⟩ : ∃v,repR (y j)=v:=⟨_,rfl⟩;obtain⟨⟨vn,vx,vd⟩,hv⟩ : ∃v,repR (x j)=v:=⟨_,rfl⟩;obtain⟨⟨gn,gx,gd⟩,hg⟩ : ∃v,repR (growTo x y p j)=v:=⟨_,rfl⟩;have hwc:=(HWA.out.turned HH.out.2 h2).cells (repL_get y hlt);rw[hu] at hwc;obtain⟨e0,e1,e2⟩:=hwc;have hlc:=(HLA.out.turned HH.out.2 h3).cells (repL_get x hlt);rw[hv] at hlc;obtain⟨k0,k1,k2⟩:=hlc;have bxl:=(HH.out.2.block bl l1 h1).trans HBL.out;have bxg:=HH.out.1;rw[hg] at bxg;have hlg:=getElem?_lt bxg;have hlw:=HH.out.2.size;have HST:=zh (show growTo x y p (j+1)=if y j=0 then growTo x y p j else minR (growTo x y p j) (x j / y j) from rfl)
   obtain⟨s,hs⟩ : ∃s,decide (y j=0)=s:=⟨_,rfl⟩;have hs2:sameR ⟨un,ux,ud⟩ ⟨false,⟨#[]⟩,⟨#[]⟩⟩=s:=by
    have:=same_zero (y j);rw[hu,hs] at this;exact this
   have TA:=(zr wr).alloc (.cells #[.bool un,.string ux,.string ud] 68);have z1:=World.alloc_heap_new wr (.cells #[.bool un,.string ux,.string ud] 68);have HZ:Hid (∀W,Calls Tryz.prog 57 #[] W fun e w'=>e=.returned (.agg #[.bool false,.string ⟨#[]⟩,.string ⟨#[]⟩])/\Turned (fun _=>False) W w'):=zh hZero_any
   have HU:=zh hu;have HV:=zh hv;have HG:=zh hg;have HS:=zh hs;have hj0:(0:Int)<=j:=by omega
   have hj1:(j:Int) < n:=by omega
   clear hu hv hg hs
   conv=>arg 2;whnf
   go_wp2_with fail;obtain⟨B,hB⟩ : ∃B,wr.heap.size=B:=⟨_,rfl⟩;obtain⟨w1,hw1⟩ : ∃w1,w1=wr.alloc (.cells #[.bool un,.string ux,.string ud] 68):=⟨_,rfl⟩;rw[<- hw1] at TA z1 ⊢;rw[hB] at z1 hlg hlw ⊢;clear hw1;obtain⟨y0,y1,y2,-,-,-⟩:=box3 z1;have T1:=TA.trans ((zr w1).drew);have HT1:=zh T1;have hS0:(w1.drew).cell? ⟨B,0,none⟩=some (.bool un)/\(w1.drew).cell? ⟨B,1,none⟩=some (.string ux)/\(w1.drew).cell? ⟨B,2,none⟩=some (.string ud):=⟨y0,y1,y2⟩;have HF0:=zh (And.intro bxl (And.intro bxg (And.intro k0 (And.intro k1 k2))));have HE0:=zh hB;clear TA T1 z1 y0 y1 y2 e0 e1 e2 hB bxl bxg k0 k1 k2;refine wp_region_plain (S:=fun V=>V.cell? ⟨B,0,none⟩=some (.bool un)/\V.cell? ⟨B,1,none⟩=some (.string ux)/\V.cell? ⟨B,2,none⟩=some (.string ud)) (by kernel_rfl) ?_
   refine zt 0 (.agg #[.bool un,.string ux,.string ud]) rfl (Or.inl ⟨by kernel_rfl,fun V hV=>?_⟩) hS0 ?_
   ·obtain⟨f0,f1,f2⟩:=hV;go_simp
   simp only[zz0,zz1,zz2,Act.put,zz3,zz4,zz5];refine wpAnyH_ready (rs:=[1]) (by kernel_rfl) (by simp) ?_
   refine .cons (o:=_) rfl (fun K hK=>?_) .nil
   go_simp;refine(HZ.out _).mono ?_;rintro e w4 ⟨rfl,t4⟩;have hS1:w4.cell? ⟨B,0,none⟩=some (.bool un)/\w4.cell? ⟨B,1,none⟩=some (.string ux)/\w4.cell? ⟨B,2,none⟩=some (.string ud):=⟨cellT t4 id hS0.1,cellT t4 id hS0.2.1,cellT t4 id hS0.2.2⟩;have HT4:=zh (HT1.out.trans t4);refine hK.out _ _ hS1 (fun _=>?_)
   clear hK t4 hS0;refine zt 2 (.bool (!s)) rfl (Or.inl ⟨by kernel_rfl,fun V hV=>?_⟩) hS1 ?_
   ·obtain⟨f0,f1,f2⟩:=hV;go_simp
   simp only[zz0,zz1,zz2,Act.put,zz3,zz4,zz5];refine wpAnyH_done (by kernel_rfl) ?_ _
   unfold OnlyN;cases s
   ·have h5:y j≠0:=of_decide_eq_false HS.out;obtain⟨⟨qn,qx,qd⟩,hq⟩ : ∃v,repR (x j / y j)=v:=⟨_,rfl⟩;obtain⟨⟨mn,mx,md⟩,hm⟩ : ∃v,repR (minR (growTo x y p j) (x j / y j))=v:=⟨_,rfl⟩;have HDIV:=zh (fun W=>qDiv_any ⟨vn,vx,vd⟩ ⟨un,ux,ud⟩ (4*k+4) W (by omega) HK.out (by rw[<- HV.out];exact((HSX.out j).mono (by omega)).szr) (by rw[<- HU.out];exact((HSY.out j).mono (by omega)).szr) (by rw[<- HU.out,qR_repR];exact h5))
    rw[show qR (⟨vn,vx,vd⟩ : Rv)=x j by rw[<- HV.out,qR_repR],show qR (⟨un,ux,ud⟩ : Rv)=y j by rw[<- HU.out,qR_repR],hq] at HDIV
    have HMIN:=zh (fun W=>qMin_any ⟨gn,gx,gd⟩ ⟨qn,qx,qd⟩ (4*k+4) W (by omega) HK.out (by rw[<- HG.out];exact((HGB.out j).mono (by omega)).szr) (by rw[<- hq];exact(((HSX.out j).div (HSY.out j)).mono (by omega)).szr))
    rw[show qR (⟨gn,gx,gd⟩ : Rv)=growTo x y p j by rw[<- HG.out,qR_repR],show qR (⟨qn,qx,qd⟩ : Rv)=x j / y j by rw[<- hq,qR_repR],hm] at HMIN
    have HM:=zh ((congrArg repR (HST.out.trans (if_neg h5))).trans hm);clear hq hm h5 HST HU HV HG HS hs2;go_wp2_with fail;have T4:=HT4.out.trans ((zr w4).drew);have hS2:(w4.drew).cell? ⟨bl,0,none⟩=some (.slice (some ⟨la,0,none⟩) n n)/\(w4.drew).cell? ⟨la,j*3,none⟩=some (.bool vn)/\(w4.drew).cell? ⟨la,j*3+1,none⟩=some (.string vx)/\(w4.drew).cell? ⟨la,j*3+2,none⟩=some (.string vd)/\(w4.drew).cell? ⟨B,0,none⟩=some (.bool un)/\(w4.drew).cell? ⟨B,1,none⟩=some (.string ux)/\(w4.drew).cell? ⟨B,2,none⟩=some (.string ud):=⟨cell_of_box (keepB T4 HF0.out.1),cellT T4 id HF0.out.2.2.1,cellT T4 id HF0.out.2.2.2.1,cellT T4 id HF0.out.2.2.2.2,hS1.1,hS1.2.1,hS1.2.2⟩;have HT5:=zh T4;clear T4 hS1;refine wp_region_plain (S:=fun V=>V.cell? ⟨bl,0,none⟩=some (.slice (some ⟨la,0,none⟩) n n)/\V.cell? ⟨la,j*3,none⟩=some (.bool vn)/\V.cell? ⟨la,j*3+1,none⟩=some (.string vx)/\V.cell? ⟨la,j*3+2,none⟩=some (.string vd)/\V.cell? ⟨B,0,none⟩=some (.bool un)/\V.cell? ⟨B,1,none⟩=some (.string ux)/\V.cell? ⟨B,2,none⟩=some (.string ud)) (by kernel_rfl) ?_
    refine zt 0 (.slice (some ⟨la,0,none⟩) n n) rfl (Or.inl ⟨by kernel_rfl,fun V hV=>?_⟩) hS2 ?_
    ·obtain⟨f0,f1,f2,f3,f4,f5,f6⟩:=hV;go_simp
    refine zt 1 (.int .i64 j) rfl (Or.inl ⟨by kernel_rfl,fun V hV=>?_⟩) hS2 ?_
    ·obtain⟨f0,f1,f2,f3,f4,f5,f6⟩:=hV;go_simp
    refine zt 2 (.pointer (some ⟨la,j*3,none⟩)) rfl (Or.inl ⟨by kernel_rfl,fun V hV=>?_⟩) hS2 ?_
    ·obtain⟨f0,f1,f2,f3,f4,f5,f6⟩:=hV;go_simp
    refine zt 3 (.agg #[.bool vn,.string vx,.string vd]) rfl (Or.inl ⟨by kernel_rfl,fun V hV=>?_⟩) hS2 ?_
    ·obtain⟨f0,f1,f2,f3,f4,f5,f6⟩:=hV;go_simp
    refine zt 4 (.agg #[.bool un,.string ux,.string ud]) rfl (Or.inl ⟨by kernel_rfl,fun V hV=>?_⟩) hS2 ?_
    ·obtain⟨f0,f1,f2,f3,f4,f5,f6⟩:=hV;go_simp
    simp only[zz0,zz1,zz2,Act.put,zz3,zz4,zz5];refine wpAnyH_ready (rs:=[5,9]) (by kernel_rfl) (by simp) ?_
    refine .cons (o:=_) rfl (fun K hK=>?_) (.cons (o:=_) rfl (fun K hK=>?_) .nil)
    ·skip
     go_simp;refine(HDIV.out _).mono ?_;rintro e w5 ⟨rfl,t4⟩;have hS3:w5.cell? ⟨bl,0,none⟩=some (.slice (some ⟨la,0,none⟩) n n)/\w5.cell? ⟨la,j*3,none⟩=some (.bool vn)/\w5.cell? ⟨la,j*3+1,none⟩=some (.string vx)/\w5.cell? ⟨la,j*3+2,none⟩=some (.string vd)/\w5.cell? ⟨B,0,none⟩=some (.bool un)/\w5.cell? ⟨B,1,none⟩=some (.string ux)/\w5.cell? ⟨B,2,none⟩=some (.string ud):=⟨cellT t4 id hS2.1,cellT t4 id hS2.2.1,cellT t4 id hS2.2.2.1,cellT t4 id hS2.2.2.2.1,cellT t4 id hS2.2.2.2.2.1,cellT t4 id hS2.2.2.2.2.2.1,cellT t4 id hS2.2.2.2.2.2.2⟩;have HT6:=zh (HT5.out.trans t4);clear t4;refine hK.out _ _ hS3 (fun _=>?_)
     clear hK;refine zt 6 (.tuple #[.agg #[.bool qn,.string qx,.string qd],.int .i64 0]) rfl (Or.inl ⟨by kernel_rfl,fun V hV=>?_⟩) hS3 ?_
     ·obtain⟨f0,f1,f2,f3,f4,f5,f6⟩:=hV;go_simp
     refine zt 7 (.agg #[.bool qn,.string qx,.string qd]) rfl (Or.inl ⟨by kernel_rfl,fun V hV=>?_⟩) hS3 ?_
     ·obtain⟨f0,f1,f2,f3,f4,f5,f6⟩:=hV;go_simp
     refine zt 8 (.int .i64 0) rfl (Or.inl ⟨by kernel_rfl,fun V hV=>?_⟩) hS3 ?_
     ·obtain⟨f0,f1,f2,f3,f4,f5,f6⟩:=hV;go_simp
     simp only[zz0,zz1,zz2,Act.put,zz3,zz4,zz5];refine wpAnyH_ready (rs:=[9]) (by kernel_rfl) (by simp) ?_
     refine .cons (o:=_) rfl (fun K hK=>?_) .nil
     go_simp;have TA:=(zr w5).alloc (.cells #[.bool false,.string ⟨#[]⟩,.string ⟨#[]⟩] 68);have z1:(w5.alloc (.cells #[.bool false,.string ⟨#[]⟩,.string ⟨#[]⟩] 68)).heap[w5.heap.size]? = some (.cells #[.bool false,.string ⟨#[]⟩,.string ⟨#[]⟩] 68 (0,0)):=World.alloc_heap_new w5 (.cells #[.bool false,.string ⟨#[]⟩,.string ⟨#[]⟩] 68);have hDB:B < w5.heap.size:=World.block_lt_of_cell? w5 ⟨B,0,none⟩ hS3.2.2.2.2.1;obtain⟨D,hD⟩ : ∃D,w5.heap.size=D:=⟨_,rfl⟩;obtain⟨w6,hw⟩ : ∃w,w=w5.alloc (.cells #[.bool false,.string ⟨#[]⟩,.string ⟨#[]⟩] 68):=⟨_,rfl⟩;rw[<- hw] at TA z1 ⊢;rw[hD] at z1 hDB ⊢;clear hw hD;have hS4:w6.cell? ⟨bl,0,none⟩=some (.slice (some ⟨la,0,none⟩) n n)/\w6.cell? ⟨la,j*3,none⟩=some (.bool vn)/\w6.cell? ⟨la,j*3+1,none⟩=some (.string vx)/\w6.cell? ⟨la,j*3+2,none⟩=some (.string vd)/\w6.cell? ⟨B,0,none⟩=some (.bool un)/\w6.cell? ⟨B,1,none⟩=some (.string ux)/\w6.cell? ⟨B,2,none⟩=some (.string ud):=⟨cellT TA id hS3.1,cellT TA id hS3.2.1,cellT TA id hS3.2.2.1,cellT TA id hS3.2.2.2.1,cellT TA id hS3.2.2.2.2.1,cellT TA id hS3.2.2.2.2.2.1,cellT TA id hS3.2.2.2.2.2.2⟩;have HT7:=zh (HT6.out.trans TA);have HZ1:=zh z1;clear TA z1 hS3;refine hK.out _ _ hS4 (fun _=>?_)
     clear hK;refine wpAnyH_ready (rs:=[10]) (by kernel_rfl) (by simp) ?_
     refine .cons (o:=_) rfl (fun K hK=>?_) .nil
     obtain⟨d0,d1,d2,d3,d4,d5⟩:=box3 HZ1.out;go_simp;have hst:=set3 HZ1.out (.bool qn) (.string qx) (.string qd);obtain⟨w9,hw9⟩ : ∃w9,((w6.setCell ⟨D,0,none⟩ (.bool qn)).setCell ⟨D,1,none⟩ (.string qx)).setCell ⟨D,2,none⟩ (.string qd)=w9:=⟨_,rfl⟩;rw[hw9] at hst ⊢;have HT9:=zh (HT7.out.fresh hst.2 (fun g hg=>by have:=HE0.out;omega))
     have hS9:w9.cell? ⟨bl,0,none⟩=some (.slice (some ⟨la,0,none⟩) n n)/\w9.cell? ⟨la,j*3,none⟩=some (.bool vn)/\w9.cell? ⟨la,j*3+1,none⟩=some (.string vx)/\w9.cell? ⟨la,j*3+2,none⟩=some (.string vd)/\w9.cell? ⟨B,0,none⟩=some (.bool un)/\w9.cell? ⟨B,1,none⟩=some (.string ux)/\w9.cell? ⟨B,2,none⟩=some (.string ud):=⟨cellT hst.2 (by omega) hS4.1,cellT hst.2 (by omega) hS4.2.1,cellT hst.2 (by omega) hS4.2.2.1,cellT hst.2 (by omega) hS4.2.2.2.1,cellT hst.2 (by omega) hS4.2.2.2.2.1,cellT hst.2 (by omega) hS4.2.2.2.2.2.1,cellT hst.2 (by omega) hS4.2.2.2.2.2.2⟩
     have HZ9:=zh hst.1;refine hK.out _ _ hS9 (fun _=>?_)
     clear hK d0 d1 d2 d3 d4 d5 hst hw9 hS4;refine zt 11 (.int .i64 0) rfl (Or.inl ⟨by kernel_rfl,fun V hV=>?_⟩) hS9 ?_
     ·obtain⟨f0,f1,f2,f3,f4,f5,f6⟩:=hV;go_simp
     simp only[zz0,zz1,zz2,Act.put,zz3,zz4,zz5];refine wpAnyH_done (by kernel_rfl) ?_ _
     unfold OnlyN;have HB9:=zh (keepB HT9.out HF0.out.2.1);obtain⟨b0,b1,b2,-,-,-⟩:=box3 HB9.out;obtain⟨q0,q1,q2,-,-,-⟩:=box3 HZ9.out;clear hS9;go_wp2_with (go_at_call 33;refine(HMIN.out _).mono ?_;rintro e w8 ⟨rfl,t8⟩;have HB8:=zh (keepB t8 HB9.out);obtain⟨m0,m1,m2,f0,f1,f2⟩:=box3 HB8.out;have HT8:=zh t8;clear t8);have hst:=set3 HB8.out (.bool mn) (.string mx) (.string md);refine⟨⟨j+1,_,_,_,_,_,_,_,_,_,_,_,_,_,_,_,_,_,_,_,_,_,_,_,_,⟨hlt,zh ⟨?_,HH.out.2.trans (((HT9.out.trans HT8.out).mono fun _ h=>h.elim).trans hst.2)⟩⟩,rfl⟩,?_⟩
     ·rw[HM.out];exact hst.1
     ·simp[tmpN];omega
    ·skip
     go_simp;have TA:=((zr w4).alloc (.cells #[.bool false,.string ⟨#[]⟩,.string ⟨#[]⟩] 68)).drew;have z1:((w4.alloc (.cells #[.bool false,.string ⟨#[]⟩,.string ⟨#[]⟩] 68)).drew).heap[w4.heap.size]? = some (.cells #[.bool false,.string ⟨#[]⟩,.string ⟨#[]⟩] 68 (0,0)):=World.alloc_heap_new w4 (.cells #[.bool false,.string ⟨#[]⟩,.string ⟨#[]⟩] 68);have hDB:B < w4.heap.size:=World.block_lt_of_cell? w4 ⟨B,0,none⟩ hS2.2.2.2.2.1;obtain⟨D,hD⟩ : ∃D,w4.heap.size=D:=⟨_,rfl⟩;obtain⟨w5,hw⟩ : ∃w,w=(w4.alloc (.cells #[.bool false,.string ⟨#[]⟩,.string ⟨#[]⟩] 68)).drew:=⟨_,rfl⟩;rw[<- hw] at TA z1 ⊢;rw[hD] at z1 hDB ⊢;clear hw hD;have hS3:w5.cell? ⟨bl,0,none⟩=some (.slice (some ⟨la,0,none⟩) n n)/\w5.cell? ⟨la,j*3,none⟩=some (.bool vn)/\w5.cell? ⟨la,j*3+1,none⟩=some (.string vx)/\w5.cell? ⟨la,j*3+2,none⟩=some (.string vd)/\w5.cell? ⟨B,0,none⟩=some (.bool un)/\w5.cell? ⟨B,1,none⟩=some (.string ux)/\w5.cell? ⟨B,2,none⟩=some (.string ud):=⟨cellT TA id hS2.1,cellT TA id hS2.2.1,cellT TA id hS2.2.2.1,cellT TA id hS2.2.2.2.1,cellT TA id hS2.2.2.2.2.1,cellT TA id hS2.2.2.2.2.2.1,cellT TA id hS2.2.2.2.2.2.2⟩;have HT6:=zh (HT4.out.trans TA);have HZ0:=zh z1;clear TA z1 hS2;refine hK.out _ _ hS3 (fun _=>?_)
     clear hK;refine wpAnyH_ready (rs:=[5]) (by kernel_rfl) (by simp) ?_
     refine .cons (o:=_) rfl (fun K hK=>?_) .nil
     go_simp;refine(HDIV.out _).mono ?_;rintro e w6 ⟨rfl,t4⟩;have hS4:w6.cell? ⟨bl,0,none⟩=some (.slice (some ⟨la,0,none⟩) n n)/\w6.cell? ⟨la,j*3,none⟩=some (.bool vn)/\w6.cell? ⟨la,j*3+1,none⟩=some (.string vx)/\w6.cell? ⟨la,j*3+2,none⟩=some (.string vd)/\w6.cell? ⟨B,0,none⟩=some (.bool un)/\w6.cell? ⟨B,1,none⟩=some (.string ux)/\w6.cell? ⟨B,2,none⟩=some (.string ud):=⟨cellT t4 id hS3.1,cellT t4 id hS3.2.1,cellT t4 id hS3.2.2.1,cellT t4 id hS3.2.2.2.1,cellT t4 id hS3.2.2.2.2.1,cellT t4 id hS3.2.2.2.2.2.1,cellT t4 id hS3.2.2.2.2.2.2⟩;have HT7:=zh (HT6.out.trans t4);have HZ1:=zh (keepB t4 HZ0.out);clear t4 hS3;refine hK.out _ _ hS4 (fun _=>?_)
     clear hK;refine zt 6 (.tuple #[.agg #[.bool qn,.string qx,.string qd],.int .i64 0]) rfl (Or.inl ⟨by kernel_rfl,fun V hV=>?_⟩) hS4 ?_
     ·obtain⟨f0,f1,f2,f3,f4,f5,f6⟩:=hV;go_simp
     refine zt 7 (.agg #[.bool qn,.string qx,.string qd]) rfl (Or.inl ⟨by kernel_rfl,fun V hV=>?_⟩) hS4 ?_
     ·obtain⟨f0,f1,f2,f3,f4,f5,f6⟩:=hV;go_simp
     refine zt 8 (.int .i64 0) rfl (Or.inl ⟨by kernel_rfl,fun V hV=>?_⟩) hS4 ?_
     ·obtain⟨f0,f1,f2,f3,f4,f5,f6⟩:=hV;go_simp
     simp only[zz0,zz1,zz2,Act.put,zz3,zz4,zz5];refine wpAnyH_ready (rs:=[10]) (by kernel_rfl) (by simp) ?_
     refine .cons (o:=_) rfl (fun K hK=>?_) .nil
     obtain⟨d0,d1,d2,d3,d4,d5⟩:=box3 HZ1.out;go_simp;have hst:=set3 HZ1.out (.bool qn) (.string qx) (.string qd);obtain⟨w9,hw9⟩ : ∃w9,((w6.setCell ⟨D,0,none⟩ (.bool qn)).setCell ⟨D,1,none⟩ (.string qx)).setCell ⟨D,2,none⟩ (.string qd)=w9:=⟨_,rfl⟩;rw[hw9] at hst ⊢;have HT9:=zh (HT7.out.fresh hst.2 (fun g hg=>by have:=HE0.out;omega))
     have hS9:w9.cell? ⟨bl,0,none⟩=some (.slice (some ⟨la,0,none⟩) n n)/\w9.cell? ⟨la,j*3,none⟩=some (.bool vn)/\w9.cell? ⟨la,j*3+1,none⟩=some (.string vx)/\w9.cell? ⟨la,j*3+2,none⟩=some (.string vd)/\w9.cell? ⟨B,0,none⟩=some (.bool un)/\w9.cell? ⟨B,1,none⟩=some (.string ux)/\w9.cell? ⟨B,2,none⟩=some (.string ud):=⟨cellT hst.2 (by omega) hS4.1,cellT hst.2 (by omega) hS4.2.1,cellT hst.2 (by omega) hS4.2.2.1,cellT hst.2 (by omega) hS4.2.2.2.1,cellT hst.2 (by omega) hS4.2.2.2.2.1,cellT hst.2 (by omega) hS4.2.2.2.2.2.1,cellT hst.2 (by omega) hS4.2.2.2.2.2.2⟩
     have HZ9:=zh hst.1;refine hK.out _ _ hS9 (fun _=>?_)
     clear hK d0 d1 d2 d3 d4 d5 hst hw9 hS4;refine zt 11 (.int .i64 0) rfl (Or.inl ⟨by kernel_rfl,fun V hV=>?_⟩) hS9 ?_
     ·obtain⟨f0,f1,f2,f3,f4,f5,f6⟩:=hV;go_simp
     simp only[zz0,zz1,zz2,Act.put,zz3,zz4,zz5];refine wpAnyH_done (by kernel_rfl) ?_ _
     unfold OnlyN;have HB9:=zh (keepB HT9.out HF0.out.2.1);obtain⟨b0,b1,b2,-,-,-⟩:=box3 HB9.out;obtain⟨q0,q1,q2,-,-,-⟩:=box3 HZ9.out;clear hS9;go_wp2_with (go_at_call 33;refine(HMIN.out _).mono ?_;rintro e w8 ⟨rfl,t8⟩;have HB8:=zh (keepB t8 HB9.out);obtain⟨m0,m1,m2,f0,f1,f2⟩:=box3 HB8.out;have HT8:=zh t8;clear t8);have hst:=set3 HB8.out (.bool mn) (.string mx) (.string md);refine⟨⟨j+1,_,_,_,_,_,_,_,_,_,_,_,_,_,_,_,_,_,_,_,_,_,_,_,_,⟨hlt,zh ⟨?_,HH.out.2.trans (((HT9.out.trans HT8.out).mono fun _ h=>h.elim).trans hst.2)⟩⟩,rfl⟩,?_⟩
     ·rw[HM.out];exact hst.1
     ·simp[tmpN];omega
   ·go_wp2_with fail;have h5:y j=0:=of_decide_eq_true HS.out;refine⟨⟨j+1,_,_,_,_,_,_,_,_,_,_,_,_,_,_,_,_,_,_,_,_,_,_,_,_,⟨hlt,zh ⟨?_,HH.out.2.trans (HT4.out.mono fun _ h=>h.elim)⟩⟩,rfl⟩,?_⟩
    ·rw[HST.out,if_pos h5];exact keepB HT4.out HH.out.1
    ·simp[tmpN];omega
  ·obtain rfl:j=n:=by omega
   conv=>arg 2;whnf
   go_wp2_with fail;exact hexit _ _ _ _ _ _ _ _ _ _ _ _ _ _ _ _ _ _ _ _ _ _ _ _ _ wr HH.out.1 HH.out.2
section
variable {on:Nat->Nat->Bool} {n m:Nat} {place:Nat->Nat} {rank:Nat->Int} {a x t:Nat->Rat} {op:Nat->Bool} {part:Rat} {r:Int}
theorem min_shift(p u v:Rat):minQ (p+u) (p+v)=p+minR u v:=by
 unfold minQ minR;by_cases h:u<=v
 ·rw[if_pos h,if_pos (by grind)]
 ·rw[if_neg h,if_neg (by grind)]
theorem reach_grow:∀c,reachQ on n m place a x t op part c=part+growTo (restQ on n m place x t) (wantQ on m place a op) (1-part) c
 | 0=>by
  show(1:Rat)=part+(1-part)
  grind
 | c+1=>by
  rw[reachQ,growTo,reach_grow c];by_cases h:wantQ on m place a op c=0
  ·rw[if_pos h,if_pos h]
  ·rw[if_neg h,if_neg h,min_shift]
theorem rest_grow(h:InvQ on n m place rank a x r t op part) (g:Rat) (i:Nat):restQ on n m place x (growQ a t op (part+g)) i=restQ on n m place x t i-wantQ on m place a op i*g:=by
 unfold restQ;rw[use_grow h]
 grind
theorem rank_skip{c c':Int} (h:RankedQ on n m place rank a x c t) (hc:c<=c') (hn:∀k,k < m->¬(c<=rank k/\rank k < c')):RankedQ on n m place rank a x c' t :=
 ⟨h.box,h.fits,fun k hk hr=>h.later k hk (by omega),fun k hk hr hlt=>h.done k hk (by have:=hn k hk;omega) hlt⟩
theorem rank_first(h:RankedQ on n m place rank a x r t):InvQ on n m place rank a x r t (firstOpen rank a r) 0:=by
 refine⟨fun k hk ho=>?_,Rat.le_refl,by decide,h.box,h.fits,fun k hk hr=>h.later k hk (by omega),fun k hk hr=>?_,fun k hk hd hlt=>?_⟩
 ·unfold firstOpen at ho;rw[Bool.and_eq_true,decide_eq_true_eq,decide_eq_true_eq] at ho;refine⟨ho.1,ho.2,?_⟩;rw[h.later k hk (by omega)]
  grind
 ·rw[h.later k hk (by omega)];grind
 ·rcases hd with hd | ⟨hd,ho⟩
  ·exact h.done k hk hd hlt
  ·exfalso;unfold firstOpen at ho;rw[hd] at ho;have hz:a k=0:=by simpa using ho
   have:=(h.box k hk).1;rw[hz] at hlt
   grind
theorem rank_last(h:InvQ on n m place rank a x r t op part) (hs:someQ m op=false):RankedQ on n m place rank a x (r+1) t:=by
 have h2:∀k,k < m->op k=false:=fun k hk=>by
  cases ho:op k with
  | false=>rfl
  | true =>
   have:=some_iff.2 ⟨k,hk,ho⟩;rw[hs] at this;cases this
 refine⟨h.box,h.fits,fun k hk hr=>h.later k hk (by omega),fun k hk hr hlt=>h.done k hk ?_ hlt⟩
 rcases Int.lt_or_le (rank k) r with h3 | h3
 ·exact .inl h3
 ·exact .inr ⟨by omega,h2 k hk⟩
theorem rank_start(ha:∀k,k < m->0<=a k) (hx:∀p,p < n->0<=x p) (hr:∀k,k < m->0<=rank k):RankedQ on n m place rank a x 0 fun _=>0 :=
 ranked ha hx hr 0
theorem rank_end{c:Int} (h:RankedQ on n m place rank a x c t) (hr:∀k,k < m->rank k < c):FairQ on n m place rank a x t :=
 ⟨h.box,h.fits,fun k hk hlt=>h.done k hk (hr k hk) hlt⟩
end
def takeTo (t a:Nat->Rat) (op:Nat->Bool) (p:Rat) (j:Nat):Nat->Rat:=fun k=>if k < j then growQ a t op p k else t k
theorem repL_congr{m:Nat} {f g:Nat->Rat} (h:∀k,k < m->f k=g k):repL m f=repL m g:=by
 unfold repL;exact List.map_congr_left fun k hk=>by rw[h k (List.mem_range.1 hk)]
theorem takeTo_zero(m:Nat) (t a:Nat->Rat) (op:Nat->Bool) (p:Rat):repL m (takeTo t a op p 0)=repL m t:=repL_congr fun k _=>by
 unfold takeTo;rw[if_neg (by omega)]
theorem takeTo_all(m:Nat) (t a:Nat->Rat) (op:Nat->Bool) (p:Rat):repL m (takeTo t a op p m)=repL m (growQ a t op p):=repL_congr fun k hk=>by
 unfold takeTo;rw[if_pos hk]
theorem takeTo_open{m j:Nat} {t a:Nat->Rat} {op:Nat->Bool} {p:Rat} (h:op j=true):(repL m (takeTo t a op p j)).set j (repR (a j*p))=repL m (takeTo t a op p (j+1)):=by
 apply List.ext_getElem?;intro i;rw[List.getElem?_set,repL_at,repL_at,repL_len];unfold takeTo;by_cases hj:j=i
 ·subst hj;rw[if_pos rfl,if_pos (by omega:j < j+1),show growQ a t op p j=a j*p by unfold growQ;rw[h];rfl]
 ·rw[if_neg hj];by_cases h2:i < j
  ·rw[if_pos h2,if_pos (by omega:i < j+1)]
  ·rw[if_neg h2,if_neg (by omega:¬i < j+1)]
theorem takeTo_shut{m j:Nat} {t a:Nat->Rat} {op:Nat->Bool} {p:Rat} (h:op j=false):repL m (takeTo t a op p j)=repL m (takeTo t a op p (j+1)):=repL_congr fun k _=>by
 unfold takeTo;by_cases hj:k=j
 ·subst hj;rw[if_neg (by omega),if_pos (by omega:k < k+1),show growQ a t op p k=t k by unfold growQ;rw[h];rfl]
 ·by_cases h2:k < j
  ·rw[if_pos h2,if_pos (by omega:k < j+1)]
  ·rw[if_neg h2,if_neg (by omega:¬k < j+1)]
def shutTo (op nw:Nat->Bool) (j:Nat):Nat->Bool:=fun k=>if k < j then nw k else op k
theorem shutTo_zero(m:Nat) (op nw:Nat->Bool):bL m (shutTo op nw 0)=bL m op:=bL_congr fun k _=>by
 unfold shutTo;rw[if_neg (by omega)]
theorem shutTo_all(m:Nat) (op nw:Nat->Bool):bL m (shutTo op nw m)=bL m nw:=bL_congr fun k hk=>by
 unfold shutTo;rw[if_pos hk]
theorem shutTo_here(op nw:Nat->Bool) (j:Nat):shutTo op nw j j=op j:=by
 unfold shutTo;rw[if_neg (by omega)]
theorem shutTo_set(m:Nat) (op nw:Nat->Bool) (j:Nat):(bL m (shutTo op nw j)).set j (nw j)=bL m (shutTo op nw (j+1)):=by
 rw[bL_set];refine bL_congr fun k _=>?_
 unfold shutTo;by_cases h:k=j
 ·subst h;rw[if_pos rfl,if_pos (by omega:k < k+1)]
 ·rw[if_neg h];by_cases h2:k < j
  ·rw[if_pos h2,if_pos (by omega:k < j+1)]
  ·rw[if_neg h2,if_neg (by omega:¬k < j+1)]
theorem shutTo_same{m j:Nat} {op nw:Nat->Bool} (h:nw j=op j):bL m (shutTo op nw j)=bL m (shutTo op nw (j+1)):=bL_congr fun k _=>by
 unfold shutTo;by_cases hk:k=j
 ·subst hk;rw[if_neg (by omega),if_pos (by omega:k < k+1),h]
 ·by_cases h2:k < j
  ·rw[if_pos h2,if_pos (by omega:k < j+1)]
  ·rw[if_neg h2,if_neg (by omega:¬k < j+1)]
def wet (x:Nat->Rat) (l:List Nat):Bool:=l.all fun g=>decide (x g≠0)
theorem wet_step{x:Nat->Rat} {l:List Nat} {i g:Nat} (h:l[i]? = some g):wet x (l.take (i+1))=(wet x (l.take i) && decide (x g≠0)):=by
 obtain⟨hlt,rfl⟩:=List.getElem?_eq_some_iff.1 h;unfold wet;rw[List.take_succ_eq_append_getElem hlt,List.all_append];simp
section
variable {ds:List Int} {n m:Nat} {place:Nat->Nat} {a x t:Nat->Rat} {op:Nat->Bool} {part:Rat}
theorem dry_way(he:EndsN ds) (hd:∀y∈ds,y < ds.length) (hn:n=ds.length) {p:Nat} (hp:p < n):dryQ (onN ds) n m place x t p=!wet (restQ (onN ds) n m place x t) (way ds p):=by
 cases hw:wet (restQ (onN ds) n m place x t) (way ds p) with
 | true =>
  rw[Bool.not_true];cases hdq:dryQ (onN ds) n m place x t p with
  | false=>rfl
  | true =>
   exfalso;obtain⟨g,-,h2,h3⟩:=dry_iff.1 hdq;have h4:=of_decide_eq_true ((List.all_eq_true.1 hw) g ((way_on he).2 h2));exact h4 h3
 | false =>
  rw[Bool.not_false];obtain⟨g,h1,h2⟩:=List.all_eq_false.1 hw;have h3:restQ (onN ds) n m place x t g=0:=by simpa using h2
  refine dry_iff.2 ⟨g,?_,(way_on he).1 h1,h3⟩;obtain⟨j,hj⟩:=(on_iff he).1 ((way_on he).1 h1);have:=step_bound hd (hn▸hp) j;omega
theorem open_way(he:EndsN ds) (hd:∀y∈ds,y < ds.length) (hn:n=ds.length) {k:Nat} (hp:place k < n):openQ (onN ds) n m place x t op part k=((op k && decide (part≠1)) && wet (restQ (onN ds) n m place x t) (way ds (place k))):=by
 unfold openQ;rw[dry_way he hd hn hp,Bool.not_not]
end
end Go.Proofs.YtanhhdndgkhcfaaGreatDoor
