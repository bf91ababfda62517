/- Part 19 of the proof of lawSpec.card: OrdAllotG. Conditions: those of each theorem. -/
import Derived.Test.YtanhhdndgkhcfaaGreatDoorSp01
import Derived.Test.YtanhhdndgkhcfaaGreatDoorSp17
import Derived.Test.YtanhhdndgkhcfaaGreatDoorSp18
set_option maxRecDepth 1000000
set_option maxHeartbeats 2000000
namespace Go.Proofs.YtanhhdndgkhcfaaGreatDoor
open Go.RowKit
attribute [local go_sem ↓] run_eql_rat' run_neq_rat'
theorem wpIn_region_then{P:Program} {Q:Exit->Act->World->Prop} {S:World->Prop} (R:Act->World->Prop) {id:Nat} {ops:Array Oper} {a:Act} {w:World} (hm:P.follows .mixedOrders=true)
  (h:wpAnyH P .any ops (OnlyN fun _ a w=>R a w) S ops.size (Array.replicate ops.size false) a w.drew) (hc:∀a w,R a w->Q .normal a w):(Code.region id ops true).wpIn Fence.wide 0 P Q a w :=
 wpIn_wide.2 (wp_mono (wp_region_held hm h) (fun e a' w' hq=>by cases e <;> first | exact hc _ _ hq | exact hq.elim))
theorem ex_fun{P:Prop} {L:List Value} {F:(Nat->Value)->List Value} {ds:List Deferred} (hP:P) (h:F (fun i=>L.getD i undef)=L):∃u:Nat->Value,P/\({ tmps:=L.toArray,defers:=ds } : Act)={ tmps:=(F u).toArray,defers:=ds }:=⟨_,hP,by rw[h]⟩
theorem all_fun{Q:Act->Prop} {L:List Value} {F:(Nat->Value)->List Value} {ds:List Deferred} (h:∀u,Q { tmps:=(F u).toArray,defers:=ds }) (e:F (fun i=>L.getD i undef)=L):Q { tmps:=L.toArray,defers:=ds }:=by
 have:=h fun i=>L.getD i undef
 rwa [e] at this
theorem no4{i a b c d:Nat} (h:i≠a/\i≠b/\i≠c) (h4:d≠i):¬(i=a\/i=b\/i=c\/i=d):=by
 rintro(e | e | e | e)
 ·exact h.1 e
 ·exact h.2.1 e
 ·exact h.2.2 e
 ·exact h4 e.symm
set_option linter.unusedSimpArgs false in
theorem allotL4{Q:Exit->Act->World->Prop} (rs:List Rc) (dl:List Int) (rp gp cp:Option Addr) (rc gc cc ng sb cb bl la tk bo ob bp0 n m base N kx0:Nat) (cs:List Cl) (x t0:Nat->Rat) (op0:Nat->Bool) (p0:Rat) (r:Int) (w0:World) (ds0:List Deferred) (c0 c1 c4 c5 c6 c8 c10 c11 c12 c13 c14 c16 c17 c31 c32 c33 c34 c35 c36 c37 c38 c39 c40 c41 c42 c43 c44 c45 c46 c47 c48 c49 c50 c51 c52 c53 c54 c55 c56 c57 c58 c59 c60 c61 c62 c63 c64 c65 c66 c67 c68 c69 c70 c71 c72 c73 c74 c75 c76 c77 c78 c79 c80 c81 c82 c83 c84 c85 c86 c87 c88 c89 c195 c196 c20 c21 c22 c23 c24 c25 c26 c27 c28 c29 c30 c90 c91 c92 c93 c94 c95 c96 c97 c98 c99 c100 c101 c102 c103 c104 c105 c106 c107 c108 c109 c110 c111 c112 c113 c114 c115 c116 c117 c118 c119 c120 c121 c122 c123 c124 c125 c126 c127 c128 c129 c130 c131 c132 c133 c134 c135 c136 c137 c138 c139 c140 c141 c142 c143 c144 c145 c146 c147 c148 c149 c150 c151 c152 c153 c154 c155 c156 c157 c158 c159 c160 c161 c162 c163 c164 c165 c166 c167 c168 c169 c170 c171 c172 c173 c174 c175 c176 c177 c178 c179 c180 c181 c182 c183 c184 c185 c186 c187 c188 c189 c190 c191 c192 c193 c194:Value)
  (hR:RivAt N w0 rs rp rc) (HA:At N w0 5 claimCells cs cp cc) (hm:cs.length=m) (hm2:m<=12) (hdl:dl=rs.map (·.down)) (hok:RivOK dl) (hn:rs.length=n) (hn2:n<=8) (hcl:ClOK n cs)
  (hN:N<=sb/\N<=cb/\N<=bl/\N<=la/\N<=tk/\N<=bo/\N<=ob/\N<=bp0) (hb:base<=w0.heap.size)
  (hsb:w0.heap[sb]? = some (.cells #[.slice rp n rc,.slice gp ng gc] 65 (0,0))) (hcb:w0.heap[cb]? = some (.cells #[.slice cp m cc] 26 (0,0))) (hbl:w0.heap[bl]? = some (.cells #[.slice (some ⟨la,0,none⟩) n n] 23 (0,0))) (hbo:w0.heap[bo]? = some (.cells #[.slice (some ⟨ob,0,none⟩) m m] 104 (0,0)))
  (hst:OwnR w0 la (repL n (restQ (onN dl) n m (placeK cs) x t0))/\OwnR w0 tk (repL m t0)/\OwnB w0 ob (bL m op0)/\w0.heap[bp0]? = some (.cells #[.bool (repR p0).neg,.string (repR p0).num,.string (repR p0).den] 68 (0,0))/\Marks base w0 ds0) (hpl:InvQ (onN dl) n m (placeK cs) (rankK cs) (amtK cs) x r t0 op0 p0/\SzQ (onN dl) n m (placeK cs) x t0 p0 265 (leftN (rankK cs) r op0 m) kx0)
  (hne:(tk≠la/\tk≠ob/\la≠ob)/\(sb≠tk/\sb≠la/\sb≠ob)/\(cb≠tk/\cb≠la/\cb≠ob)/\(bl≠tk/\bl≠la/\bl≠ob)/\(bo≠tk/\bo≠la/\bo≠ob)/\(bp0≠tk/\bp0≠la/\bp0≠ob/\bp0≠sb/\bp0≠cb/\bp0≠bl/\bp0≠bo))
  (hexit:∀(t:Nat->Rat) (op:Nat->Bool) (p:Rat) (kx:Nat) (ds:List Deferred) (u:Nat->Value) (w':World),OwnR w' la (repL n (restQ (onN dl) n m (placeK cs) x t))->OwnR w' tk (repL m t)->Marks base w' ds->InvQ (onN dl) n m (placeK cs) (rankK cs) (amtK cs) x r t op p/\SzQ (onN dl) n m (placeK cs) x t p 265 (leftN (rankK cs) r op m) kx->someQ m op=false->Turned (fun i=>i=tk\/i=la\/i=ob\/i=bp0) w0 w'->Q (.exit 6) { tmps:=(c0::c1::.pointer (some ⟨sb,0,none⟩)::.pointer (some ⟨cb,0,none⟩)::c4::c5::c6::.pointer (some ⟨bl,0,none⟩)::c8::.slice (some ⟨tk,0,none⟩) m m::c10::c11::c12::c13::c14::.pointer (some ⟨bo,0,none⟩)::c16::c17::.func (.func 58) #[] #[.pointer (some ⟨bo,0,none⟩)]::u 19::u 20::u 21::u 22::u 23::u 24::u 25::u 26::u 27::u 28::u 29::u 30::c31::c32::c33::c34::c35::c36::c37::c38::c39::c40::c41::c42::c43::c44::c45::c46::c47::c48::c49::c50::c51::c52::c53::c54::c55::c56::c57::c58::c59::c60::c61::c62::c63::c64::c65::c66::c67::c68::c69::c70::c71::c72::c73::c74::c75::c76::c77::c78::c79::c80::c81::c82::c83::c84::c85::c86::c87::c88::c89::u 90::u 91::u 92::u 93::u 94::u 95::u 96::u 97::u 98::u 99::u 100::u 101::u 102::u 103::u 104::u 105::u 106::u 107::u 108::u 109::u 110::u 111::u 112::u 113::u 114::u 115::u 116::u 117::u 118::u 119::u 120::u 121::u 122::u 123::u 124::u 125::u 126::u 127::u 128::u 129::u 130::u 131::u 132::u 133::u 134::u 135::u 136::u 137::u 138::u 139::u 140::u 141::u 142::u 143::u 144::u 145::u 146::u 147::u 148::u 149::u 150::u 151::u 152::u 153::u 154::u 155::u 156::u 157::u 158::u 159::u 160::u 161::u 162::u 163::u 164::u 165::u 166::u 167::u 168::u 169::u 170::u 171::u 172::u 173::u 174::u 175::u 176::u 177::u 178::u 179::u 180::u 181::u 182::u 183::u 184::u 185::u 186::u 187::u 188::u 189::u 190::u 191::u 192::u 193::u 194::c195::c196::[]).toArray,defers:=ds } w') :
  Code.wpIn Fence.wide 0 Tryz.prog (Code.loop (aBody 6)) Q { tmps:=(c0::c1::.pointer (some ⟨sb,0,none⟩)::.pointer (some ⟨cb,0,none⟩)::c4::c5::c6::.pointer (some ⟨bl,0,none⟩)::c8::.slice (some ⟨tk,0,none⟩) m m::c10::c11::c12::c13::c14::.pointer (some ⟨bo,0,none⟩)::c16::c17::.func (.func 58) #[] #[.pointer (some ⟨bo,0,none⟩)]::.pointer (some ⟨bp0,0,none⟩)::c20::c21::c22::c23::c24::c25::c26::c27::c28::c29::c30::c31::c32::c33::c34::c35::c36::c37::c38::c39::c40::c41::c42::c43::c44::c45::c46::c47::c48::c49::c50::c51::c52::c53::c54::c55::c56::c57::c58::c59::c60::c61::c62::c63::c64::c65::c66::c67::c68::c69::c70::c71::c72::c73::c74::c75::c76::c77::c78::c79::c80::c81::c82::c83::c84::c85::c86::c87::c88::c89::c90::c91::c92::c93::c94::c95::c96::c97::c98::c99::c100::c101::c102::c103::c104::c105::c106::c107::c108::c109::c110::c111::c112::c113::c114::c115::c116::c117::c118::c119::c120::c121::c122::c123::c124::c125::c126::c127::c128::c129::c130::c131::c132::c133::c134::c135::c136::c137::c138::c139::c140::c141::c142::c143::c144::c145::c146::c147::c148::c149::c150::c151::c152::c153::c154::c155::c156::c157::c158::c159::c160::c161::c162::c163::c164::c165::c166::c167::c168::c169::c170::c171::c172::c173::c174::c175::c176::c177::c178::c179::c180::c181::c182::c183::c184::c185::c186::c187::c188::c189::c190::c191::c192::c193::c194::c195::c196::[]).toArray,defers:=ds0 } w0:=by
 have HNE:=zh (And.intro hne hN);have HHA:=zh HA;have HHR:=zh hR;have HOK:=zh hok;have HCL:=zh hcl;have HMM:=zh hm;have HNN:=zh hn;have HDL:=zh hdl;have HDN:Hid (dl.length=n):=zh (by rw[hdl,List.length_map,hn])
 have HBX:=zh (And.intro hsb (And.intro hcb (And.intro hbl hbo)));have HA0:Hid (∀k,k < m->0<=amtK cs k):=zh fun k _=>amtK_nonneg (fun c hc=>(hcl c hc).2.2.1) k
 have HAB:Hid (∀op g,BytesQ (wantQ (onN dl) m (placeK cs) (amtK cs) op g) 265):=zh fun op g=>(want_bytes (b:=20) (fun k _=>amtK_bytes (fun c hc=>(hcl c hc).2.2.2) k) op g).mono (by omega)
 have l1:=getElem?_lt hsb;have l2:=getElem?_lt hcb;have l3:=getElem?_lt hbl;have l4:=getElem?_lt hbo;have l5:=hst.1.lt;have l6:=hst.2.1.lt;have l7:=hst.2.2.1.lt;have l8:=getElem?_lt hst.2.2.2.1;have HLL:=zh (And.intro l1 (And.intro l2 (And.intro l3 (And.intro l4 (And.intro l5 (And.intro l6 (And.intro l7 l8)))))));have HST:=zh (And.intro hst hpl);have HB:=zh hb;have HM2:=zh hm2;have HN2:=zh hn2;have HLN:Hid (N<=w0.heap.size):=zh (Nat.le_trans hN.1 (Nat.le_of_lt l1));have HNO:Hid (∀k,k < N->¬(k=tk\/k=la\/k=ob\/k=bp0)):=zh (by
  obtain⟨-,-,-,h1,h2,-,h3,h4⟩:=hN;clear hne hst hpl;intro k hk;omega)
 clear HA hR hok hcl hm hn hdl hne hN hsb hcb hbl hbo hst hpl hb hm2 hn2 l1 l2 l3 l4 l5 l6 l7 l8;obtain⟨I,hI⟩ : ∃I:Act->World->Prop,I=fun a w'=>∃(bp:Nat) (t:Nat->Rat) (op:Nat->Bool) (p:Rat) (kx:Nat) (ds:List Deferred) (u:Nat->Value),Hid (((OwnR w' la (repL n (restQ (onN dl) n m (placeK cs) x t))/\OwnR w' tk (repL m t)/\OwnB w' ob (bL m op)/\w'.heap[bp]? = some (.cells #[.bool (repR p).neg,.string (repR p).num,.string (repR p).den] 68 (0,0))/\Marks base w' ds)/\(bp=bp0\/w0.heap.size<=bp)/\InvQ (onN dl) n m (placeK cs) (rankK cs) (amtK cs) x r t op p/\SzQ (onN dl) n m (placeK cs) x t p 265 (leftN (rankK cs) r op m) kx)/\Turned (fun i=>i=tk\/i=la\/i=ob\/i=bp0) w0 w')/\a={ tmps:=(c0::c1::.pointer (some ⟨sb,0,none⟩)::.pointer (some ⟨cb,0,none⟩)::c4::c5::c6::.pointer (some ⟨bl,0,none⟩)::c8::.slice (some ⟨tk,0,none⟩) m m::c10::c11::c12::c13::c14::.pointer (some ⟨bo,0,none⟩)::c16::c17::.func (.func 58) #[] #[.pointer (some ⟨bo,0,none⟩)]::.pointer (some ⟨bp,0,none⟩)::u 20::u 21::u 22::u 23::u 24::u 25::u 26::u 27::u 28::u 29::u 30::c31::c32::c33::c34::c35::c36::c37::c38::c39::c40::c41::c42::c43::c44::c45::c46::c47::c48::c49::c50::c51::c52::c53::c54::c55::c56::c57::c58::c59::c60::c61::c62::c63::c64::c65::c66::c67::c68::c69::c70::c71::c72::c73::c74::c75::c76::c77::c78::c79::c80::c81::c82::c83::c84::c85::c86::c87::c88::c89::u 90::u 91::u 92::u 93::u 94::u 95::u 96::u 97::u 98::u 99::u 100::u 101::u 102::u 103::u 104::u 105::u 106::u 107::u 108::u 109::u 110::u 111::u 112::u 113::u 114::u 115::u 116::u 117::u 118::u 119::u 120::u 121::u 122::u 123::u 124::u 125::u 126::u 127::u 128::u 129::u 130::u 131::u 132::u 133::u 134::u 135::u 136::u 137::u 138::u 139::u 140::u 141::u 142::u 143::u 144::u 145::u 146::u 147::u 148::u 149::u 150::u 151::u 152::u 153::u 154::u 155::u 156::u 157::u 158::u 159::u 160::u 161::u 162::u 163::u 164::u 165::u 166::u 167::u 168::u 169::u 170::u 171::u 172::u 173::u 174::u 175::u 176::u 177::u 178::u 179::u 180::u 181::u 182::u 183::u 184::u 185::u 186::u 187::u 188::u 189::u 190::u 191::u 192::u 193::u 194::c195::c196::[]).toArray,defers:=ds }:=⟨_,rfl⟩
 have HI:=zh hI;refine wpIn_loop I (fun _ w=>openN ob w) ?_ ?_
 ·rw[hI];exact⟨bp0,t0,op0,p0,kx0,ds0,ex_fun (zh ⟨⟨HST.out.1,Or.inl rfl,HST.out.2⟩,Turned.refl _ _⟩) rfl⟩
 ·clear HST;intro a wr hinv;rw[hI] at hinv;clear hI;obtain⟨bp,t,op,p,kx,ds,u,HH,rfl⟩:=hinv;have hT:=HH.out.2;have hbpn:bp≠tk/\bp≠la/\bp≠ob/\bp≠sb/\bp≠cb/\bp≠bl/\bp≠bo:=by
   rcases HH.out.1.2.1 with h | h
   ·rw[h];exact HNE.out.1.2.2.2.2.2
   ·have h2:=HLL.out;refine⟨?_,?_,?_,?_,?_,?_,?_⟩ <;> omega
  have HPN:=zh hbpn;have HW1:Hid (∀A:World,Turned (fun i=>i=tk\/i=la\/i=ob\/i=bp0) w0 A->A.heap[sb]? = some (.cells #[.slice rp n rc,.slice gp ng gc] 65 (0,0))/\A.heap[cb]? = some (.cells #[.slice cp m cc] 26 (0,0))/\A.heap[bl]? = some (.cells #[.slice (some ⟨la,0,none⟩) n n] 23 (0,0))/\A.heap[bo]? = some (.cells #[.slice (some ⟨ob,0,none⟩) m m] 104 (0,0))/\RivAt N A rs rp rc/\At N A 5 claimCells cs cp cc):=zh fun A hA =>
   ⟨(hA.block sb HLL.out.1 (no4 HNE.out.1.2.1 HNE.out.1.2.2.2.2.2.2.2.2.1)).trans HBX.out.1,
   (hA.block cb HLL.out.2.1 (no4 HNE.out.1.2.2.1 HNE.out.1.2.2.2.2.2.2.2.2.2.1)).trans HBX.out.2.1,
   (hA.block bl HLL.out.2.2.1 (no4 HNE.out.1.2.2.2.1 HNE.out.1.2.2.2.2.2.2.2.2.2.2.1)).trans HBX.out.2.2.1,
   (hA.block bo HLL.out.2.2.2.1 (no4 HNE.out.1.2.2.2.2.1 HNE.out.1.2.2.2.2.2.2.2.2.2.2.2)).trans HBX.out.2.2.2,
   HHR.out.same (hA.same HLN.out fun k hk=>HNO.out k hk),HHA.out.same (hA.same HLN.out fun k hk=>HNO.out k hk)⟩
  obtain⟨bxs,bxc,bxl,bxo,-,-⟩:=HW1.out wr hT;have HBB:=zh (And.intro bxs (And.intro bxc (And.intro bxl bxo)));have f0:=cell_of_box bxo;have HON:=zh (openN_of HH.out.1.1.2.2.1);obtain⟨s,hs⟩ : ∃s,someQ m op=s:=⟨_,rfl⟩;have HC:Hid (Calls Tryz.prog 59 #[.slice (some ⟨ob,0,none⟩) m m,.bool true] wr fun e w'=>e=.returned (.bool s)/\w'=wr):=zh (by
   have h:=slContB_any (bL m op) (some ⟨ob,0,none⟩) m wr.heap.size wr (by
    have h2:=HH.out.1.1.2.2.1.at_ HH.out.1.1.2.2.1.lt (by rw[bL_len];have:=HM2.out;unfold maxLen;omega)
    rwa [bL_len] at h2)
   rw[bL_len,bL_some] at h;rw[<- hs];exact h)
  have HS:=zh hs;clear hs bxs bxc bxl bxo hbpn hT
  conv=>arg 4;whnf
  cases s
  ·gi_wp2_with (refine⟨trivial,rfl,(callsIn_wide.2 HC.out).mono ?_⟩;rintro e w1 ⟨rfl,hw1⟩;obtain rfl:wr=w1:=hw1.symm)
   have hq:=fun v=>hexit t op p kx ds v wr HH.out.1.1.1 HH.out.1.1.2.1 HH.out.1.1.2.2.2.2 HH.out.1.2.2 HS.out HH.out.2
   refine all_fun (Q:=fun a=>Q (.exit 6) a wr) hq ?_
   rfl
  ·gi_wp2_with (refine⟨trivial,rfl,(callsIn_wide.2 HC.out).mono ?_⟩;rintro e w1 ⟨rfl,hw1⟩;obtain rfl:wr=w1:=hw1.symm)
   obtain⟨y,hy⟩ : ∃y,wantQ (onN dl) m (placeK cs) (amtK cs) op=y:=⟨_,rfl⟩;obtain⟨xx,hxx⟩ : ∃xx,restQ (onN dl) n m (placeK cs) x t=xx:=⟨_,rfl⟩;have HY:=zh hy;have HXX:=zh hxx;have HSQ:=zh HH.out.1.2.2.2;have HYB:Hid (∀g,BytesQ (y g) 265):=zh fun g=>by rw[<- hy];exact HAB.out op g
   have HXB:Hid (∀g,BytesQ (xx g) kx):=zh fun g=>by rw[<- hxx];exact HSQ.out.rest g
   have HWANT:Hid (∀(V:World) (D:Nat),Turned (fun _=>False) wr V->V.heap.size=D+3->V.cell? ⟨D,0,none⟩=some (.slice cp m cc)->V.cell? ⟨D+1,0,none⟩=some (.func (.func 58) #[] #[.pointer (some ⟨bo,0,none⟩)])->V.cell? ⟨D+1+1,0,none⟩=some (.func (.func 62) #[] #[.pointer (some ⟨cb,0,none⟩)]) ->
     Calls Tryz.prog 60 #[.slice rp n rc,.func (.func 101) #[] #[.pointer (some ⟨D,0,none⟩),.pointer (some ⟨D+1,0,none⟩),.pointer (some ⟨D+1+1,0,none⟩)]] V fun e w'=>∃wa,e=.returned (.slice (some ⟨wa,0,none⟩) n n)/\V.heap.size<=wa/\OwnR w' wa (repL n y)/\Turned (fun _=>False) V w'):=zh fun V D hV h0 h1 h2 h3=>by
    have hq:=HW1.out wr HH.out.2;have hNV:N<=V.heap.size:=Nat.le_trans HLN.out (Nat.le_trans HH.out.2.size hV.size);rw[<- hy];exact want_any rs dl cs rp cp rc cc n m bo ob cb D op V ((hq.2.2.2.2.1.turned hV).mono hNV) ((hq.2.2.2.2.2.turned hV).mono hNV) HMM.out HM2.out HDL.out HOK.out HNN.out HN2.out HCL.out (keepB hV hq.2.2.2.1) (HH.out.1.1.2.2.1.turned hV id) (keepB hV hq.2.1) h0 h1 h2 h3
   have hS0:wr.drew.cell? ⟨sb,0,none⟩=some (.slice rp n rc)/\wr.drew.cell? ⟨cb,0,none⟩=some (.slice cp m cc):=by
    have hq:=HW1.out wr HH.out.2;exact⟨cellT ((zr wr).drew) id (by simp[World.cell?,hq.1]),cellT ((zr wr).drew) id (cell_of_box hq.2.1)⟩
   have HT1:=zh ((zr wr).drew);clear hy hxx f0 HC;refine wpIn_wide.2 (wp_region_plain (S:=fun V=>V.cell? ⟨sb,0,none⟩=some (.slice rp n rc)/\V.cell? ⟨cb,0,none⟩=some (.slice cp m cc)) (by kernel_rfl) ?_)
   obtain⟨w1,hw1⟩ : ∃w,w=wr.drew:=⟨_,rfl⟩;rw[<- hw1] at hS0 HT1 ⊢;clear hw1;refine zt 0 (.pointer (some ⟨sb,0,none⟩)) rfl (Or.inl ⟨by kernel_rfl,fun V hV=>?_⟩) hS0 ?_
   ·obtain⟨f0,f1⟩:=hV;go_simp
   refine zt 1 (.slice rp n rc) rfl (Or.inl ⟨by kernel_rfl,fun V hV=>?_⟩) hS0 ?_
   ·obtain⟨f0,f1⟩:=hV;go_simp
   refine zt 2 (.slice cp m cc) rfl (Or.inl ⟨by kernel_rfl,fun V hV=>?_⟩) hS0 ?_
   ·obtain⟨f0,f1⟩:=hV;go_simp
   refine zt 3 (.func (.func 58) #[] #[.pointer (some ⟨bo,0,none⟩)]) rfl (Or.inl ⟨by kernel_rfl,fun V hV=>?_⟩) hS0 ?_
   ·obtain⟨f0,f1⟩:=hV;go_simp
   refine zt 4 (.func (.func 62) #[] #[.pointer (some ⟨cb,0,none⟩)]) rfl (Or.inl ⟨by kernel_rfl,fun V hV=>?_⟩) hS0 ?_
   ·obtain⟨f0,f1⟩:=hV;go_simp
   simp only[zz0,zz1,zz2,Act.put,zz3,zz4,zz5];refine wpAnyH_ready (rs:=[5]) (by kernel_rfl) (by simp) ?_
   refine .cons (o:=_) rfl (fun K hK=>?_) .nil
   go_simp;refine(hAt_any cp m cc 58 62 #[.pointer (some ⟨bo,0,none⟩)] #[.pointer (some ⟨cb,0,none⟩)] w1).mono ?_;rintro e w2 ⟨rfl,t2,d1,d2,d3,hsz⟩;have hS1:w2.cell? ⟨sb,0,none⟩=some (.slice rp n rc)/\w2.cell? ⟨cb,0,none⟩=some (.slice cp m cc):=⟨cellT t2 id hS0.1,cellT t2 id hS0.2⟩;have HT2:=zh (HT1.out.trans t2);obtain⟨D,hD⟩ : ∃D,w1.heap.size=D:=⟨_,rfl⟩;rw[hD] at d1 d2 d3 hsz ⊢;have HWN:=zh (HWANT.out w2 D HT2.out hsz d1 d2 d3);refine hK.out _ _ hS1 (fun _=>?_)
   clear hK t2 hS0 d1 d2 d3 hsz hD;refine wpAnyH_ready (rs:=[6]) (by kernel_rfl) (by simp) ?_
   refine .cons (o:=_) rfl (fun K hK=>?_) .nil
   go_simp;refine HWN.out.mono ?_;rintro e w3 ⟨wa,rfl,hwa,hww,t3⟩;have hS2:w3.cell? ⟨sb,0,none⟩=some (.slice rp n rc)/\w3.cell? ⟨cb,0,none⟩=some (.slice cp m cc):=⟨cellT t3 id hS1.1,cellT t3 id hS1.2⟩;have HT3:=zh (HT2.out.trans t3);have HWA:=zh (And.intro (Nat.le_trans HT2.out.size hwa) hww);refine hK.out _ _ hS2 (fun _=>?_)
   clear hK t3 hS1 hwa hww HWN HWANT HT1 HT2;refine zt 7 (.slice (some ⟨wa,0,none⟩) n n) rfl (Or.inl ⟨by kernel_rfl,fun V hV=>?_⟩) hS2 ?_
   ·obtain⟨f0,f1⟩:=hV;go_simp
   simp only[zz0,zz1,zz2,Act.put,zz3,zz4,zz5];refine wpAnyH_done (by kernel_rfl) ?_ _
   unfold OnlyN;clear hS2
   gi_wp2_with fail
   have HPB:=zh HSQ.out.part;have HKX:=zh HSQ.out.bound;obtain⟨⟨pn,px,pd⟩,hp⟩ : ∃v,repR p=v:=⟨_,rfl⟩;obtain⟨⟨on,ox,od⟩,ho⟩ : ∃v,repR (1:Rat)=v:=⟨_,rfl⟩;obtain⟨⟨rn,rx,rd⟩,hr⟩ : ∃v,repR (1-p)=v:=⟨_,rfl⟩;have HONE:Hid (∀W,Calls Tryz.prog 32 #[.int .i64 1] W fun e w'=>e=.returned (.agg #[.bool on,.string ox,.string od])/\Turned (fun _=>False) W w'):=zh (fun W=>by
    have:=qInt_any 1 W (by decide)
    rw[show((1:Nat):Rat)=1 by simp,ho] at this
    exact this)
   have HSUB:=zh (fun W=>qSub_any ⟨on,ox,od⟩ ⟨pn,px,pd⟩ (kx+265) W (by omega) (by have:=HKX.out;omega) (by rw[<- ho];exact((bytes_one 0).mono (by omega)).szr) (by rw[<- hp];exact(HPB.out.mono (by omega)).szr))
   rw[show qR (⟨on,ox,od⟩ : Rv)=1 by rw[<- ho,qR_repR],show qR (⟨pn,px,pd⟩ : Rv)=p by rw[<- hp,qR_repR],hr] at HSUB
   have hbx:=keepB HT3.out HH.out.1.1.2.2.2.1;rw[hp] at hbx;have HBP:=zh hbx;have HBL:=zh (getElem?_lt hbx);have HPP:=zh hp;have HRR:=zh hr;obtain⟨g0,g1,g2,-,-,-⟩:=box3 (keepB ((zr w3).drew) hbx);have hS0:w3.drew.cell? ⟨bp,0,none⟩=some (.bool pn)/\w3.drew.cell? ⟨bp,1,none⟩=some (.string px)/\w3.drew.cell? ⟨bp,2,none⟩=some (.string pd):=⟨g0,g1,g2⟩;have HA0:=zh ((zr w3).drew);clear hp ho hr hbx g0 g1 g2;refine wpIn_region_then (R:=fun a w'=>∃(bg:Nat) (u:Nat->Value),Hid (w3.heap.size<=bg/\w'.heap[bg]? = some (.cells #[.bool rn,.string rx,.string rd] 68 (0,0))/\Turned (fun _=>False) w3 w')/\a={ tmps:=(c0::c1::.pointer (some ⟨sb,0,none⟩)::.pointer (some ⟨cb,0,none⟩)::c4::c5::c6::.pointer (some ⟨bl,0,none⟩)::c8::.slice (some ⟨tk,0,none⟩) m m::c10::c11::c12::c13::c14::.pointer (some ⟨bo,0,none⟩)::c16::c17::.func (.func 58) #[] #[.pointer (some ⟨bo,0,none⟩)]::.pointer (some ⟨bp,0,none⟩)::.slice (some ⟨wa,0,none⟩) n n::.pointer (some ⟨bg,0,none⟩)::u 22::u 23::u 24::u 25::u 26::u 27::u 28::u 29::u 30::c31::c32::c33::c34::c35::c36::c37::c38::c39::c40::c41::c42::c43::c44::c45::c46::c47::c48::c49::c50::c51::c52::c53::c54::c55::c56::c57::c58::c59::c60::c61::c62::c63::c64::c65::c66::c67::c68::c69::c70::c71::c72::c73::c74::c75::c76::c77::c78::c79::c80::c81::c82::c83::c84::c85::c86::c87::c88::c89::u 90::u 91::u 92::u 93::u 94::u 95::u 96::u 97::u 98::u 99::u 100::u 101::u 102::u 103::u 104::u 105::u 106::u 107::u 108::u 109::u 110::u 111::u 112::u 113::u 114::u 115::u 116::u 117::u 118::u 119::u 120::u 121::u 122::u 123::u 124::u 125::u 126::u 127::u 128::u 129::u 130::u 131::u 132::u 133::u 134::u 135::u 136::u 137::u 138::u 139::u 140::u 141::u 142::u 143::u 144::u 145::u 146::u 147::u 148::u 149::u 150::u 151::u 152::u 153::u 154::u 155::u 156::u 157::u 158::u 159::u 160::u 161::u 162::u 163::u 164::u 165::u 166::u 167::u 168::u 169::u 170::u 171::u 172::u 173::u 174::u 175::u 176::u 177::u 178::u 179::u 180::u 181::u 182::u 183::u 184::u 185::u 186::u 187::u 188::u 189::u 190::u 191::u 192::u 193::u 194::c195::c196::[]).toArray,defers:=ds }) (S:=fun V=>V.cell? ⟨bp,0,none⟩=some (.bool pn)/\V.cell? ⟨bp,1,none⟩=some (.string px)/\V.cell? ⟨bp,2,none⟩=some (.string pd)) (by kernel_rfl) ?_ ?_
   ·obtain⟨w4,hw4⟩ : ∃w,w=w3.drew:=⟨_,rfl⟩;rw[<- hw4] at hS0 HA0 ⊢;clear hw4 hexit;refine zt 1 (.agg #[.bool pn,.string px,.string pd]) rfl (Or.inl ⟨by kernel_rfl,fun V hV=>?_⟩) hS0 ?_
    ·obtain⟨f0,f1,f2⟩:=hV;go_simp
    simp only[zz0,zz1,zz2,Act.put,zz3,zz4,zz5];refine wpAnyH_ready (rs:=[0,3]) (by kernel_rfl) (by simp) ?_
    refine .cons (o:=_) rfl (fun K hK=>?_) (.cons (o:=_) rfl (fun K hK=>?_) .nil)
    ·skip
     go_simp;refine(HONE.out _).mono ?_;rintro e w5 ⟨rfl,t4⟩;have hS1:w5.cell? ⟨bp,0,none⟩=some (.bool pn)/\w5.cell? ⟨bp,1,none⟩=some (.string px)/\w5.cell? ⟨bp,2,none⟩=some (.string pd):=⟨cellT t4 id hS0.1,cellT t4 id hS0.2.1,cellT t4 id hS0.2.2⟩;have HA1:=zh (HA0.out.trans t4);refine hK.out _ _ hS1 (fun _=>?_)
     clear hK t4 hS0;refine wpAnyH_ready (rs:=[2,3]) (by kernel_rfl) (by simp) ?_
     refine .cons (o:=_) rfl (fun K hK=>?_) (.cons (o:=_) rfl (fun K hK=>?_) .nil)
     ·skip
      go_simp;refine(HSUB.out _).mono ?_;rintro e w6 ⟨rfl,t4⟩;have hS2:w6.cell? ⟨bp,0,none⟩=some (.bool pn)/\w6.cell? ⟨bp,1,none⟩=some (.string px)/\w6.cell? ⟨bp,2,none⟩=some (.string pd):=⟨cellT t4 id hS1.1,cellT t4 id hS1.2.1,cellT t4 id hS1.2.2⟩;have HA2:=zh (HA1.out.trans t4);refine hK.out _ _ hS2 (fun _=>?_)
      clear hK t4 hS1;refine wpAnyH_ready (rs:=[3]) (by kernel_rfl) (by simp) ?_
      refine .cons (o:=_) rfl (fun K hK=>?_) .nil
      go_simp;have TA:=(zr w6).alloc (.cells #[.bool false,.string ⟨#[]⟩,.string ⟨#[]⟩] 68);have z1:(w6.alloc (.cells #[.bool false,.string ⟨#[]⟩,.string ⟨#[]⟩] 68)).heap[w6.heap.size]? = some (.cells #[.bool false,.string ⟨#[]⟩,.string ⟨#[]⟩] 68 (0,0)):=World.alloc_heap_new w6 (.cells #[.bool false,.string ⟨#[]⟩,.string ⟨#[]⟩] 68);have hDB:w3.heap.size<=w6.heap.size:=HA2.out.size;obtain⟨D,hD⟩ : ∃D,w6.heap.size=D:=⟨_,rfl⟩;obtain⟨w7,hw⟩ : ∃w,w=w6.alloc (.cells #[.bool false,.string ⟨#[]⟩,.string ⟨#[]⟩] 68):=⟨_,rfl⟩;rw[<- hw] at TA z1 ⊢;rw[hD] at z1 hDB ⊢;clear hw hD;have hS3:w7.cell? ⟨bp,0,none⟩=some (.bool pn)/\w7.cell? ⟨bp,1,none⟩=some (.string px)/\w7.cell? ⟨bp,2,none⟩=some (.string pd):=⟨cellT TA id hS2.1,cellT TA id hS2.2.1,cellT TA id hS2.2.2⟩;have HA3:=zh (HA2.out.trans TA);have HZ3:=zh z1;clear TA z1;refine hK.out _ _ hS3 (fun _=>?_)
      clear hK hS2;refine wpAnyH_ready (rs:=[4]) (by kernel_rfl) (by simp) ?_
      refine .cons (o:=_) rfl (fun K hK=>?_) .nil
      obtain⟨d0,d1,d2,d3,d4,d5⟩:=box3 HZ3.out;go_simp;have hst:=set3 HZ3.out (.bool rn) (.string rx) (.string rd);obtain⟨w9,hw9⟩ : ∃w9,((w7.setCell ⟨D,0,none⟩ (.bool rn)).setCell ⟨D,1,none⟩ (.string rx)).setCell ⟨D,2,none⟩ (.string rd)=w9:=⟨_,rfl⟩;rw[hw9] at hst ⊢;have hbD:¬bp=D:=by have:=HBL.out;omega
      have hS9:w9.cell? ⟨bp,0,none⟩=some (.bool pn)/\w9.cell? ⟨bp,1,none⟩=some (.string px)/\w9.cell? ⟨bp,2,none⟩=some (.string pd):=⟨cellT hst.2 hbD hS3.1,cellT hst.2 hbD hS3.2.1,cellT hst.2 hbD hS3.2.2⟩;have HF:=zh (And.intro hDB (And.intro hst.1 (HA3.out.fresh hst.2 (fun g hg=>by omega))))
      refine hK.out _ _ hS9 (fun _=>?_)
      clear hK d0 d1 d2 d3 d4 d5 hst hw9 hS3;refine wpAnyH_done (by kernel_rfl) ?_ _
      exact⟨D,ex_fun HF rfl⟩
     ·skip
      go_simp;have TA:=(zr w5).alloc (.cells #[.bool false,.string ⟨#[]⟩,.string ⟨#[]⟩] 68);have z1:(w5.alloc (.cells #[.bool false,.string ⟨#[]⟩,.string ⟨#[]⟩] 68)).heap[w5.heap.size]? = some (.cells #[.bool false,.string ⟨#[]⟩,.string ⟨#[]⟩] 68 (0,0)):=World.alloc_heap_new w5 (.cells #[.bool false,.string ⟨#[]⟩,.string ⟨#[]⟩] 68);have hDB:w3.heap.size<=w5.heap.size:=HA1.out.size;obtain⟨D,hD⟩ : ∃D,w5.heap.size=D:=⟨_,rfl⟩;obtain⟨w6,hw⟩ : ∃w,w=w5.alloc (.cells #[.bool false,.string ⟨#[]⟩,.string ⟨#[]⟩] 68):=⟨_,rfl⟩;rw[<- hw] at TA z1 ⊢;rw[hD] at z1 hDB ⊢;clear hw hD;have hS2:w6.cell? ⟨bp,0,none⟩=some (.bool pn)/\w6.cell? ⟨bp,1,none⟩=some (.string px)/\w6.cell? ⟨bp,2,none⟩=some (.string pd):=⟨cellT TA id hS1.1,cellT TA id hS1.2.1,cellT TA id hS1.2.2⟩;have HA2:=zh (HA1.out.trans TA);have HZ2:=zh z1;clear TA z1;refine hK.out _ _ hS2 (fun _=>?_)
      clear hK hS1;refine wpAnyH_ready (rs:=[2]) (by kernel_rfl) (by simp) ?_
      refine .cons (o:=_) rfl (fun K hK=>?_) .nil
      go_simp;refine(HSUB.out _).mono ?_;rintro e w7 ⟨rfl,t4⟩;have hS3:w7.cell? ⟨bp,0,none⟩=some (.bool pn)/\w7.cell? ⟨bp,1,none⟩=some (.string px)/\w7.cell? ⟨bp,2,none⟩=some (.string pd):=⟨cellT t4 id hS2.1,cellT t4 id hS2.2.1,cellT t4 id hS2.2.2⟩;have HA3:=zh (HA2.out.trans t4);have HZ3:=zh (keepB t4 HZ2.out);refine hK.out _ _ hS3 (fun _=>?_)
      clear hK t4 hS2;refine wpAnyH_ready (rs:=[4]) (by kernel_rfl) (by simp) ?_
      refine .cons (o:=_) rfl (fun K hK=>?_) .nil
      obtain⟨d0,d1,d2,d3,d4,d5⟩:=box3 HZ3.out;go_simp;have hst:=set3 HZ3.out (.bool rn) (.string rx) (.string rd);obtain⟨w9,hw9⟩ : ∃w9,((w7.setCell ⟨D,0,none⟩ (.bool rn)).setCell ⟨D,1,none⟩ (.string rx)).setCell ⟨D,2,none⟩ (.string rd)=w9:=⟨_,rfl⟩;rw[hw9] at hst ⊢;have hbD:¬bp=D:=by have:=HBL.out;omega
      have hS9:w9.cell? ⟨bp,0,none⟩=some (.bool pn)/\w9.cell? ⟨bp,1,none⟩=some (.string px)/\w9.cell? ⟨bp,2,none⟩=some (.string pd):=⟨cellT hst.2 hbD hS3.1,cellT hst.2 hbD hS3.2.1,cellT hst.2 hbD hS3.2.2⟩;have HF:=zh (And.intro hDB (And.intro hst.1 (HA3.out.fresh hst.2 (fun g hg=>by omega))))
      refine hK.out _ _ hS9 (fun _=>?_)
      clear hK d0 d1 d2 d3 d4 d5 hst hw9 hS3;refine wpAnyH_done (by kernel_rfl) ?_ _
      exact⟨D,ex_fun HF rfl⟩
    ·skip
     go_simp;have TA:=(zr w4).alloc (.cells #[.bool false,.string ⟨#[]⟩,.string ⟨#[]⟩] 68);have z1:(w4.alloc (.cells #[.bool false,.string ⟨#[]⟩,.string ⟨#[]⟩] 68)).heap[w4.heap.size]? = some (.cells #[.bool false,.string ⟨#[]⟩,.string ⟨#[]⟩] 68 (0,0)):=World.alloc_heap_new w4 (.cells #[.bool false,.string ⟨#[]⟩,.string ⟨#[]⟩] 68);have hDB:w3.heap.size<=w4.heap.size:=HA0.out.size;obtain⟨D,hD⟩ : ∃D,w4.heap.size=D:=⟨_,rfl⟩;obtain⟨w5,hw⟩ : ∃w,w=w4.alloc (.cells #[.bool false,.string ⟨#[]⟩,.string ⟨#[]⟩] 68):=⟨_,rfl⟩;rw[<- hw] at TA z1 ⊢;rw[hD] at z1 hDB ⊢;clear hw hD;have hS1:w5.cell? ⟨bp,0,none⟩=some (.bool pn)/\w5.cell? ⟨bp,1,none⟩=some (.string px)/\w5.cell? ⟨bp,2,none⟩=some (.string pd):=⟨cellT TA id hS0.1,cellT TA id hS0.2.1,cellT TA id hS0.2.2⟩;have HA1:=zh (HA0.out.trans TA);have HZ1:=zh z1;clear TA z1;refine hK.out _ _ hS1 (fun _=>?_)
     clear hK hS0;refine wpAnyH_ready (rs:=[0]) (by kernel_rfl) (by simp) ?_
     refine .cons (o:=_) rfl (fun K hK=>?_) .nil
     go_simp;refine(HONE.out _).mono ?_;rintro e w6 ⟨rfl,t4⟩;have hS2:w6.cell? ⟨bp,0,none⟩=some (.bool pn)/\w6.cell? ⟨bp,1,none⟩=some (.string px)/\w6.cell? ⟨bp,2,none⟩=some (.string pd):=⟨cellT t4 id hS1.1,cellT t4 id hS1.2.1,cellT t4 id hS1.2.2⟩;have HA2:=zh (HA1.out.trans t4);have HZ2:=zh (keepB t4 HZ1.out);refine hK.out _ _ hS2 (fun _=>?_)
     clear hK t4 hS1;refine wpAnyH_ready (rs:=[2]) (by kernel_rfl) (by simp) ?_
     refine .cons (o:=_) rfl (fun K hK=>?_) .nil
     go_simp;refine(HSUB.out _).mono ?_;rintro e w7 ⟨rfl,t4⟩;have hS3:w7.cell? ⟨bp,0,none⟩=some (.bool pn)/\w7.cell? ⟨bp,1,none⟩=some (.string px)/\w7.cell? ⟨bp,2,none⟩=some (.string pd):=⟨cellT t4 id hS2.1,cellT t4 id hS2.2.1,cellT t4 id hS2.2.2⟩;have HA3:=zh (HA2.out.trans t4);have HZ3:=zh (keepB t4 HZ2.out);refine hK.out _ _ hS3 (fun _=>?_)
     clear hK t4 hS2;refine wpAnyH_ready (rs:=[4]) (by kernel_rfl) (by simp) ?_
     refine .cons (o:=_) rfl (fun K hK=>?_) .nil
     obtain⟨d0,d1,d2,d3,d4,d5⟩:=box3 HZ3.out;go_simp;have hst:=set3 HZ3.out (.bool rn) (.string rx) (.string rd);obtain⟨w9,hw9⟩ : ∃w9,((w7.setCell ⟨D,0,none⟩ (.bool rn)).setCell ⟨D,1,none⟩ (.string rx)).setCell ⟨D,2,none⟩ (.string rd)=w9:=⟨_,rfl⟩;rw[hw9] at hst ⊢;have hbD:¬bp=D:=by have:=HBL.out;omega
     have hS9:w9.cell? ⟨bp,0,none⟩=some (.bool pn)/\w9.cell? ⟨bp,1,none⟩=some (.string px)/\w9.cell? ⟨bp,2,none⟩=some (.string pd):=⟨cellT hst.2 hbD hS3.1,cellT hst.2 hbD hS3.2.1,cellT hst.2 hbD hS3.2.2⟩;have HF:=zh (And.intro hDB (And.intro hst.1 (HA3.out.fresh hst.2 (fun g hg=>by omega))))
     refine hK.out _ _ hS9 (fun _=>?_)
     clear hK d0 d1 d2 d3 d4 d5 hst hw9 hS3;refine wpAnyH_done (by kernel_rfl) ?_ _
     exact⟨D,ex_fun HF rfl⟩
   clear hS0 HA0 HONE HSUB;rintro a w4 ⟨bg,v,HG,rfl⟩;have hz3:w0.heap.size<=w3.heap.size:=Nat.le_trans HH.out.2.size HT3.out.size;have hbg3:=HG.out.1;have hwa3:=HWA.out.2.lt;have HTW:Hid (Turned (fun i=>i=tk\/i=la\/i=ob\/i=bp0) w0 w4):=zh (HH.out.2.trans ((HT3.out.trans HG.out.2.2).mono fun _ h=>h.elim))
   have HNB:Hid (bl≠bg/\la≠bg/\tk≠bg/\ob≠bg/\wa≠bg/\bp≠bg/\wa≠la/\wa≠bp):=zh (by
    have h1:=HLL.out;have h2:=HBL.out;have h3:=HWA.out.1;have h4:=getElem?_lt HH.out.1.1.2.2.2.1;have h5:=HH.out.2.size;refine⟨?_,?_,?_,?_,?_,?_,?_,?_⟩ <;> omega)
   have HST4:Hid (OwnR w4 la (repL n xx)/\OwnR w4 tk (repL m t)/\OwnB w4 ob (bL m op)/\w4.heap[bp]? = some (.cells #[.bool pn,.string px,.string pd] 68 (0,0))/\Marks base w4 ds/\OwnR w4 wa (repL n y)):=zh (by
    have ht:=HT3.out.trans HG.out.2.2;refine⟨?_,HH.out.1.1.2.1.turned ht id,HH.out.1.1.2.2.1.turned ht id,keepB HG.out.2.2 HBP.out,HH.out.1.1.2.2.2.2.turned ht fun _ _ h=>h.elim,HWA.out.2.turned HG.out.2.2 id⟩
    rw[<- HXX.out];exact HH.out.1.1.1.turned ht id)
   have HK5:Hid (4*(kx+265)+4<=100000000):=zh (by have:=HKX.out;omega)
   clear hz3 hbg3 hwa3
   gi_wp2_with fail
   refine wpIn_wide.2 (allotL5 n bl la wa bg (kx+265) xx y (1-p) w4 ds _ _ _ _ _ _ _ _ _ _ _ _ _ _ _ _ _ _ _ _ _ _ _ _ _ _ _ _ _ _ _ _ _ _ _ _ _ _ _ _ _ _ _ _ _ _ _ _ _ _ _ _ _ _ _ _ _ _ _ _ _ _ _ _ _ _ _ _ _ _ _ _ _ _ _ _ _ _ _ _ _ _ _ _ _ _ _ _ _ _ _ _ _ _ _ _ _ _ _ _ _ _ _ _ _ _ _ _ _ _ _ _ _ _ _ _ _ _ _ _ _ _ _ _ _ _ _ _ _ _ _ _ _ _ _ _ _ _ _ _ _ _ _ _ _ _ _ _ _ _ _ _ _ _ _ _ _ _ _ _ _ _ _ _ _ _ _ _ _ _ _ _ _ _ _ _ _ _ _ _ _ _ _ _ _ _ _ _ _ _ _ _ (by have:=HN2.out;omega) (HW1.out w4 HTW.out).2.2.1 HST4.out.1 HST4.out.2.2.2.2.2 (by rw[HRR.out];exact HG.out.2.1) HNB.out.1 HNB.out.2.2.2.2.1 HNB.out.2.1
    (fun g=>(HXB.out g).mono (by omega)) (fun g=>(HYB.out g).mono (by omega)) (((bytes_one 0).sub HPB.out).mono (by omega)) HK5.out ?_)
   intro z0 z1 z2 z3 z4 z5 z6 z7 z8 z9 z10 z11 z12 z13 z14 z15 z16 z17 z18 z19 z20 z21 z22 z23 z24 w5 hbg5 t5;obtain⟨G,hG⟩ : ∃G,growTo xx y (1-p) n=G:=⟨_,rfl⟩;have HGB:Hid (BytesQ G (kx+265+1)):=zh (by rw[<- hG,<- HXX.out,<- HY.out];exact HSQ.out.grow (HAB.out op) (by decide) n)
   have HGE:=zh hG;obtain⟨⟨gn,gx,gd⟩,hg⟩ : ∃v,repR G=v:=⟨_,rfl⟩;obtain⟨⟨qn,qx,qd⟩,hq⟩ : ∃v,repR (p+G)=v:=⟨_,rfl⟩;have HADD:=zh (fun W=>qAdd_any ⟨pn,px,pd⟩ ⟨gn,gx,gd⟩ (kx+266) W (by omega) (by have:=HKX.out;omega) (by rw[<- HPP.out];exact(HPB.out.mono (by omega)).szr) (by rw[<- hg];exact HGB.out.szr))
   rw[show qR (⟨pn,px,pd⟩ : Rv)=p by rw[<- HPP.out,qR_repR],show qR (⟨gn,gx,gd⟩ : Rv)=G by rw[<- hg,qR_repR],hq] at HADD
   rw[hG,hg] at hbg5;have HBG5:=zh hbg5;have HT5:=zh t5;have HBP5:Hid (w5.heap[bp]? = some (.cells #[.bool pn,.string px,.string pd] 68 (0,0))):=zh ((t5.block bp (getElem?_lt HST4.out.2.2.2.1) HNB.out.2.2.2.2.2.1).trans HST4.out.2.2.2.1);have HGV:=zh hg;have HQV:=zh hq;obtain⟨g0,g1,g2,-,-,-⟩:=box3 hbg5;obtain⟨m0,m1,m2,-,-,-⟩:=box3 HBP5.out;clear hG hg hq hbg5 t5
   gi_wp2_with (refine⟨trivial,rfl,(callsIn_wide.2 (HADD.out _)).mono ?_⟩;rintro e w6 ⟨rfl,t6⟩;have HBP6:=zh (keepB t6 HBP5.out);have HT6:=zh t6;obtain⟨-,-,-,f0,f1,f2⟩:=box3 HBP6.out;obtain⟨k0,k1,k2,-,-,-⟩:=box3 HBP6.out;clear t6)
   have hst:=set3 HBP6.out (.bool qn) (.string qx) (.string qd);obtain⟨w7,hw7⟩ : ∃w,((w6.setCell ⟨bp,0,none⟩ (.bool qn)).setCell ⟨bp,1,none⟩ (.string qx)).setCell ⟨bp,2,none⟩ (.string qd)=w:=⟨_,rfl⟩;rw[hw7] at hst ⊢;have HT7:Hid (Turned (fun i=>i=bg\/i=bp) w4 w7):=zh ((HT5.out.mono fun _ h=>Or.inl h).trans ((HT6.out.mono fun _ h=>h.elim).trans (hst.2.mono fun _ h=>Or.inr h)))
   have HBP7:=zh hst.1;have HBG7:Hid (w7.heap[bg]? = some (.cells #[.bool gn,.string gx,.string gd] 68 (0,0))):=zh ((hst.2.block bg (getElem?_lt (keepB HT6.out HBG5.out)) (fun h=>HNB.out.2.2.2.2.2.1 h.symm)).trans (keepB HT6.out HBG5.out))
   have HTW7:Hid (Turned (fun i=>i=tk\/i=la\/i=ob\/i=bp0) w0 w7):=zh (HTW.out.cut HT7.out fun i hi=>by
    rcases hi with hi | hi
    ·have h1:=HG.out.1;have h2:=HT3.out.size;have h3:=HH.out.2.size;exact Or.inr (by omega)
    ·rcases HH.out.1.2.1 with h | h
     ·exact Or.inl (Or.inr (Or.inr (Or.inr (hi.trans h))))
     ·exact Or.inr (by omega))
   have HMK7:Hid (Marks base w7 ds):=zh (HST4.out.2.2.2.2.1.turned HT7.out fun i o hi ho y hy=>by
    rcases hi with hi | hi
    ·subst hi;rw[HG.out.2.1] at ho;cases ho
     cases hy
    ·subst hi;rw[HST4.out.2.2.2.1] at ho;cases ho
     cases hy)
   have HLA7:Hid (OwnR w7 la (repL n xx)):=zh (HST4.out.1.turned HT7.out fun h=>h.elim HNB.out.2.1 fun e=>HPN.out.2.1 e.symm)
   have HTK7:Hid (OwnR w7 tk (repL m t)):=zh (HST4.out.2.1.turned HT7.out fun h=>h.elim HNB.out.2.2.1 fun e=>HPN.out.1 e.symm)
   have HOB7:Hid (OwnB w7 ob (bL m op)):=zh (HST4.out.2.2.1.turned HT7.out fun h=>h.elim HNB.out.2.2.2.1 fun e=>HPN.out.2.2.1 e.symm)
   have HWA7:Hid (OwnR w7 wa (repL n y)):=zh (HST4.out.2.2.2.2.2.turned HT7.out fun h=>h.elim HNB.out.2.2.2.2.1 HNB.out.2.2.2.2.2.2.2)
   clear hst hw7 f0 f1 f2 k0 k1 k2 g0 g1 g2 m0 m1 m2 HADD HST4 HT5 HT6 HBP6 HBP5 HBG5;refine wpIn_wide.2 (allotL6 n bl la wa bg (kx+265) xx y G w7 ds _ _ _ _ _ _ _ _ _ _ _ _ _ _ _ _ _ _ _ _ _ _ _ _ _ _ _ _ _ _ _ _ _ _ _ _ _ _ _ _ _ _ _ _ _ _ _ _ _ _ _ _ _ _ _ _ _ _ _ _ _ _ _ _ _ _ _ _ _ _ _ _ _ _ _ _ _ _ _ _ _ _ _ _ _ _ _ _ _ _ _ _ _ _ _ _ _ _ _ _ _ _ _ _ _ _ _ _ _ _ _ _ _ _ _ _ _ _ _ _ _ _ _ _ _ _ _ _ _ _ _ _ _ _ _ _ _ _ _ _ _ _ _ _ _ _ _ _ _ _ _ _ _ _ _ _ _ _ _ _ _ _ _ _ _ _ _ _ _ _ _ _ _ _ _ _ _ _ _ _ _ _ _ _ _ _ _ _ _ _ _ _ (by have:=HN2.out;omega) (HW1.out w7 HTW7.out).2.2.1 HLA7.out HWA7.out (by rw[HGV.out];exact HBG7.out) HNE.out.1.2.2.2.1.2.1 HNB.out.2.2.2.2.2.2.1 (fun h=>HNB.out.2.1 h.symm)
    (fun g=>(HXB.out g).mono (by omega)) (fun g=>(HYB.out g).mono (by omega)) (HGB.out.mono (by omega)) HK5.out ?_)
   intro y0 y1 y2 y3 y4 y5 y6 y7 y8 y9 y10 y11 y12 y13 y14 y15 y16 y17 y18 w8 hla8 t8;obtain⟨x8,hx8⟩ : ∃x8,restQ (onN dl) n m (placeK cs) x (growQ (amtK cs) t op (p+G))=x8:=⟨_,rfl⟩;have HX8:=zh hx8;have hxe:repL n (fun g=>xx g-y g*G)=repL n x8:=repL_congr fun g _=>by rw[<- hx8,rest_grow HH.out.1.2.2.1,HXX.out,HY.out]
   rw[hxe] at hla8;have HLA8:=zh hla8;have HT8:=zh t8;have HTW8:Hid (Turned (fun i=>i=tk\/i=la\/i=ob\/i=bp0) w0 w8):=zh (HTW7.out.trans (t8.mono fun _ h=>Or.inr (Or.inl h)))
   have HBP8:Hid (w8.heap[bp]? = some (.cells #[.bool qn,.string qx,.string qd] 68 (0,0))):=zh ((t8.block bp (getElem?_lt HBP7.out) HPN.out.2.1).trans HBP7.out);have HMK8:Hid (Marks base w8 ds):=zh (HMK7.out.turned t8 fun i o hi ho y hy=>by
    subst hi;have h1:=HLA7.out;unfold OwnR at h1;rw[h1] at ho;cases ho
    cases hy)
   have fc:=cell_of_box (HW1.out w8 HTW8.out).2.1;clear hx8 hxe hla8 t8
   gi_wp2_with fail
   refine allotL7 rs rp gp cp rc gc cc ng sb bl la tk bo ob bp n m (2*kx+532) base N cs x8 t op (p+G) w8 ds _ _ _ _ _ _ _ _ _ _ _ _ _ _ _ _ _ _ _ _ _ _ _ _ _ _ _ _ _ _ _ _ _ _ _ _ _ _ _ _ _ _ _ _ _ _ _ _ _ _ _ _ _ _ _ _ _ _ _ _ _ _ _ _ _ _ _ _ _ _ _ _ _ _ _ _ _ _ _ _ _ _ _ _ _ _ _ _ _ _ _ _ _ _ _ _ _ _ _ _ _ _ _ _ _ _ _ _ _ _ _ _ _ _ _ _ _ _ _ _ _ _ _ _ _ _ _ _ _ _ _ _ _ _ _ _ _ _ _ _ _ _ _ _ _ _ _ _ _ _ _ _ _ _ _ _ _ _ _ _ _ _ _ _ _ _ _ _ _ _ _ _ _ _ _ _ _ _ _ _ _ _ _ _ _ _ _ _ _ (HW1.out w8 HTW8.out).2.2.2.2.1 (HW1.out w8 HTW8.out).2.2.2.2.2 HMM.out (by have:=HM2.out;omega) (by rw[<- HDL.out];exact HOK.out) HNN.out (fun c hc=>⟨(HCL.out c hc).1,(HCL.out c hc).2.1⟩) ?hN7 (Nat.le_trans HB.out HTW8.out.size)
    (HW1.out w8 HTW8.out).1 (HW1.out w8 HTW8.out).2.2.1 HLA8.out (HTK7.out.turned HT8.out HNE.out.1.1.1) (HW1.out w8 HTW8.out).2.2.2.1 (HOB7.out.turned HT8.out fun h=>HNE.out.1.1.2.2 h.symm) (by rw[HQV.out];exact HBP8.out)
    ⟨HNE.out.1.1.2.1,HNE.out.1.2.1.1,HNE.out.1.2.1.2.2,HNE.out.1.2.2.2.1.1,HNE.out.1.2.2.2.1.2.2,fun h=>HNE.out.1.1.1 h.symm,HNE.out.1.1.2.2,HNE.out.1.2.2.2.2.1.1,HNE.out.1.2.2.2.2.1.2.2,HPN.out.1,HPN.out.2.2.1⟩ HMK8.out
    (fun c hc=>⟨(HCL.out c hc).2.2.1,(HCL.out c hc).2.2.2.mono (by omega)⟩) ((HPB.out.add HGB.out).mono (by omega)) ⟨by omega,by have:=HKX.out;omega⟩ ?_
   case hN7 =>
    have h1:=HNE.out.2;have h2:N<=bp:=by
     rcases HH.out.1.2.1 with h | h
     ·rw[h];exact h1.2.2.2.2.2.2.2
     ·exact Nat.le_trans HLN.out h
    exact⟨h1.1,h1.2.2.1,h1.2.2.2.1,h1.2.2.2.2.1,h1.2.2.2.2.2.1,h1.2.2.2.2.2.2.1,h2⟩
   intro ds9 s0 s1 s2 s3 s4 s5 s6 s7 s8 s9 s10 s11 s12 s13 s14 s15 s16 s17 s18 s19 s20 s21 s22 s23 s24 s25 s26 s27 s28 s29 s30 s31 s32 s33 s34 s35 s36 s37 s38 s39 s40 s41 s42 s43 s44 s45 s46 s47 w9 htk9 hob9 hMK9 t9;obtain⟨op9,hop9⟩ : ∃op9,openQ (onN dl) n m (placeK cs) x (growQ (amtK cs) t op (p+G)) op (p+G)=op9:=⟨_,rfl⟩;have hoe:bL m (fun i=>(op i && decide (p+G≠1)) && wet x8 (way (rs.map (·.down)) (placeK cs i)))=bL m op9:=bL_congr fun k hk=>by
    rw[<- hop9,<- HX8.out,<- HDL.out];exact(open_way HOK.out.endsN HOK.out.lt HDN.out.symm (placeK_lt (fun c hc=>⟨(HCL.out c hc).1,(HCL.out c hc).2.1⟩) (by rw[HMM.out];exact hk)).1).symm
   rw[hoe] at hob9;have hre:reachQ (onN dl) n m (placeK cs) (amtK cs) x t op p n=p+G:=by rw[reach_grow,HXX.out,HY.out,HGE.out]
   have hri:=round_inv HA0.out HH.out.1.2.2.1 (some_iff.1 HS.out);rw[hre,hop9] at hri;have hsub:∀k,op9 k=true->op k=true:=fun k hk=>by
    rw[<- hop9] at hk;unfold openQ at hk;rw[Bool.and_assoc,Bool.and_eq_true] at hk;exact hk.1
   have HSZ:=zh (HSQ.out.step (HAB.out op) (by decide) HH.out.1.2.2.1 HGB.out (fun k=>amtK_bytes (fun c hc=>(HCL.out c hc).2.2.2) k) (leftN_round HH.out.1.2.2.1 hsub hri.2))
   have HLT:Hid (cntQ op9 m < cntQ op m):=zh (by
    obtain⟨k,h1,h2,h3⟩:=hri.2;exact cnt_lt k h1 (fun i _ h=>hsub i h) h2 h3)
   have HRI:=zh hri.1;have hbp9:=(t9.block bp (getElem?_lt HBP8.out) (fun h=>h.elim HPN.out.1 HPN.out.2.2.1)).trans HBP8.out
   have T10:=(zr w9).alloc (.cells #[.bool qn,.string qx,.string qd] 68);have hfin:(OwnR (w9.alloc (.cells #[.bool qn,.string qx,.string qd] 68)) la (repL n (restQ (onN dl) n m (placeK cs) x (growQ (amtK cs) t op (p+G))))/\OwnR (w9.alloc (.cells #[.bool qn,.string qx,.string qd] 68)) tk (repL m (growQ (amtK cs) t op (p+G)))/\OwnB (w9.alloc (.cells #[.bool qn,.string qx,.string qd] 68)) ob (bL m op9)/\(w9.alloc (.cells #[.bool qn,.string qx,.string qd] 68)).heap[w9.heap.size]? = some (.cells #[.bool (repR (p+G)).neg,.string (repR (p+G)).num,.string (repR (p+G)).den] 68 (0,0))/\Marks base (w9.alloc (.cells #[.bool qn,.string qx,.string qd] 68)) ds9)/\Turned (fun i=>i=tk\/i=la\/i=ob\/i=bp0) w0 (w9.alloc (.cells #[.bool qn,.string qx,.string qd] 68)):=by
    refine⟨⟨?_,htk9.turned T10 id,hob9.turned T10 id,?_,hMK9.turned T10 fun _ _ h=>h.elim⟩,HTW8.out.trans ((t9.mono fun i hi=>?_).trans (T10.mono fun _ h=>h.elim))⟩
    ·rw[HX8.out];exact(HLA8.out.turned t9 (fun h=>h.elim (fun e=>HNE.out.1.1.1 e.symm) HNE.out.1.1.2.2)).turned T10 id
    ·rw[HQV.out];exact World.alloc_heap_new _ _
    ·rcases hi with hi | hi
     ·exact Or.inl hi
     ·exact Or.inr (Or.inr (Or.inl hi))
   have HFIN:=zh hfin;have HSIZ:Hid (w0.heap.size<=w9.heap.size):=zh (Nat.le_trans HTW8.out.size t9.size);obtain⟨g0,g1,g2,-,-,-⟩:=box3 hbp9;clear hop9 hoe hob9 hre hri hsub hbp9 T10 hfin htk9 hMK9 t9 fc
   gi_wp2_with fail
   refine⟨?_,?_⟩
   ·rw[HI.out];exact⟨w9.heap.size,growQ (amtK cs) t op (p+G),op9,p+G,2*kx+2*265+2,ds9,ex_fun (zh ⟨⟨HFIN.out.1,Or.inr HSIZ.out,HRI.out,HSZ.out⟩,HFIN.out.2⟩) rfl⟩
   ·rw[openN_of HFIN.out.1.2.2.1,HON.out,count_bL,count_bL];exact HLT.out
end Go.Proofs.YtanhhdndgkhcfaaGreatDoor
