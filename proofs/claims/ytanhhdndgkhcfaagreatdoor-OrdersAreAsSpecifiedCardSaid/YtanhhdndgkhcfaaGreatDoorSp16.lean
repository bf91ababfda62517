/- Part 16 of the proof of lawSpec.card: OrdAllotF. Conditions: those of each theorem. -/
import Derived.Test.YtanhhdndgkhcfaaGreatDoorSp01
import Derived.Test.YtanhhdndgkhcfaaGreatDoorSp12
import Derived.Test.YtanhhdndgkhcfaaGreatDoorSp15
set_option maxRecDepth 1000000
set_option maxHeartbeats 1000000
namespace Go.Proofs.YtanhhdndgkhcfaaGreatDoor
open Go.RowKit
attribute [local go_sem ↓] run_eql_rat' run_neq_rat'
def wetAt (f:Nat->Bool) (j:Nat) (b:Bool):Nat->Bool:=fun k=>if k=j then b else f k
theorem wetAt_set(m:Nat) (f:Nat->Bool) (j:Nat) (b b':Bool):(bL m (wetAt f j b)).set j b'=bL m (wetAt f j b'):=by
 rw[bL_set];refine bL_congr fun k _=>?_
 unfold wetAt;by_cases h:k=j
 ·rw[if_pos h,if_pos h]
 ·rw[if_neg h,if_neg h,if_neg h]
theorem wetAt_get{m:Nat} (f:Nat->Bool) {j:Nat} (b:Bool) (h:j < m):(bL m (wetAt f j b))[j]? = some b:=by
 rw[bL_get _ h];unfold wetAt;rw[if_pos rfl]
def rangeOf:Code->Option Code
 | .rangeFunc f ps a b=>some (.rangeFunc f ps a b)
 | .block _ c=>rangeOf c
 | .seq a b=>match rangeOf a with
  | some c=>some c
  | none=>rangeOf b
 | _=>none
noncomputable def aRange:Code:=(((Tryz.f28).body.bind (blkOf 14)).bind rangeOf).getD .skip
set_option linter.unusedSimpArgs false in
theorem allotR{Q:Exit->Act->World->Prop} (rs:List Rc) (dl:List Int) (rp:Option Addr) (rc bl la bo ob C E N n m j pl:Nat) (x:Nat->Rat) (f:Nat->Bool) (b0:Bool) (w0:World) (ds:List Deferred) (c0 c1 c2 c3 c4 c5 c6 c8 c9 c10 c11 c12 c13 c14 c16 c17 c18 c19 c20 c21 c22 c23 c24 c25 c26 c27 c29 c30 c31 c32 c33 c34 c35 c36 c37 c38 c39 c40 c41 c42 c43 c44 c45 c46 c47 c48 c49 c50 c51 c52 c53 c54 c55 c56 c57 c58 c59 c60 c61 c62 c63 c64 c65 c66 c67 c68 c69 c70 c71 c72 c73 c74 c75 c76 c77 c78 c79 c80 c81 c82 c83 c84 c85 c86 c87 c88 c89 c90 c91 c92 c93 c94 c95 c96 c97 c98 c99 c100 c101 c102 c103 c104 c105 c106 c107 c108 c109 c110 c111 c112 c113 c114 c115 c116 c117 c118 c119 c120 c121 c122 c123 c124 c125 c126 c127 c128 c129 c130 c131 c132 c133 c134 c135 c136 c137 c138 c139 c140 c141 c142 c143 c144 c145 c146 c147 c148 c149 c150 c151 c152 c153 c154 c155 c156 c157 c158 c159 c160 c161 c162 c163 c164 c165 c166 c167 c168 c169 c170 c171 c172 c173 c174 c175 c177 c178 c179 c180 c181 c182 c183 c184 c185 c186 c187 c188 c189 c190 c191 c192 c193 c194 c195 c196:Value)
  (hR:RivAt N w0 rs rp rc) (hdl:dl=rs.map (·.down)) (hok:RivOK dl) (hn:rs.length=n) (hpl:pl < n) (hj:j < m)
  (hN:N<=bl/\N<=la/\N<=bo/\N<=ob/\N<=C/\N<=E) (hE:E+2=w0.heap.size) (hlt:bl < E/\la < E/\bo < E/\ob < E/\C < E) (hne:bl≠ob/\la≠ob/\bo≠ob/\C≠ob)
  (hE0:w0.heap[E]? = some (.cells #[.slice rp n rc] 22 (0,0))) (hE1:w0.heap[E+1]? = some (.cells #[.int .i64 pl] 3 (0,0))) (hbl:w0.heap[bl]? = some (.cells #[.slice (some ⟨la,0,none⟩) n n] 23 (0,0))) (hla:OwnR w0 la (repL n x)) (hbo:w0.heap[bo]? = some (.cells #[.slice (some ⟨ob,0,none⟩) m m] 104 (0,0))) (hob:OwnB w0 ob (bL m (wetAt f j b0))) (hC:w0.heap[C]? = some (.cells #[.int .i64 j] 3 (0,0)))
  (hexit:∀w',OwnB w' ob (bL m (wetAt f j (b0 && wet x (way dl pl))))->Turned (fun i=>i=ob\/i=E+1) w0 w'->w'.heap[w0.heap.size]? = some (.deferred (some []))->Q .normal { tmps:=(c0::c1::c2::c3::c4::c5::c6::.pointer (some ⟨bl,0,none⟩)::c8::c9::c10::c11::c12::c13::c14::.pointer (some ⟨bo,0,none⟩)::c16::c17::c18::c19::c20::c21::c22::c23::c24::c25::c26::c27::.pointer (some ⟨C,0,none⟩)::c29::c30::c31::c32::c33::c34::c35::c36::c37::c38::c39::c40::c41::c42::c43::c44::c45::c46::c47::c48::c49::c50::c51::c52::c53::c54::c55::c56::c57::c58::c59::c60::c61::c62::c63::c64::c65::c66::c67::c68::c69::c70::c71::c72::c73::c74::c75::c76::c77::c78::c79::c80::c81::c82::c83::c84::c85::c86::c87::c88::c89::c90::c91::c92::c93::c94::c95::c96::c97::c98::c99::c100::c101::c102::c103::c104::c105::c106::c107::c108::c109::c110::c111::c112::c113::c114::c115::c116::c117::c118::c119::c120::c121::c122::c123::c124::c125::c126::c127::c128::c129::c130::c131::c132::c133::c134::c135::c136::c137::c138::c139::c140::c141::c142::c143::c144::c145::c146::c147::c148::c149::c150::c151::c152::c153::c154::c155::c156::c157::c158::c159::c160::c161::c162::c163::c164::c165::c166::c167::c168::c169::c170::c171::c172::c173::c174::c175::.func (.func 104) #[] #[.pointer (some ⟨E+1,0,none⟩),.pointer (some ⟨E,0,none⟩)]::c177::c178::c179::c180::c181::c182::c183::c184::c185::c186::c187::c188::c189::c190::c191::c192::c193::c194::c195::c196::[]).toArray,defers:={ target:=.collected w0.heap.size,args:=#[] }::ds } w') :
  Code.wpIn Fence.wide 0 Tryz.prog aRange Q { tmps:=(c0::c1::c2::c3::c4::c5::c6::.pointer (some ⟨bl,0,none⟩)::c8::c9::c10::c11::c12::c13::c14::.pointer (some ⟨bo,0,none⟩)::c16::c17::c18::c19::c20::c21::c22::c23::c24::c25::c26::c27::.pointer (some ⟨C,0,none⟩)::c29::c30::c31::c32::c33::c34::c35::c36::c37::c38::c39::c40::c41::c42::c43::c44::c45::c46::c47::c48::c49::c50::c51::c52::c53::c54::c55::c56::c57::c58::c59::c60::c61::c62::c63::c64::c65::c66::c67::c68::c69::c70::c71::c72::c73::c74::c75::c76::c77::c78::c79::c80::c81::c82::c83::c84::c85::c86::c87::c88::c89::c90::c91::c92::c93::c94::c95::c96::c97::c98::c99::c100::c101::c102::c103::c104::c105::c106::c107::c108::c109::c110::c111::c112::c113::c114::c115::c116::c117::c118::c119::c120::c121::c122::c123::c124::c125::c126::c127::c128::c129::c130::c131::c132::c133::c134::c135::c136::c137::c138::c139::c140::c141::c142::c143::c144::c145::c146::c147::c148::c149::c150::c151::c152::c153::c154::c155::c156::c157::c158::c159::c160::c161::c162::c163::c164::c165::c166::c167::c168::c169::c170::c171::c172::c173::c174::c175::.func (.func 104) #[] #[.pointer (some ⟨E+1,0,none⟩),.pointer (some ⟨E,0,none⟩)]::c177::c178::c179::c180::c181::c182::c183::c184::c185::c186::c187::c188::c189::c190::c191::c192::c193::c194::c195::c196::[]).toArray,defers:=ds } w0:=by
 have HNE:=zh (And.intro hne (And.intro hlt (And.intro hN hE)));have HIT:=zh (hDown_iter rs dl rp rc N (E+1) E pl w0 hdl hR (by rw[hdl,List.length_map,hn];exact hpl) hok.lt (cell_of_box hE1) (free_of_box hE1 0) (by rw[hn];exact cell_of_box hE0) (by omega) (by omega) (by omega) (by omega))
 have HEN:=zh (hok.next pl (by rw[hdl,List.length_map,hn];exact hpl))
 have HOB:=zh hob;have HBX:=zh (And.intro hbl (And.intro hla (And.intro hbo hC)));have HLT:=zh hok.lt;have HDL:Hid (dl.length=n):=zh (by rw[hdl,List.length_map,hn])
 clear hR hok hdl hn hE0 hE1 hbl hla hbo hob hC hne hlt hN;have hz:=hE;clear hE
 conv=>arg 4;whnf
 refine range_lawE (rfl:_=Value.func (.func 104) #[] #[.pointer (some ⟨E+1,0,none⟩),.pointer (some ⟨E,0,none⟩)]) (enters_of Tryz.func104 (by kernel_rfl) rfl) HIT.out (fun _=>rfl) (by
   intro i hi;have:=HNE.out;rcases hi with(h | h) | h <;> omega)
  (fun i N' A=>w0.heap.size<=N'/\OwnB A ob (bL m (wetAt f j (b0 && wet x ((way dl pl).take i))))/\Turned (fun r=>r=ob\/r=E+1) w0 A) (fun _ _=>False)
  (fun _ _ _ _ h hN=>⟨Nat.le_trans h.1 hN,h.2⟩) ?stab (fun _ _ _ h _=>h) (fun h=>absurd HEN.out h) ⟨Nat.le_refl _,by rw[List.take_zero,show wet x []=true from rfl,Bool.and_true];exact HOB.out,Turned.refl _ _⟩
  (fun(y:Nat)=>(c0::c1::c2::c3::c4::c5::c6::.pointer (some ⟨bl,0,none⟩)::c8::c9::c10::c11::c12::c13::c14::.pointer (some ⟨bo,0,none⟩)::c16::c17::c18::c19::c20::c21::c22::c23::c24::c25::c26::c27::.pointer (some ⟨C,0,none⟩)::c29::c30::c31::c32::c33::c34::c35::c36::c37::c38::c39::c40::c41::c42::c43::c44::c45::c46::c47::c48::c49::c50::c51::c52::c53::c54::c55::c56::c57::c58::c59::c60::c61::c62::c63::c64::c65::c66::c67::c68::c69::c70::c71::c72::c73::c74::c75::c76::c77::c78::c79::c80::c81::c82::c83::c84::c85::c86::c87::c88::c89::c90::c91::c92::c93::c94::c95::c96::c97::c98::c99::c100::c101::c102::c103::c104::c105::c106::c107::c108::c109::c110::c111::c112::c113::c114::c115::c116::c117::c118::c119::c120::c121::c122::c123::c124::c125::c126::c127::c128::c129::c130::c131::c132::c133::c134::c135::c136::c137::c138::c139::c140::c141::c142::c143::c144::c145::c146::c147::c148::c149::c150::c151::c152::c153::c154::c155::c156::c157::c158::c159::c160::c161::c162::c163::c164::c165::c166::c167::c168::c169::c170::c171::c172::c173::c174::c175::.func (.func 104) #[] #[.pointer (some ⟨E+1,0,none⟩),.pointer (some ⟨E,0,none⟩)]::(.int .i64 y)::c178::c179::c180::c181::c182::c183::c184::c185::c186::c187::c188::c189::c190::c191::c192::c193::c194::c195::c196::[]).toArray) (fun _=>by kernel_rfl)
  (fun i N' M' y a' A=>a'={ tmps:=(c0::c1::c2::c3::c4::c5::c6::.pointer (some ⟨bl,0,none⟩)::c8::c9::c10::c11::c12::c13::c14::.pointer (some ⟨bo,0,none⟩)::c16::c17::c18::c19::c20::c21::c22::c23::c24::c25::c26::c27::.pointer (some ⟨C,0,none⟩)::c29::(.int .i64 y)::c31::c32::c33::c34::c35::c36::c37::c38::c39::c40::c41::c42::c43::c44::c45::c46::c47::c48::c49::c50::c51::c52::c53::c54::c55::c56::c57::c58::c59::c60::c61::c62::c63::c64::c65::c66::c67::c68::c69::c70::c71::c72::c73::c74::c75::c76::c77::c78::c79::c80::c81::c82::c83::c84::c85::c86::c87::c88::c89::c90::c91::c92::c93::c94::c95::c96::c97::c98::c99::c100::c101::c102::c103::c104::c105::c106::c107::c108::c109::c110::c111::c112::c113::c114::c115::c116::c117::c118::c119::c120::c121::c122::c123::c124::c125::c126::c127::c128::c129::c130::c131::c132::c133::c134::c135::c136::c137::c138::c139::c140::c141::c142::c143::c144::c145::c146::c147::c148::c149::c150::c151::c152::c153::c154::c155::c156::c157::c158::c159::c160::c161::c162::c163::c164::c165::c166::c167::c168::c169::c170::c171::c172::c173::c174::c175::.func (.func 104) #[] #[.pointer (some ⟨E+1,0,none⟩),.pointer (some ⟨E,0,none⟩)]::(.int .i64 y)::c178::c179::c180::c181::c182::c183::c184::c185::c186::c187::c188::c189::c190::c191::c192::c193::c194::c195::c196::[]).toArray,defers:=[] }/\w0.heap.size<=N'/\OwnB A ob (bL m (wetAt f j (b0 && wet x ((way dl pl).take i))))/\Turned (fun r=>r=ob\/r=E+1) w0 A)
  ?stabA ?assign ?body ?done (fun _ _ h=>h.elim)
 case stab =>
  rintro i N' A B ⟨h1,h2,h3⟩ hN' ht;refine⟨h1,h2.turned ht (by have:=HNE.out;rintro(h | h | h) <;> omega),h3.cut ht (by rintro r (h | h | h);exact .inl (.inr h);exact .inr (by omega);exact .inr (by omega))⟩
 case stabA =>
  rintro i N' M' y a' A B ⟨rfl,h1,h2,h3⟩ ht;exact⟨rfl,h1,h2.turned ht (by have:=HNE.out;omega),h3.freshC ht (by rintro r h;omega)⟩
 case assign =>
  rintro i N' y A hy ⟨h1,h2,h3⟩ hN' hsz;have HQ:=zh (And.intro h1 (And.intro h2 h3));clear h1 h2 h3
  gi_wp2
  exact⟨⟨trivial,HQ.out⟩,Kept.refl _ _⟩
 case body =>
  rintro i N' M' y a' A' hy ⟨rfl,h1,h2,h3⟩ hNM hMA hsz hrec;have hyn:y < n:=by
   have h4:=way_get hy;have h5:=step_bound HLT.out (p:=pl) (by rw[HDL.out];exact hpl) i
   rw[<- h4,HDL.out] at h5;omega
  obtain⟨b,hb⟩ : ∃b,(b0 && wet x ((way dl pl).take i))=b:=⟨_,rfl⟩;have hnx:(b0 && wet x ((way dl pl).take (i+1)))=(b && decide (x y≠0)):=by rw[wet_step hy,<- Bool.and_assoc,hb]
  rw[hb] at h2;obtain⟨⟨vn,vx,vd⟩,hv⟩ : ∃v,repR (x y)=v:=⟨_,rfl⟩;obtain⟨s,hs⟩ : ∃s,decide (x y=0)=s:=⟨_,rfl⟩;have hs3:decide (x y≠0)=!s:=by rw[<- hs];by_cases h:x y=0 <;> simp[h]
  rw[hs3] at hnx;have hs2:sameR ⟨vn,vx,vd⟩ ⟨false,⟨#[]⟩,⟨#[]⟩⟩=s:=by
   have:=same_zero (x y);rw[hv,hs] at this;exact this
  have hlc:=(HBX.out.2.1.turned h3 (by have:=HNE.out;omega)).cells (repL_get x hyn)
  rw[hv] at hlc;obtain⟨k0,k1,k2⟩:=hlc;have bbl:=(h3.block bl (by have:=HNE.out;omega) (by have:=HNE.out;omega)).trans HBX.out.1
  have bbo:=(h3.block bo (by have:=HNE.out;omega) (by have:=HNE.out;omega)).trans HBX.out.2.2.1
  have bC:=(h3.block C (by have:=HNE.out;omega) (by have:=HNE.out;omega)).trans HBX.out.2.2.2
  have HZ:Hid (∀W,Calls Tryz.prog 57 #[] W fun e w'=>e=.returned (.agg #[.bool false,.string ⟨#[]⟩,.string ⟨#[]⟩])/\Turned (fun _=>False) W w'):=zh hZero_any
  have HO:=zh h2;have HH:=zh (And.intro h1 h3);have HD0:=zh ((zr A').drew);have j0:=(h2.turned HD0.out id).cell (wetAt_get f b hj);have hS0:(A'.drew).cell? ⟨bo,0,none⟩=some (.slice (some ⟨ob,0,none⟩) m m)/\(A'.drew).cell? ⟨C,0,none⟩=some (.int .i64 j)/\(A'.drew).cell? ⟨bl,0,none⟩=some (.slice (some ⟨la,0,none⟩) n n)/\(A'.drew).cell? ⟨la,y*3,none⟩=some (.bool vn)/\(A'.drew).cell? ⟨la,y*3+1,none⟩=some (.string vx)/\(A'.drew).cell? ⟨la,y*3+2,none⟩=some (.string vd):=⟨cellT HD0.out id (cell_of_box bbo),cellT HD0.out id (cell_of_box bC),cellT HD0.out id (cell_of_box bbl),cellT HD0.out id k0,cellT HD0.out id k1,cellT HD0.out id k2⟩;have hy0:(0:Int)<=y:=by omega
  have hy1:(y:Int) < n:=by omega
  have hj0:(0:Int)<=j:=by omega
  have hj1:(j:Int) < m:=by omega
  clear hv hs hs3 k0 k1 k2 bbl bbo bC h1 h2 h3 hb hrec hexit
  gi_wp2_with fail
  cases b
  ·have HNX:Hid (bL m (wetAt f j false)=bL m (wetAt f j (b0 && wet x ((way dl pl).take (i+1))))):=zh (by rw[hnx,Bool.false_and])
   clear hnx hs2;refine wpIn_region_round (S:=fun V=>V.cell? ⟨bo,0,none⟩=some (.slice (some ⟨ob,0,none⟩) m m)/\V.cell? ⟨C,0,none⟩=some (.int .i64 j)/\V.cell? ⟨bl,0,none⟩=some (.slice (some ⟨la,0,none⟩) n n)/\V.cell? ⟨la,y*3,none⟩=some (.bool vn)/\V.cell? ⟨la,y*3+1,none⟩=some (.string vx)/\V.cell? ⟨la,y*3+2,none⟩=some (.string vd)) (by kernel_rfl) (by kernel_rfl) ?_
   obtain⟨A1,hA1⟩ : ∃w,w=A'.drew:=⟨_,rfl⟩;rw[<- hA1] at HD0 j0 hS0 ⊢;clear hA1;refine zt 0 (.slice (some ⟨ob,0,none⟩) m m) rfl (Or.inl ⟨by kernel_rfl,fun V hV=>?_⟩) hS0 ?_
   ·obtain⟨f0,f1,f2,f3,f4,f5⟩:=hV;go_simp
   refine zt 1 (.int .i64 j) rfl (Or.inl ⟨by kernel_rfl,fun V hV=>?_⟩) hS0 ?_
   ·obtain⟨f0,f1,f2,f3,f4,f5⟩:=hV;go_simp
   refine zt 2 (.slice (some ⟨ob,0,none⟩) m m) rfl (Or.inl ⟨by kernel_rfl,fun V hV=>?_⟩) hS0 ?_
   ·obtain⟨f0,f1,f2,f3,f4,f5⟩:=hV;go_simp
   refine zt 3 (.int .i64 j) rfl (Or.inl ⟨by kernel_rfl,fun V hV=>?_⟩) hS0 ?_
   ·obtain⟨f0,f1,f2,f3,f4,f5⟩:=hV;go_simp
   refine zt 4 (.pointer (some ⟨ob,j,none⟩)) rfl (Or.inl ⟨by kernel_rfl,fun V hV=>?_⟩) hS0 ?_
   ·obtain⟨f0,f1,f2,f3,f4,f5⟩:=hV;go_simp
   simp only[zz0,zz1,zz2,Act.put,zz3,zz4,zz5];refine wpAnyH_ready (rs:=[5]) (by kernel_rfl) (by simp) ?_
   refine .cons (o:=_) rfl (fun K hK=>?_) .nil
   go_simp;refine hK.out _ _ hS0 (fun _=>?_)
   clear hK j0;refine zt 6 (.bool false) rfl (Or.inl ⟨by kernel_rfl,fun V hV=>?_⟩) hS0 ?_
   ·obtain⟨f0,f1,f2,f3,f4,f5⟩:=hV;go_simp
   simp only[zz0,zz1,zz2,Act.put,zz3,zz4,zz5];refine zt 7 undef rfl (Or.inr ⟨by kernel_rfl,rfl⟩) hS0 ?_
   refine zt 8 undef rfl (Or.inr ⟨by kernel_rfl,rfl⟩) hS0 ?_
   refine zt 9 undef rfl (Or.inr ⟨by kernel_rfl,rfl⟩) hS0 ?_
   refine zt 10 undef rfl (Or.inr ⟨by kernel_rfl,rfl⟩) hS0 ?_
   refine zt 11 undef rfl (Or.inr ⟨by kernel_rfl,rfl⟩) hS0 ?_
   refine zt 12 undef rfl (Or.inr ⟨by kernel_rfl,rfl⟩) hS0 ?_
   simp only[zz0,zz1,zz2,Act.put,zz3,zz4,zz5];refine zt 13 (.bool false) rfl (Or.inl ⟨by kernel_rfl,fun V hV=>?_⟩) hS0 ?_
   ·obtain⟨f0,f1,f2,f3,f4,f5⟩:=hV;go_simp
   simp only[zz0,zz1,zz2,Act.put,zz3,zz4,zz5];refine zt 14 (.pointer (some ⟨ob,j,none⟩)) rfl (Or.inl ⟨by kernel_rfl,fun V hV=>?_⟩) hS0 ?_
   ·obtain⟨f0,f1,f2,f3,f4,f5⟩:=hV;go_simp
   simp only[zz0,zz1,zz2,Act.put,zz3,zz4,zz5];have O4:=HO.out.turned HD0.out id;have o1:=O4.cell (wetAt_get f _ hj);have o2:=O4.free j;refine wpAnyH_ready (rs:=[15]) (by kernel_rfl) (by simp) ?_
   refine .cons (o:=_) rfl (fun K hK=>?_) .nil
   go_simp;have hst:=O4.set j (false);rw[wetAt_set,HNX.out] at hst;obtain⟨w9,hw9⟩ : ∃w,A1.setCell ⟨ob,j,none⟩ (.bool (false))=w:=⟨_,rfl⟩;rw[hw9] at hst ⊢;have hS9:w9.cell? ⟨bo,0,none⟩=some (.slice (some ⟨ob,0,none⟩) m m)/\w9.cell? ⟨C,0,none⟩=some (.int .i64 j)/\w9.cell? ⟨bl,0,none⟩=some (.slice (some ⟨la,0,none⟩) n n)/\w9.cell? ⟨la,y*3,none⟩=some (.bool vn)/\w9.cell? ⟨la,y*3+1,none⟩=some (.string vx)/\w9.cell? ⟨la,y*3+2,none⟩=some (.string vd):=⟨cellT hst.2 (by have:=HNE.out;omega) hS0.1,cellT hst.2 (by have:=HNE.out;omega) hS0.2.1,cellT hst.2 (by have:=HNE.out;omega) hS0.2.2.1,cellT hst.2 (by have:=HNE.out;omega) hS0.2.2.2.1,cellT hst.2 (by have:=HNE.out;omega) hS0.2.2.2.2.1,cellT hst.2 (by have:=HNE.out;omega) hS0.2.2.2.2.2⟩
   refine hK.out _ _ hS9 (fun _=>?_)
   refine wpAnyH_done (by kernel_rfl) ?_ _
   have ht9:=(HD0.out.mono (C':=fun r=>r=ob) fun _ h=>h.elim).trans hst.2
   have ht10:=HH.out.2.cut ht9 (fun r h=>Or.inl (Or.inl h))
   have HR:=zh (And.intro hst.1 (And.intro ht9 ht10));clear hK hst hS9 o1 o2 O4 ht9 ht10 hw9 hS0;unfold OnlyN
   gi_wp2_with fail
   refine⟨HR.out.2.1.kept fun r hr=>?_,HR.out.2.2.size,HR.out.1,HR.out.2.2⟩
   show r < A'.heap.size/\¬r=ob;have h1:=HH.out.1;have h2:=HNE.out;have hr':(((r < N\/r=E)\/r=E+1)\/(N'<=r/\r < M'))\/r=w0.heap.size\/r=w0.heap.size+1:=hr;clear hr;omega
  ·have HNX:Hid (bL m (wetAt f j (!s))=bL m (wetAt f j (b0 && wet x ((way dl pl).take (i+1))))):=zh (by rw[hnx,Bool.true_and])
   clear hnx;refine wpIn_region_round (S:=fun V=>V.cell? ⟨bo,0,none⟩=some (.slice (some ⟨ob,0,none⟩) m m)/\V.cell? ⟨C,0,none⟩=some (.int .i64 j)/\V.cell? ⟨bl,0,none⟩=some (.slice (some ⟨la,0,none⟩) n n)/\V.cell? ⟨la,y*3,none⟩=some (.bool vn)/\V.cell? ⟨la,y*3+1,none⟩=some (.string vx)/\V.cell? ⟨la,y*3+2,none⟩=some (.string vd)) (by kernel_rfl) (by kernel_rfl) ?_
   obtain⟨A1,hA1⟩ : ∃w,w=A'.drew:=⟨_,rfl⟩;rw[<- hA1] at HD0 j0 hS0 ⊢;clear hA1;refine zt 0 (.slice (some ⟨ob,0,none⟩) m m) rfl (Or.inl ⟨by kernel_rfl,fun V hV=>?_⟩) hS0 ?_
   ·obtain⟨f0,f1,f2,f3,f4,f5⟩:=hV;go_simp
   refine zt 1 (.int .i64 j) rfl (Or.inl ⟨by kernel_rfl,fun V hV=>?_⟩) hS0 ?_
   ·obtain⟨f0,f1,f2,f3,f4,f5⟩:=hV;go_simp
   refine zt 2 (.slice (some ⟨ob,0,none⟩) m m) rfl (Or.inl ⟨by kernel_rfl,fun V hV=>?_⟩) hS0 ?_
   ·obtain⟨f0,f1,f2,f3,f4,f5⟩:=hV;go_simp
   refine zt 3 (.int .i64 j) rfl (Or.inl ⟨by kernel_rfl,fun V hV=>?_⟩) hS0 ?_
   ·obtain⟨f0,f1,f2,f3,f4,f5⟩:=hV;go_simp
   refine zt 4 (.pointer (some ⟨ob,j,none⟩)) rfl (Or.inl ⟨by kernel_rfl,fun V hV=>?_⟩) hS0 ?_
   ·obtain⟨f0,f1,f2,f3,f4,f5⟩:=hV;go_simp
   simp only[zz0,zz1,zz2,Act.put,zz3,zz4,zz5];refine wpAnyH_ready (rs:=[5]) (by kernel_rfl) (by simp) ?_
   refine .cons (o:=_) rfl (fun K hK=>?_) .nil
   go_simp;refine hK.out _ _ hS0 (fun _=>?_)
   clear hK j0;refine zt 6 (.bool true) rfl (Or.inl ⟨by kernel_rfl,fun V hV=>?_⟩) hS0 ?_
   ·obtain⟨f0,f1,f2,f3,f4,f5⟩:=hV;go_simp
   simp only[zz0,zz1,zz2,Act.put,zz3,zz4,zz5];refine zt 7 (.slice (some ⟨la,0,none⟩) n n) rfl (Or.inl ⟨by kernel_rfl,fun V hV=>?_⟩) hS0 ?_
   ·obtain⟨f0,f1,f2,f3,f4,f5⟩:=hV;go_simp
   refine zt 8 (.int .i64 y) rfl (Or.inl ⟨by kernel_rfl,fun V hV=>?_⟩) hS0 ?_
   ·obtain⟨f0,f1,f2,f3,f4,f5⟩:=hV;go_simp
   refine zt 9 (.pointer (some ⟨la,y*3,none⟩)) rfl (Or.inl ⟨by kernel_rfl,fun V hV=>?_⟩) hS0 ?_
   ·obtain⟨f0,f1,f2,f3,f4,f5⟩:=hV;go_simp
   refine zt 10 (.agg #[.bool vn,.string vx,.string vd]) rfl (Or.inl ⟨by kernel_rfl,fun V hV=>?_⟩) hS0 ?_
   ·obtain⟨f0,f1,f2,f3,f4,f5⟩:=hV;go_simp
   simp only[zz0,zz1,zz2,Act.put,zz3,zz4,zz5];refine wpAnyH_ready (rs:=[11]) (by kernel_rfl) (by simp) ?_
   refine .cons (o:=_) rfl (fun K hK=>?_) .nil
   go_simp;refine(HZ.out _).mono ?_;rintro e w4 ⟨rfl,t4⟩;have hS1:w4.cell? ⟨bo,0,none⟩=some (.slice (some ⟨ob,0,none⟩) m m)/\w4.cell? ⟨C,0,none⟩=some (.int .i64 j)/\w4.cell? ⟨bl,0,none⟩=some (.slice (some ⟨la,0,none⟩) n n)/\w4.cell? ⟨la,y*3,none⟩=some (.bool vn)/\w4.cell? ⟨la,y*3+1,none⟩=some (.string vx)/\w4.cell? ⟨la,y*3+2,none⟩=some (.string vd):=⟨cellT t4 id hS0.1,cellT t4 id hS0.2.1,cellT t4 id hS0.2.2.1,cellT t4 id hS0.2.2.2.1,cellT t4 id hS0.2.2.2.2.1,cellT t4 id hS0.2.2.2.2.2⟩;have HT4:=zh (HD0.out.trans t4);refine hK.out _ _ hS1 (fun _=>?_)
   clear hK t4 hS0;refine zt 12 (.bool (!s)) rfl (Or.inl ⟨by kernel_rfl,fun V hV=>?_⟩) hS1 ?_
   ·obtain⟨f0,f1,f2,f3,f4,f5⟩:=hV;go_simp
   refine zt 13 (.bool (!s)) rfl (Or.inl ⟨by kernel_rfl,fun V hV=>?_⟩) hS1 ?_
   ·obtain⟨f0,f1,f2,f3,f4,f5⟩:=hV;go_simp
   simp only[zz0,zz1,zz2,Act.put,zz3,zz4,zz5];refine zt 14 (.pointer (some ⟨ob,j,none⟩)) rfl (Or.inl ⟨by kernel_rfl,fun V hV=>?_⟩) hS1 ?_
   ·obtain⟨f0,f1,f2,f3,f4,f5⟩:=hV;go_simp
   simp only[zz0,zz1,zz2,Act.put,zz3,zz4,zz5];have O4:=HO.out.turned HT4.out id;have o1:=O4.cell (wetAt_get f _ hj);have o2:=O4.free j;refine wpAnyH_ready (rs:=[15]) (by kernel_rfl) (by simp) ?_
   refine .cons (o:=_) rfl (fun K hK=>?_) .nil
   go_simp;have hst:=O4.set j (!s);rw[wetAt_set,HNX.out] at hst;obtain⟨w9,hw9⟩ : ∃w,w4.setCell ⟨ob,j,none⟩ (.bool (!s))=w:=⟨_,rfl⟩;rw[hw9] at hst ⊢;have hS9:w9.cell? ⟨bo,0,none⟩=some (.slice (some ⟨ob,0,none⟩) m m)/\w9.cell? ⟨C,0,none⟩=some (.int .i64 j)/\w9.cell? ⟨bl,0,none⟩=some (.slice (some ⟨la,0,none⟩) n n)/\w9.cell? ⟨la,y*3,none⟩=some (.bool vn)/\w9.cell? ⟨la,y*3+1,none⟩=some (.string vx)/\w9.cell? ⟨la,y*3+2,none⟩=some (.string vd):=⟨cellT hst.2 (by have:=HNE.out;omega) hS1.1,cellT hst.2 (by have:=HNE.out;omega) hS1.2.1,cellT hst.2 (by have:=HNE.out;omega) hS1.2.2.1,cellT hst.2 (by have:=HNE.out;omega) hS1.2.2.2.1,cellT hst.2 (by have:=HNE.out;omega) hS1.2.2.2.2.1,cellT hst.2 (by have:=HNE.out;omega) hS1.2.2.2.2.2⟩
   refine hK.out _ _ hS9 (fun _=>?_)
   refine wpAnyH_done (by kernel_rfl) ?_ _
   have ht9:=(HT4.out.mono (C':=fun r=>r=ob) fun _ h=>h.elim).trans hst.2
   have ht10:=HH.out.2.cut ht9 (fun r h=>Or.inl (Or.inl h))
   have HR:=zh (And.intro hst.1 (And.intro ht9 ht10));clear hK hst hS9 o1 o2 O4 ht9 ht10 hw9 hS1;unfold OnlyN
   gi_wp2_with fail
   refine⟨HR.out.2.1.kept fun r hr=>?_,HR.out.2.2.size,HR.out.1,HR.out.2.2⟩
   show r < A'.heap.size/\¬r=ob;have h1:=HH.out.1;have h2:=HNE.out;have hr':(((r < N\/r=E)\/r=E+1)\/(N'<=r/\r < M'))\/r=w0.heap.size\/r=w0.heap.size+1:=hr;clear hr;omega
 case done =>
  rintro A ⟨h1,h2,h3⟩ hD hsz;rw[List.take_length] at h2;exact hexit A h2 h3 hD
end Go.Proofs.YtanhhdndgkhcfaaGreatDoor
