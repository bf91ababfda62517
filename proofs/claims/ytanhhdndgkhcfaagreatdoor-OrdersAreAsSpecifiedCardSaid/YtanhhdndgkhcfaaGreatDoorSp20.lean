/- Part 20 of the proof of lawSpec.card: OrdAllotH, OrdAllotJ, OrdTake. Conditions: those of each theorem. -/
import Derived.Test.YtanhhdndgkhcfaaGreatDoorSp01
import Derived.Test.YtanhhdndgkhcfaaGreatDoorSp19
set_option maxRecDepth 1000000
set_option maxHeartbeats 4000000
namespace Go.Proofs.YtanhhdndgkhcfaaGreatDoor
open Go.RowKit
attribute [local go_sem ↓] run_eql_rat' run_neq_rat'
theorem infoBool:(Tryz.prog.info? 4).map (fun i=>(i.zero,i.size,i.bytes))=some (some (.bool false),1,1):=by kernel_rfl
theorem make_bools(w:World) (m:Nat) (hm:m<=1000):(Instr.makeSlice 104 (.int .i64 m) (.int .i64 m)).run Tryz.prog w=.ok (.slice (some ⟨w.heap.size,0,none⟩) m m) (w.alloc (.cells (Array.replicate m (.bool false)) 4)):=by
 obtain⟨i0,hif,hz0,hz1,hz2⟩:=info_parts infoBool;have h:=run_make (P:=Tryz.prog) w 104 4 i0 (.bool false) Tryz.underlying104 hif hz0 .i64 .i64 m m (by omega) (Int.le_refl _) (by rw[hz2];omega) (by omega)
 have e:madeCells #[Value.bool false] (m*1)=Array.replicate m (.bool false):=by
  apply Array.ext
  ·rw[size_madeCells,Array.size_replicate,Nat.mul_one]
  ·intro i h1 h2;simp[madeCells,Nat.mod_one]
 rw[hz1] at h;rw[Nat.mul_one] at e;simpa [Value.cells,e] using h
def rkB (ss:List Int):Nat->Int
 | 0=>0
 | j+1=>ss.getD j 0+1
theorem up_lt{ss:List Int} (h:ss.Pairwise fun x y=>x < y) {i j:Nat} {x y:Int} (hij:i < j) (hi:ss[i]? = some x) (hj:ss[j]? = some y):x < y:=by
 obtain⟨h1,rfl⟩:=List.getElem?_eq_some_iff.1 hi;obtain⟨h2,rfl⟩:=List.getElem?_eq_some_iff.1 hj;exact List.pairwise_iff_getElem.1 h i j h1 h2 hij
theorem rk_skip{rs ss:List Int} (h:RanksUp rs ss) (h0:∀x∈rs,0<=x) {j:Nat} {r:Int} (hj:ss[j]? = some r):rkB ss j<=r/\∀x∈rs,¬(rkB ss j<=x/\x < r):=by
 have hr:r∈rs:=(h.mem r).1 (List.mem_of_getElem? hj);refine⟨?_,fun x hx hb=>?_⟩
 ·cases j with
  | zero=>exact h0 r hr
  | succ j =>
   have hlt:=(List.getElem?_eq_some_iff.1 hj).1;have h1:ss[j]? = some (ss[j]'(by omega)):=List.getElem?_eq_getElem _
   have h2:=up_lt h.up (Nat.lt_succ_self j) h1 hj;show ss.getD j 0+1<=r;rw[List.getD_eq_getElem?_getD,h1];show ss[j]+1<=r;omega
 ·obtain⟨i,hi⟩:=List.mem_iff_getElem?.1 ((h.mem x).2 hx);rcases Nat.lt_trichotomy i j with h1 | h1 | h1
  ·cases j with
   | zero=>omega
   | succ j =>
    have hlt:=(List.getElem?_eq_some_iff.1 hj).1;have h2:ss[j]? = some (ss[j]'(by omega)):=List.getElem?_eq_getElem _
    have h3:ss.getD j 0+1<=x:=hb.1;rw[List.getD_eq_getElem?_getD,h2] at h3;have h3:ss[j]+1<=x:=h3;rcases Nat.lt_or_ge i j with h4 | h4
    ·have:=up_lt h.up h4 hi h2;omega
    ·obtain rfl:i=j:=by omega
     rw[h2] at hi;have:=Option.some.inj hi;omega
  ·subst h1;rw[hj] at hi;have:=Option.some.inj hi;omega
  ·have:=up_lt h.up h1 hj hi;omega
theorem rk_end{rs ss:List Int} (h:RanksUp rs ss):∀x∈rs,x < rkB ss ss.length:=fun x hx=>by
 obtain⟨i,hi⟩:=List.mem_iff_getElem?.1 ((h.mem x).2 hx);have hlt:=(List.getElem?_eq_some_iff.1 hi).1;cases hl:ss.length with
 | zero=>omega
 | succ j =>
  have h2:ss[j]? = some (ss[j]'(by omega)):=List.getElem?_eq_getElem _
  show x < ss.getD j 0+1;rw[List.getD_eq_getElem?_getD,h2];show x < ss[j]+1;rcases Nat.lt_or_ge i j with h4 | h4
  ·have:=up_lt h.up h4 hi h2;omega
  ·obtain rfl:i=j:=by omega
   rw[h2] at hi;have:=Option.some.inj hi;omega
theorem rankK_mem{cs:List Cl} {k:Nat} (hk:k < cs.length):rankK cs k∈cs.map (·.rank):=by
 unfold rankK;rw[List.getD_eq_getElem?_getD,List.getElem?_eq_getElem hk];exact List.mem_map.2 ⟨_,List.getElem_mem hk,rfl⟩
def fromN (rank:Nat->Int) (c:Int) (m:Nat):Nat:=cntQ (fun k=>decide (c<=rank k)) m
theorem left_from{rank:Nat->Int} {a:Nat->Rat} {r c:Int} {m:Nat} (hc:c<=r):leftN rank r (firstOpen rank a r) m<=fromN rank c m:=cnt_mono fun i _ h=>by
 rw[Bool.or_eq_true,decide_eq_true_eq] at h;rw[decide_eq_true_eq];rcases h with h | h
 ·unfold firstOpen at h;rw[Bool.and_eq_true,decide_eq_true_eq] at h;omega
 ·omega
theorem from_left{rank:Nat->Int} {op:Nat->Bool} {r:Int} {m:Nat} : fromN rank (r+1) m<=leftN rank r op m:=cnt_mono fun i _ h=>by
 rw[decide_eq_true_eq] at h;rw[Bool.or_eq_true,decide_eq_true_eq];exact Or.inr (by omega)
theorem SzQ.again{on:Nat->Nat->Bool} {n m:Nat} {place:Nat->Nat} {x t:Nat->Rat} {p:Rat} {ky rem rem' kx:Nat} (h:SzQ on n m place x t p ky rem kx) (hy:1<=ky) (hr:rem'<=rem):SzQ on n m place x t 0 ky rem' kx :=
 ⟨h.x1,h.rest,(bytes_zero 0).mono (by have:=h.x1;omega),(h.less hr).lim,h.take⟩
theorem allotL3m{Q:Exit->Act->World->Prop} (cs:List Cl) (cp:Option Addr) (cc bo ob N m:Nat) (r:Int) (w0:World) (ds:List Deferred) (c0 c1 c2 c3 c4 c5 c6 c7 c8 c9 c10 c11 c12 c13 c18 c19 c20 c21 c22 c23 c24 c25 c26 c27 c28 c29 c30 c31 c32 c33 c34 c35 c36 c37 c38 c39 c40 c41 c42 c43 c44 c45 c46 c47 c48 c49 c50 c51 c52 c53 c54 c55 c56 c57 c58 c59 c60 c61 c62 c63 c64 c65 c66 c88 c89 c90 c91 c92 c93 c94 c95 c96 c97 c98 c99 c100 c101 c102 c103 c104 c105 c106 c107 c108 c109 c110 c111 c112 c113 c114 c115 c116 c117 c118 c119 c120 c121 c122 c123 c124 c125 c126 c127 c128 c129 c130 c131 c132 c133 c134 c135 c136 c137 c138 c139 c140 c141 c142 c143 c144 c145 c146 c147 c148 c149 c150 c151 c152 c153 c154 c155 c156 c157 c158 c159 c160 c161 c162 c163 c164 c165 c166 c167 c168 c169 c170 c171 c172 c173 c174 c175 c176 c177 c178 c179 c180 c181 c182 c183 c184 c185 c186 c187 c188 c189 c190 c191 c192 c193 c194 c195 c196 c16 c17 c70 c71 c72 c73 c74 c75 c76 c77 c78 c79 c80 c81 c82 c83 c84 c85 c86 c87:Value)
  (hm:cs.length=m) (HA:At N w0 5 claimCells cs cp cc) (hsz:m<=200) (hc:∀c∈cs,natR c.amt=true) (hbx:w0.heap[bo]? = some (.cells #[.slice (some ⟨ob,0,none⟩) m m] 104 (0,0))) (hob:OwnB w0 ob (List.replicate m false)) (hN1:N<=bo) (hN2:N<=ob) (hne:bo≠ob)
  (hexit:∀(u16 u17 u69 u70 u71 u72 u73 u74 u75 u76 u77 u78 u79 u80 u81 u82 u83 u84 u85 u86 u87:Value) (w':World),OwnB w' ob (bL m (firstOpen (rankK cs) (amtK cs) r))->Turned (fun i=>i=ob) w0 w'->Q (.exit 4) { tmps:=(c0::c1::c2::c3::c4::c5::c6::c7::c8::c9::c10::c11::c12::c13::(.int .i64 r)::.pointer (some ⟨bo,0,none⟩)::u16::u17::c18::c19::c20::c21::c22::c23::c24::c25::c26::c27::c28::c29::c30::c31::c32::c33::c34::c35::c36::c37::c38::c39::c40::c41::c42::c43::c44::c45::c46::c47::c48::c49::c50::c51::c52::c53::c54::c55::c56::c57::c58::c59::c60::c61::c62::c63::c64::c65::c66::.slice cp m cc::(.int .i64 m)::u69::u70::u71::u72::u73::u74::u75::u76::u77::u78::u79::u80::u81::u82::u83::u84::u85::u86::u87::c88::c89::c90::c91::c92::c93::c94::c95::c96::c97::c98::c99::c100::c101::c102::c103::c104::c105::c106::c107::c108::c109::c110::c111::c112::c113::c114::c115::c116::c117::c118::c119::c120::c121::c122::c123::c124::c125::c126::c127::c128::c129::c130::c131::c132::c133::c134::c135::c136::c137::c138::c139::c140::c141::c142::c143::c144::c145::c146::c147::c148::c149::c150::c151::c152::c153::c154::c155::c156::c157::c158::c159::c160::c161::c162::c163::c164::c165::c166::c167::c168::c169::c170::c171::c172::c173::c174::c175::c176::c177::c178::c179::c180::c181::c182::c183::c184::c185::c186::c187::c188::c189::c190::c191::c192::c193::c194::c195::c196::[]).toArray,defers:=ds } w') :
  Code.wp Tryz.prog (Code.loop (aBody 4)) Q { tmps:=(c0::c1::c2::c3::c4::c5::c6::c7::c8::c9::c10::c11::c12::c13::(.int .i64 r)::.pointer (some ⟨bo,0,none⟩)::c16::c17::c18::c19::c20::c21::c22::c23::c24::c25::c26::c27::c28::c29::c30::c31::c32::c33::c34::c35::c36::c37::c38::c39::c40::c41::c42::c43::c44::c45::c46::c47::c48::c49::c50::c51::c52::c53::c54::c55::c56::c57::c58::c59::c60::c61::c62::c63::c64::c65::c66::.slice cp m cc::(.int .i64 m)::(.int .i64 0)::c70::c71::c72::c73::c74::c75::c76::c77::c78::c79::c80::c81::c82::c83::c84::c85::c86::c87::c88::c89::c90::c91::c92::c93::c94::c95::c96::c97::c98::c99::c100::c101::c102::c103::c104::c105::c106::c107::c108::c109::c110::c111::c112::c113::c114::c115::c116::c117::c118::c119::c120::c121::c122::c123::c124::c125::c126::c127::c128::c129::c130::c131::c132::c133::c134::c135::c136::c137::c138::c139::c140::c141::c142::c143::c144::c145::c146::c147::c148::c149::c150::c151::c152::c153::c154::c155::c156::c157::c158::c159::c160::c161::c162::c163::c164::c165::c166::c167::c168::c169::c170::c171::c172::c173::c174::c175::c176::c177::c178::c179::c180::c181::c182::c183::c184::c185::c186::c187::c188::c189::c190::c191::c192::c193::c194::c195::c196::[]).toArray,defers:=ds } w0:=by
 subst hm;exact allotL3 cs cp cc bo ob N r w0 ds c0 c1 c2 c3 c4 c5 c6 c7 c8 c9 c10 c11 c12 c13 c18 c19 c20 c21 c22 c23 c24 c25 c26 c27 c28 c29 c30 c31 c32 c33 c34 c35 c36 c37 c38 c39 c40 c41 c42 c43 c44 c45 c46 c47 c48 c49 c50 c51 c52 c53 c54 c55 c56 c57 c58 c59 c60 c61 c62 c63 c64 c65 c66 c88 c89 c90 c91 c92 c93 c94 c95 c96 c97 c98 c99 c100 c101 c102 c103 c104 c105 c106 c107 c108 c109 c110 c111 c112 c113 c114 c115 c116 c117 c118 c119 c120 c121 c122 c123 c124 c125 c126 c127 c128 c129 c130 c131 c132 c133 c134 c135 c136 c137 c138 c139 c140 c141 c142 c143 c144 c145 c146 c147 c148 c149 c150 c151 c152 c153 c154 c155 c156 c157 c158 c159 c160 c161 c162 c163 c164 c165 c166 c167 c168 c169 c170 c171 c172 c173 c174 c175 c176 c177 c178 c179 c180 c181 c182 c183 c184 c185 c186 c187 c188 c189 c190 c191 c192 c193 c194 c195 c196 c16 c17 c70 c71 c72 c73 c74 c75 c76 c77 c78 c79 c80 c81 c82 c83 c84 c85 c86 c87 HA hsz hc hbx hob hN1 hN2 hne hexit
set_option linter.unusedSimpArgs false in
theorem allotL2{Q:Exit->Act->World->Prop} (rs:List Rc) (dl ss:List Int) (rp gp cp sp:Option Addr) (rc gc cc sc ng sb cb bl la tk n m l base N kx0:Nat) (cs:List Cl) (x t0:Nat->Rat) (w0:World) (ds0:List Deferred) (c0 c1 c4 c5 c6 c8 c10 c11 c12 c13 c31 c32 c33 c34 c35 c36 c37 c38 c39 c40 c41 c42 c43 c44 c45 c46 c47 c48 c49 c50 c51 c52 c53 c54 c55 c56 c57 c196 c14 c15 c16 c17 c18 c19 c20 c21 c22 c23 c24 c25 c26 c27 c28 c29 c30 c61 c62 c63 c64 c65 c66 c67 c68 c69 c70 c71 c72 c73 c74 c75 c76 c77 c78 c79 c80 c81 c82 c83 c84 c85 c86 c87 c88 c89 c90 c91 c92 c93 c94 c95 c96 c97 c98 c99 c100 c101 c102 c103 c104 c105 c106 c107 c108 c109 c110 c111 c112 c113 c114 c115 c116 c117 c118 c119 c120 c121 c122 c123 c124 c125 c126 c127 c128 c129 c130 c131 c132 c133 c134 c135 c136 c137 c138 c139 c140 c141 c142 c143 c144 c145 c146 c147 c148 c149 c150 c151 c152 c153 c154 c155 c156 c157 c158 c159 c160 c161 c162 c163 c164 c165 c166 c167 c168 c169 c170 c171 c172 c173 c174 c175 c176 c177 c178 c179 c180 c181 c182 c183 c184 c185 c186 c187 c188 c189 c190 c191 c192 c193 c194 c195:Value)
  (hR:RivAt N w0 rs rp rc) (HA:At N w0 5 claimCells cs cp cc) (hm:cs.length=m) (hm2:m<=12) (hdl:dl=rs.map (·.down)) (hok:RivOK dl) (hn:rs.length=n) (hn2:n<=8) (hcl:ClOK n cs) (hcr:∀c∈cs,0<=c.rank/\c.rank<=100)
  (hN:N<=sb/\N<=cb/\N<=bl/\N<=la/\N<=tk) (hb:base<=w0.heap.size)
  (hss:∀A,Turned (fun i=>i=tk\/i=la) w0 A->∀(i:Nat) (r:Int),ss[i]? = some r->∃b a,sp=some ⟨b,a,none⟩/\A.cell? ⟨b,a+i,none⟩=some (.int .i64 r)) (hl:ss.length=l) (hl2:l<=200) (hup:RanksUp (cs.map (·.rank)) ss)
  (hsb:w0.heap[sb]? = some (.cells #[.slice rp n rc,.slice gp ng gc] 65 (0,0))) (hcb:w0.heap[cb]? = some (.cells #[.slice cp m cc] 26 (0,0))) (hbl:w0.heap[bl]? = some (.cells #[.slice (some ⟨la,0,none⟩) n n] 23 (0,0)))
  (hst:(OwnR w0 la (repL n (restQ (onN dl) n m (placeK cs) x t0))/\OwnR w0 tk (repL m t0)/\Marks base w0 ds0)/\RankedQ (onN dl) n m (placeK cs) (rankK cs) (amtK cs) x (rkB ss 0) t0/\SzQ (onN dl) n m (placeK cs) x t0 0 265 (fromN (rankK cs) (rkB ss 0) m) kx0)
  (hne:tk≠la/\(sb≠tk/\sb≠la)/\(cb≠tk/\cb≠la)/\(bl≠tk/\bl≠la))
  (hexit:∀(t:Nat->Rat) (ds:List Deferred) (u:Nat->Value) (w':World),OwnR w' tk (repL m t)->Marks base w' ds->FairQ (onN dl) n m (placeK cs) (rankK cs) (amtK cs) x t->(∀k,k < m->BytesQ (t k) 24000300)->Turned (fun i=>i=tk\/i=la) w0 w'->Q (.exit 2) { tmps:=(c0::c1::.pointer (some ⟨sb,0,none⟩)::.pointer (some ⟨cb,0,none⟩)::c4::c5::c6::.pointer (some ⟨bl,0,none⟩)::c8::.slice (some ⟨tk,0,none⟩) m m::c10::c11::c12::c13::u 14::u 15::u 16::u 17::u 18::u 19::u 20::u 21::u 22::u 23::u 24::u 25::u 26::u 27::u 28::u 29::u 30::c31::c32::c33::c34::c35::c36::c37::c38::c39::c40::c41::c42::c43::c44::c45::c46::c47::c48::c49::c50::c51::c52::c53::c54::c55::c56::c57::.slice sp l sc::(.int .i64 l)::u 60::u 61::u 62::u 63::u 64::u 65::u 66::u 67::u 68::u 69::u 70::u 71::u 72::u 73::u 74::u 75::u 76::u 77::u 78::u 79::u 80::u 81::u 82::u 83::u 84::u 85::u 86::u 87::u 88::u 89::u 90::u 91::u 92::u 93::u 94::u 95::u 96::u 97::u 98::u 99::u 100::u 101::u 102::u 103::u 104::u 105::u 106::u 107::u 108::u 109::u 110::u 111::u 112::u 113::u 114::u 115::u 116::u 117::u 118::u 119::u 120::u 121::u 122::u 123::u 124::u 125::u 126::u 127::u 128::u 129::u 130::u 131::u 132::u 133::u 134::u 135::u 136::u 137::u 138::u 139::u 140::u 141::u 142::u 143::u 144::u 145::u 146::u 147::u 148::u 149::u 150::u 151::u 152::u 153::u 154::u 155::u 156::u 157::u 158::u 159::u 160::u 161::u 162::u 163::u 164::u 165::u 166::u 167::u 168::u 169::u 170::u 171::u 172::u 173::u 174::u 175::u 176::u 177::u 178::u 179::u 180::u 181::u 182::u 183::u 184::u 185::u 186::u 187::u 188::u 189::u 190::u 191::u 192::u 193::u 194::u 195::c196::[]).toArray,defers:=ds } w') :
  Code.wpIn Fence.wide 0 Tryz.prog (Code.loop (aBody 2)) Q { tmps:=(c0::c1::.pointer (some ⟨sb,0,none⟩)::.pointer (some ⟨cb,0,none⟩)::c4::c5::c6::.pointer (some ⟨bl,0,none⟩)::c8::.slice (some ⟨tk,0,none⟩) m m::c10::c11::c12::c13::c14::c15::c16::c17::c18::c19::c20::c21::c22::c23::c24::c25::c26::c27::c28::c29::c30::c31::c32::c33::c34::c35::c36::c37::c38::c39::c40::c41::c42::c43::c44::c45::c46::c47::c48::c49::c50::c51::c52::c53::c54::c55::c56::c57::.slice sp l sc::(.int .i64 l)::(.int .i64 0)::c61::c62::c63::c64::c65::c66::c67::c68::c69::c70::c71::c72::c73::c74::c75::c76::c77::c78::c79::c80::c81::c82::c83::c84::c85::c86::c87::c88::c89::c90::c91::c92::c93::c94::c95::c96::c97::c98::c99::c100::c101::c102::c103::c104::c105::c106::c107::c108::c109::c110::c111::c112::c113::c114::c115::c116::c117::c118::c119::c120::c121::c122::c123::c124::c125::c126::c127::c128::c129::c130::c131::c132::c133::c134::c135::c136::c137::c138::c139::c140::c141::c142::c143::c144::c145::c146::c147::c148::c149::c150::c151::c152::c153::c154::c155::c156::c157::c158::c159::c160::c161::c162::c163::c164::c165::c166::c167::c168::c169::c170::c171::c172::c173::c174::c175::c176::c177::c178::c179::c180::c181::c182::c183::c184::c185::c186::c187::c188::c189::c190::c191::c192::c193::c194::c195::c196::[]).toArray,defers:=ds0 } w0:=by
 have HNE:=zh (And.intro hne hN);have HHA:=zh HA;have HHR:=zh hR;have HOK:=zh hok;have HCL:=zh hcl;have HCR:=zh hcr;have HMM:=zh hm;have HNN:=zh hn;have HDL:=zh hdl;have HBX:=zh (And.intro hsb (And.intro hcb hbl));have HSS:=zh hss;have HUP:=zh hup;have HLE:=zh hl;have HLL:=zh (And.intro (getElem?_lt hsb) (And.intro (getElem?_lt hcb) (And.intro (getElem?_lt hbl) (And.intro hst.1.1.lt hst.1.2.1.lt))));have HST:=zh hst;have HB:=zh hb;have HM2:=zh hm2;have HN2:=zh hn2;have HLN:Hid (N<=w0.heap.size):=zh (Nat.le_trans hN.1 (Nat.le_of_lt (getElem?_lt hsb)));have HNO:Hid (∀k,k < N->¬(k=tk\/k=la)):=zh (by
  obtain⟨-,-,-,h1,h2⟩:=hN;clear hne hst;intro k hk;omega)
 clear HA hR hok hcl hcr hm hn hdl hne hN hsb hcb hbl hst hb hm2 hn2 hss hup hl;obtain⟨I,hI⟩ : ∃I:Act->World->Prop,I=fun a w'=>∃(j:Nat) (t:Nat->Rat) (kx:Nat) (ds:List Deferred) (u:Nat->Value),(j<=l/\Hid (((OwnR w' la (repL n (restQ (onN dl) n m (placeK cs) x t))/\OwnR w' tk (repL m t)/\Marks base w' ds)/\RankedQ (onN dl) n m (placeK cs) (rankK cs) (amtK cs) x (rkB ss j) t/\SzQ (onN dl) n m (placeK cs) x t 0 265 (fromN (rankK cs) (rkB ss j) m) kx)/\Turned (fun i=>i=tk\/i=la) w0 w'))/\a={ tmps:=(c0::c1::.pointer (some ⟨sb,0,none⟩)::.pointer (some ⟨cb,0,none⟩)::c4::c5::c6::.pointer (some ⟨bl,0,none⟩)::c8::.slice (some ⟨tk,0,none⟩) m m::c10::c11::c12::c13::u 14::u 15::u 16::u 17::u 18::u 19::u 20::u 21::u 22::u 23::u 24::u 25::u 26::u 27::u 28::u 29::u 30::c31::c32::c33::c34::c35::c36::c37::c38::c39::c40::c41::c42::c43::c44::c45::c46::c47::c48::c49::c50::c51::c52::c53::c54::c55::c56::c57::.slice sp l sc::(.int .i64 l)::(.int .i64 j)::u 61::u 62::u 63::u 64::u 65::u 66::u 67::u 68::u 69::u 70::u 71::u 72::u 73::u 74::u 75::u 76::u 77::u 78::u 79::u 80::u 81::u 82::u 83::u 84::u 85::u 86::u 87::u 88::u 89::u 90::u 91::u 92::u 93::u 94::u 95::u 96::u 97::u 98::u 99::u 100::u 101::u 102::u 103::u 104::u 105::u 106::u 107::u 108::u 109::u 110::u 111::u 112::u 113::u 114::u 115::u 116::u 117::u 118::u 119::u 120::u 121::u 122::u 123::u 124::u 125::u 126::u 127::u 128::u 129::u 130::u 131::u 132::u 133::u 134::u 135::u 136::u 137::u 138::u 139::u 140::u 141::u 142::u 143::u 144::u 145::u 146::u 147::u 148::u 149::u 150::u 151::u 152::u 153::u 154::u 155::u 156::u 157::u 158::u 159::u 160::u 161::u 162::u 163::u 164::u 165::u 166::u 167::u 168::u 169::u 170::u 171::u 172::u 173::u 174::u 175::u 176::u 177::u 178::u 179::u 180::u 181::u 182::u 183::u 184::u 185::u 186::u 187::u 188::u 189::u 190::u 191::u 192::u 193::u 194::u 195::c196::[]).toArray,defers:=ds }:=⟨_,rfl⟩
 have HI:=zh hI;refine wpIn_loop I (fun a _=>l-tmpN a 60) ?_ ?_
 ·rw[hI];exact⟨0,t0,kx0,ds0,ex_fun ⟨Nat.zero_le _,zh ⟨HST.out,Turned.refl _ _⟩⟩ rfl⟩
 ·clear HST;intro a wr hinv;rw[hI] at hinv;clear hI;obtain⟨j,t,kx,ds,u,⟨hj,HH⟩,rfl⟩:=hinv;have HW1:Hid (∀A:World,Turned (fun i=>i=tk\/i=la) w0 A->A.heap[sb]? = some (.cells #[.slice rp n rc,.slice gp ng gc] 65 (0,0))/\A.heap[cb]? = some (.cells #[.slice cp m cc] 26 (0,0))/\A.heap[bl]? = some (.cells #[.slice (some ⟨la,0,none⟩) n n] 23 (0,0))/\RivAt N A rs rp rc/\At N A 5 claimCells cs cp cc):=zh fun A hA =>
   ⟨(hA.block sb HLL.out.1 (fun h=>h.elim HNE.out.1.2.1.1 HNE.out.1.2.1.2)).trans HBX.out.1,
   (hA.block cb HLL.out.2.1 (fun h=>h.elim HNE.out.1.2.2.1.1 HNE.out.1.2.2.1.2)).trans HBX.out.2.1,
   (hA.block bl HLL.out.2.2.1 (fun h=>h.elim HNE.out.1.2.2.2.1 HNE.out.1.2.2.2.2)).trans HBX.out.2.2,
   HHR.out.same (hA.same HLN.out fun k hk=>HNO.out k hk),HHA.out.same (hA.same HLN.out fun k hk=>HNO.out k hk)⟩
  conv=>arg 4;whnf
  by_cases hlt:j < l
  ·have hx:ss[j]? = some (ss[j]'(by rw[HLE.out];exact hlt)):=List.getElem?_eq_getElem _
   obtain⟨r,hr⟩ : ∃r,ss[j]'(by rw[HLE.out];exact hlt)=r:=⟨_,rfl⟩
   rw[hr] at hx;have HX:=zh hx;obtain⟨b,a,rfl,e0⟩:=HSS.out wr HH.out.2 j r hx;have e1:=cell_of_box (HW1.out wr HH.out.2).2.1;have hj0:(0:Int)<=j:=by omega
   have hj1:(j:Int) < l:=by omega
   have hmx:(m:Int)<=12:=by have:=HM2.out;omega
   have hmk:∀w:World,(Instr.makeSlice 104 (.int .i64 m) (.int .i64 m)).run Tryz.prog w=.ok (.slice (some ⟨w.heap.size,0,none⟩) m m) (w.alloc (.cells (Array.replicate m (.bool false)) 4)):=fun w=>make_bools w m (by have:=HM2.out;omega)
   have TB:=((zr wr).alloc (.cells (Array.replicate m (.bool false)) 4)).alloc (.cells #[.slice (some ⟨wr.heap.size,0,none⟩) m m] 104);have f1:=cellT TB id e1;have z0:OwnB ((wr.alloc (.cells (Array.replicate m (.bool false)) 4)).alloc (.cells #[.slice (some ⟨wr.heap.size,0,none⟩) m m] 104)) wr.heap.size (List.replicate m false):=(OwnB.made wr m).turned ((zr _).alloc _) id;have z1:=new_second wr (.cells (Array.replicate m (.bool false)) 4) (.cells #[.slice (some ⟨wr.heap.size,0,none⟩) m m] 104);have zs:((wr.alloc (.cells (Array.replicate m (.bool false)) 4)).alloc (.cells #[.slice (some ⟨wr.heap.size,0,none⟩) m m] 104)).heap.size=wr.heap.size+2:=by simp
   clear hx hr
   gi_wp2_with fail
   have hsz:=HH.out.2.size;obtain⟨w1,hw1⟩ : ∃w1,w1=(wr.alloc (.cells (Array.replicate m (.bool false)) 4)).alloc (.cells #[.slice (some ⟨wr.heap.size,0,none⟩) m m] 104):=⟨_,rfl⟩;rw[<- hw1] at TB z0 z1 zs ⊢;obtain⟨ob,hO⟩ : ∃o,wr.heap.size=o:=⟨_,rfl⟩;rw[hO] at z0 z1 zs hsz ⊢;have HTB:=zh TB;have hlb:(sb < ob/\cb < ob/\bl < ob)/\(la < ob/\tk < ob)/\N<=ob:=by
    have h:=HLL.out;have h2:=HLN.out;refine⟨⟨?_,?_,?_⟩,⟨?_,?_⟩,?_⟩ <;> omega
   have HLB:=zh hlb;have HOB:=zh hO;have HZS:=zh zs;have HSZ:=zh hsz;have HTW1:Hid (Turned (fun i=>i=tk\/i=la) w0 w1):=zh (HH.out.2.trans (TB.mono fun _ h=>h.elim))
   have HZ1:=zh z1;have HZ0:=zh z0;have hz0:=z0;clear TB e0 e1 f1 hw1 hlb hO zs hsz z0 z1 hmk;refine wpIn_wide.2 (allotL3m cs cp cc (ob+1) ob N m r w1 ds _ _ _ _ _ _ _ _ _ _ _ _ _ _ _ _ _ _ _ _ _ _ _ _ _ _ _ _ _ _ _ _ _ _ _ _ _ _ _ _ _ _ _ _ _ _ _ _ _ _ _ _ _ _ _ _ _ _ _ _ _ _ _ _ _ _ _ _ _ _ _ _ _ _ _ _ _ _ _ _ _ _ _ _ _ _ _ _ _ _ _ _ _ _ _ _ _ _ _ _ _ _ _ _ _ _ _ _ _ _ _ _ _ _ _ _ _ _ _ _ _ _ _ _ _ _ _ _ _ _ _ _ _ _ _ _ _ _ _ _ _ _ _ _ _ _ _ _ _ _ _ _ _ _ _ _ _ _ _ _ _ _ _ _ _ _ _ _ _ _ _ _ _ _ _ _ _ _ _ _ _ _ _ _ _ _ _ _ _ _ _ _ HMM.out (HW1.out w1 HTW1.out).2.2.2.2 (by omega) (fun c hc=>(HCL.out c hc).2.2.1) HZ1.out hz0 (by have:=HLB.out.2.2;omega) HLB.out.2.2 (by omega) ?_)
   intro z0 z1 z2 z3 z4 z5 z6 z7 z8 z9 z10 z11 z12 z13 z14 z15 z16 z17 z18 z19 z20 w2 ho2 t2;have HO2:=zh ho2;have HT2:=zh t2;clear ho2 t2 hz0;have HZR:Hid (∀W,Calls Tryz.prog 57 #[] W fun e w'=>e=.returned (.agg #[.bool false,.string ⟨#[]⟩,.string ⟨#[]⟩])/\Turned (fun _=>False) W w'):=zh hZero_any
   gi_wp2_with (refine⟨trivial,rfl,(callsIn_wide.2 (HZR.out _)).mono ?_⟩;rintro e w3 ⟨rfl,t3⟩;have HT3:=zh t3;clear t3)
   have T4:=(zr w3).alloc (.cells #[.bool false,.string ⟨#[]⟩,.string ⟨#[]⟩] 68);have y1:=World.alloc_heap_new w3 (.cells #[.bool false,.string ⟨#[]⟩,.string ⟨#[]⟩] 68);obtain⟨w4,hw4⟩ : ∃w4,w4=w3.alloc (.cells #[.bool false,.string ⟨#[]⟩,.string ⟨#[]⟩] 68):=⟨_,rfl⟩;rw[<- hw4] at T4 y1 ⊢;obtain⟨P,hP⟩ : ∃o,w3.heap.size=o:=⟨_,rfl⟩;rw[hP] at y1 ⊢;have hPo:ob+2<=P:=by
    have h1:=HT2.out.size;have h2:=HT3.out.size;have h3:=HZS.out;omega
   have HPO:=zh hPo;have HT24:Hid (Turned (fun _=>False) w2 w4):=zh (HT3.out.trans T4)
   have HTW4:Hid (Turned (fun i=>i=tk\/i=la) w0 w4):=zh ((HTW1.out.cut HT2.out fun g hg=>Or.inr (by have:=HSZ.out;omega)).trans (HT24.out.mono fun _ h=>h.elim))
   have hrs:=rk_skip HUP.out (fun y hy=>by
    obtain⟨c,hc,rfl⟩:=List.mem_map.1 hy;exact(HCR.out c hc).1) HX.out
   have HRS:=zh hrs;have HRK:Hid (rkB ss (j+1)=r+1):=zh (by
    show ss.getD j 0+1=r+1;rw[List.getD_eq_getElem?_getD,HX.out];rfl)
   have HY1:=zh y1;have HST4:Hid (OwnR w4 la (repL n (restQ (onN dl) n m (placeK cs) x t))/\OwnR w4 tk (repL m t)/\OwnB w4 ob (bL m (firstOpen (rankK cs) (amtK cs) r))/\w4.heap[P]? = some (.cells #[.bool (repR 0).neg,.string (repR 0).num,.string (repR 0).den] 68 (0,0))/\Marks base w4 ds):=zh (by
    refine⟨((HH.out.1.1.1.turned HTB.out id).turned HT2.out (by have:=HLB.out.2.1;omega)).turned HT24.out id,((HH.out.1.1.2.1.turned HTB.out id).turned HT2.out (by have:=HLB.out.2.1;omega)).turned HT24.out id,HO2.out.turned HT24.out id,HY1.out,((HH.out.1.1.2.2.turned HTB.out fun _ _ h=>h.elim).turned HT2.out fun i o hi ho y hy=>?_).turned HT24.out fun _ _ h=>h.elim⟩
    subst hi;have h1:=HZ0.out;unfold OwnB at h1;rw[h1] at ho;cases ho
    cases hy)
   clear hw4 hP hPo T4 y1 hrs;refine allotL4 rs dl rp gp cp rc gc cc ng sb cb bl la tk (ob+1) ob P n m base N kx cs x t (firstOpen (rankK cs) (amtK cs) r) 0 r w4 ds _ _ _ _ _ _ _ _ _ _ _ _ _ _ _ _ _ _ _ _ _ _ _ _ _ _ _ _ _ _ _ _ _ _ _ _ _ _ _ _ _ _ _ _ _ _ _ _ _ _ _ _ _ _ _ _ _ _ _ _ _ _ _ _ _ _ _ _ _ _ _ _ _ _ _ _ _ _ _ _ _ _ _ _ _ _ _ _ _ _ _ _ _ _ _ _ _ _ _ _ _ _ _ _ _ _ _ _ _ _ _ _ _ _ _ _ _ _ _ _ _ _ _ _ _ _ _ _ _ _ _ _ _ _ _ _ _ _ _ _ _ _ _ _ _ _ _ _ _ _ _ _ _ _ _ _ _ _ _ _ _ _ _ _ _ _ _ _ _ _ _ _ _ _ _ _ _ _ _ _ _ _ _ _ _ _ _ _ _ _ (HW1.out w4 HTW4.out).2.2.2.1 (HW1.out w4 HTW4.out).2.2.2.2 HMM.out HM2.out HDL.out HOK.out HNN.out HN2.out HCL.out ?hN4 (Nat.le_trans HB.out HTW4.out.size)
    (HW1.out w4 HTW4.out).1 (HW1.out w4 HTW4.out).2.1 (HW1.out w4 HTW4.out).2.2.1 (keepB HT24.out ((HT2.out.block (ob+1) (by have:=HZS.out;omega) (by omega)).trans HZ1.out)) HST4.out
    ⟨rank_first (rank_skip HH.out.1.2.1 HRS.out.1 fun k hk=>HRS.out.2 _ (rankK_mem (by rw[HMM.out];exact hk))),HH.out.1.2.2.less (left_from HRS.out.1)⟩ ?hne4 ?_
   case hN4 =>
    have h1:=HNE.out.2;have h2:=HLB.out.2.2;have h3:=HPO.out;exact⟨h1.1,h1.2.1,h1.2.2.1,h1.2.2.2.1,h1.2.2.2.2,by omega,h2,by omega⟩
   case hne4 =>
    have h1:=HNE.out.1;obtain⟨⟨b1,b2,b3⟩,⟨b4,b5⟩,-⟩:=HLB.out;have h3:=HPO.out;refine⟨⟨h1.1,?_,?_⟩,⟨h1.2.1.1,h1.2.1.2,?_⟩,⟨h1.2.2.1.1,h1.2.2.1.2,?_⟩,⟨h1.2.2.2.1,h1.2.2.2.2,?_⟩,⟨?_,?_,?_⟩,?_,?_,?_,?_,?_,?_,?_⟩ <;> clear h1 <;> omega
   intro t9 op9 p9 kx9 ds9 v w9 hla9 htk9 hmk9 hpl9 hsome tt9;have HF:Hid (((OwnR w9 la (repL n (restQ (onN dl) n m (placeK cs) x t9))/\OwnR w9 tk (repL m t9)/\Marks base w9 ds9)/\RankedQ (onN dl) n m (placeK cs) (rankK cs) (amtK cs) x (rkB ss (j+1)) t9/\SzQ (onN dl) n m (placeK cs) x t9 0 265 (fromN (rankK cs) (rkB ss (j+1)) m) kx9)/\Turned (fun i=>i=tk\/i=la) w0 w9):=zh (by
    refine⟨⟨⟨hla9,htk9,hmk9⟩,?_,?_⟩,HTW4.out.cut tt9 fun g hg=>?_⟩
    ·rw[HRK.out];exact rank_last hpl9.1 hsome
    ·rw[HRK.out];exact hpl9.2.again (by decide) from_left
    ·rcases hg with hg | hg | hg | hg
     ·exact Or.inl (Or.inl hg)
     ·exact Or.inl (Or.inr hg)
     ·exact Or.inr (by have:=HSZ.out;omega)
     ·exact Or.inr (by have:=HSZ.out;have:=HPO.out;omega))
   clear hla9 htk9 hmk9 hpl9 hsome tt9
   gi_wp2_with fail
   refine⟨?_,?_⟩
   ·rw[HI.out];exact⟨j+1,t9,kx9,ds9,ex_fun ⟨hlt,HF⟩ rfl⟩
   ·simp[tmpN];omega
  ·obtain rfl:j=l:=by omega
   gi_wp2_with fail
   have hfair:FairQ (onN dl) n m (placeK cs) (rankK cs) (amtK cs) x t:=rank_end HH.out.1.2.1 fun k hk=>by
    have:=rk_end HUP.out _ (rankK_mem (cs:=cs) (by rw[HMM.out];exact hk))
    rwa [HLE.out] at this
   have hq:=fun v=>hexit t ds v wr HH.out.1.1.2.1 HH.out.1.1.2.2 hfair (fun k hk=>(HH.out.1.2.2.take k hk).mono (by have:=HH.out.1.2.2.bound;omega)) HH.out.2
   refine all_fun (Q:=fun a=>Q (.exit 2) a wr) hq ?_
   rfl
open Go.Maps Go.Sort Go.Shelf
attribute [local go_sem ↓] run_eql_rat' run_neq_rat'
theorem make_rats(w:World) (m:Nat) (hm:m<=1000):(Instr.makeSlice 23 (.int .i64 m) (.int .i64 m)).run Tryz.prog w=.ok (.slice (some ⟨w.heap.size,0,none⟩) m m) (w.alloc (.cells (madeCells #[.bool false,.string ⟨#[]⟩,.string ⟨#[]⟩] (m*3)) 68)):=by
 obtain⟨i0,hif,hz0,hz1,hz2⟩:=info_parts infoRat;have h:=run_make (P:=Tryz.prog) w 23 68 i0 (ratV zeroR) Tryz.underlying23 hif hz0 .i64 .i64 m m (by omega) (Int.le_refl _) (by rw[hz2];omega) (by omega)
 simpa [hz1,Value.cells,zeroR] using h
theorem row_ints{w:World} {base l:Nat} {v:Value} {ss:List Int} (h:w.ownsRow base 3 1 v l (ss.map encZ)):∃p c,v=.slice p l c/\∀(i:Nat) (r:Int),ss[i]? = some r->∃b,p=some ⟨b,0,none⟩/\base<=b/\b < w.heap.size/\w.cell? ⟨b,i,none⟩=some (.int .i64 r):=by
 obtain⟨h1,h2⟩:=h;rw[List.length_map,Nat.mul_one] at h1;rcases h2 with⟨rfl,h2⟩ | ⟨g,cap,cur,rfl,hb,hg,h4,h5,h6,h7⟩
 ·exact⟨none,0,by rw[h2],fun i r hi=>by
   have:=(List.getElem?_eq_some_iff.1 hi).1;omega⟩
 ·refine⟨_,_,rfl,fun i r hi=>⟨g,rfl,hb,getElem?_lt hg,?_⟩⟩
  have hlt:=(List.getElem?_eq_some_iff.1 hi).1;have h8:(ss.map encZ)[i]? = some (.int .i64 r):=by
   rw[List.getElem?_map,hi];rfl
  rw[<- h7,List.getElem?_take_of_lt (by omega)] at h8
  simp only[World.cell?,hg];simpa using h8
theorem allotL1m{Q:Exit->Act->World->Prop} (cs:List Cl) (cp:Option Addr) (cc mb N m:Nat) (w0:World) (ds:List Deferred) (c0 c1 c2 c3 c4 c5 c6 c7 c8 c9 c11 c13 c14 c15 c16 c17 c18 c19 c20 c21 c22 c23 c24 c25 c26 c27 c28 c29 c30 c31 c32 c33 c34 c35 c36 c37 c38 c39 c40 c41 c42 c43 c44 c45 c56 c57 c58 c59 c60 c61 c62 c63 c64 c65 c66 c67 c68 c69 c70 c71 c72 c73 c74 c75 c76 c77 c78 c79 c80 c81 c82 c83 c84 c85 c86 c87 c88 c89 c90 c91 c92 c93 c94 c95 c96 c97 c98 c99 c100 c101 c102 c103 c104 c105 c106 c107 c108 c109 c110 c111 c112 c113 c114 c115 c116 c117 c118 c119 c120 c121 c122 c123 c124 c125 c126 c127 c128 c129 c130 c131 c132 c133 c134 c135 c136 c137 c138 c139 c140 c141 c142 c143 c144 c145 c146 c147 c148 c149 c150 c151 c152 c153 c154 c155 c156 c157 c158 c159 c160 c161 c162 c163 c164 c165 c166 c167 c168 c169 c170 c171 c172 c173 c174 c175 c176 c177 c178 c179 c180 c181 c182 c183 c184 c185 c186 c187 c188 c189 c190 c191 c192 c193 c194 c195 c196 c12 c49 c50 c51 c52 c53 c54 c55:Value)
  (hm:cs.length=m) (HA:At N w0 5 claimCells cs cp cc) (hsz:m<=200) (hr:∀c∈cs,0<=c.rank/\c.rank<=100) (hown:w0.ownsMap Tryz.prog 3 (plainElem (H:=Nat) Tryz.prog 4) mb 0 (.map [])) (hN:N<=mb)
  (hexit:∀(u12 u48 u49 u50 u51 u52 u53 u54 u55:Value) (w':World),w'.ownsMap Tryz.prog 3 (plainElem (H:=Nat) Tryz.prog 4) mb m (ranksD (cs.map (·.rank)))->Turned (fun i=>i=mb) w0 w'->Q (.exit 0) { tmps:=(c0::c1::c2::c3::c4::c5::c6::c7::c8::c9::.map (some mb)::c11::u12::c13::c14::c15::c16::c17::c18::c19::c20::c21::c22::c23::c24::c25::c26::c27::c28::c29::c30::c31::c32::c33::c34::c35::c36::c37::c38::c39::c40::c41::c42::c43::c44::c45::.slice cp m cc::(.int .i64 m)::u48::u49::u50::u51::u52::u53::u54::u55::c56::c57::c58::c59::c60::c61::c62::c63::c64::c65::c66::c67::c68::c69::c70::c71::c72::c73::c74::c75::c76::c77::c78::c79::c80::c81::c82::c83::c84::c85::c86::c87::c88::c89::c90::c91::c92::c93::c94::c95::c96::c97::c98::c99::c100::c101::c102::c103::c104::c105::c106::c107::c108::c109::c110::c111::c112::c113::c114::c115::c116::c117::c118::c119::c120::c121::c122::c123::c124::c125::c126::c127::c128::c129::c130::c131::c132::c133::c134::c135::c136::c137::c138::c139::c140::c141::c142::c143::c144::c145::c146::c147::c148::c149::c150::c151::c152::c153::c154::c155::c156::c157::c158::c159::c160::c161::c162::c163::c164::c165::c166::c167::c168::c169::c170::c171::c172::c173::c174::c175::c176::c177::c178::c179::c180::c181::c182::c183::c184::c185::c186::c187::c188::c189::c190::c191::c192::c193::c194::c195::c196::[]).toArray,defers:=ds } w') :
  Code.wp Tryz.prog (Code.loop (aBody 0)) Q { tmps:=(c0::c1::c2::c3::c4::c5::c6::c7::c8::c9::.map (some mb)::c11::c12::c13::c14::c15::c16::c17::c18::c19::c20::c21::c22::c23::c24::c25::c26::c27::c28::c29::c30::c31::c32::c33::c34::c35::c36::c37::c38::c39::c40::c41::c42::c43::c44::c45::.slice cp m cc::(.int .i64 m)::(.int .i64 0)::c49::c50::c51::c52::c53::c54::c55::c56::c57::c58::c59::c60::c61::c62::c63::c64::c65::c66::c67::c68::c69::c70::c71::c72::c73::c74::c75::c76::c77::c78::c79::c80::c81::c82::c83::c84::c85::c86::c87::c88::c89::c90::c91::c92::c93::c94::c95::c96::c97::c98::c99::c100::c101::c102::c103::c104::c105::c106::c107::c108::c109::c110::c111::c112::c113::c114::c115::c116::c117::c118::c119::c120::c121::c122::c123::c124::c125::c126::c127::c128::c129::c130::c131::c132::c133::c134::c135::c136::c137::c138::c139::c140::c141::c142::c143::c144::c145::c146::c147::c148::c149::c150::c151::c152::c153::c154::c155::c156::c157::c158::c159::c160::c161::c162::c163::c164::c165::c166::c167::c168::c169::c170::c171::c172::c173::c174::c175::c176::c177::c178::c179::c180::c181::c182::c183::c184::c185::c186::c187::c188::c189::c190::c191::c192::c193::c194::c195::c196::[]).toArray,defers:=ds } w0:=by
 subst hm;exact allotL1 cs cp cc mb N w0 ds c0 c1 c2 c3 c4 c5 c6 c7 c8 c9 c11 c13 c14 c15 c16 c17 c18 c19 c20 c21 c22 c23 c24 c25 c26 c27 c28 c29 c30 c31 c32 c33 c34 c35 c36 c37 c38 c39 c40 c41 c42 c43 c44 c45 c56 c57 c58 c59 c60 c61 c62 c63 c64 c65 c66 c67 c68 c69 c70 c71 c72 c73 c74 c75 c76 c77 c78 c79 c80 c81 c82 c83 c84 c85 c86 c87 c88 c89 c90 c91 c92 c93 c94 c95 c96 c97 c98 c99 c100 c101 c102 c103 c104 c105 c106 c107 c108 c109 c110 c111 c112 c113 c114 c115 c116 c117 c118 c119 c120 c121 c122 c123 c124 c125 c126 c127 c128 c129 c130 c131 c132 c133 c134 c135 c136 c137 c138 c139 c140 c141 c142 c143 c144 c145 c146 c147 c148 c149 c150 c151 c152 c153 c154 c155 c156 c157 c158 c159 c160 c161 c162 c163 c164 c165 c166 c167 c168 c169 c170 c171 c172 c173 c174 c175 c176 c177 c178 c179 c180 c181 c182 c183 c184 c185 c186 c187 c188 c189 c190 c191 c192 c193 c194 c195 c196 c12 c49 c50 c51 c52 c53 c54 c55 HA hsz hr hown hN hexit
set_option linter.unusedSimpArgs false in
theorem hAllot_any(rs:List Rc) (us:List Rv) (cs:List Cl) (rp gp cp:Option Addr) (rc gc cc:Nat) (W:World) (hr:RivAt W.heap.size W rs rp rc) (hg:At W.heap.size W 3 ratCells us gp gc) (hc:At W.heap.size W 5 claimCells cs cp cc)
  (hok:supE rs us cs=0) (hn8:rs.length<=8) (hm12:cs.length<=12) (su:∀u∈us,SzR u 20) (sc:∀c∈cs,SzR c.amt 20) :
  Calls Tryz.prog 28 #[.agg #[.slice rp rs.length rc,.slice gp us.length gc],.slice cp cs.length cc] W fun e w'=>∃tk t,e=.returned (.tuple #[.slice (some ⟨tk,0,none⟩) cs.length cs.length,.int .i64 0])/\W.heap.size<=tk/\OwnR w' tk (repL cs.length t) /\
   FairQ (onN (rs.map (·.down))) rs.length cs.length (placeK cs) (rankK cs) (amtK cs) (fun p=>qR (us.getD p zeroR)) t/\(∀k,k < cs.length->BytesQ (t k) 24000300)/\Turned (fun _=>False) W w':=by
 have hS:=supE_zero hok;have HCK:=zh (fun A (hA:Turned (fun _=>False) W A)=>hCheck_any rs us cs rp gp cp rc gc cc A ((hr.turned hA).mono hA.size) ((hg.turned hA).mono hA.size) ((hc.turned hA).mono hA.size) (fun u hu=>(su u hu).mono (by omega)) (fun c hc=>(sc c hc).mono (by omega)))
 have HPS:=zh (fun A (hA:Turned (fun _=>False) W A)=>hPassing_any rs us rp gp rc gc 20 A ((hr.turned hA).mono hA.size) ((hg.turned hA).mono hA.size) (supE_nil hok) (by omega) su)
 obtain⟨dl,hdl⟩ : ∃dl,rs.map (·.down)=dl:=⟨_,rfl⟩;obtain⟨x,hx⟩ : ∃x:Nat->Rat,(fun p=>qR (us.getD p zeroR))=x:=⟨_,rfl⟩
 obtain⟨n,hn⟩ : ∃n,rs.length=n:=⟨_,rfl⟩;obtain⟨m,hm⟩ : ∃m,cs.length=m:=⟨_,rfl⟩;have hul:us.length=n:=by rw[hS.len,hn]
 have hrk:=hS.riv;have hpass:repL n (passF dl us)=repL n (restQ (onN dl) n m (placeK cs) x fun _=>0):=repL_congr fun g _=>by
  rw[rest_zero,pass_sum (by rw[<- hdl];exact hrk.endsN),hul,hx]
 rw[hok,hul,hn,hm] at HCK;rw[hul,hn,hdl,hpass] at HPS;rw[hdl] at hrk;rw[hul,hn,hm,hdl,hx];have HRK:=zh hrk;have HCL:Hid (ClOK n cs):=zh fun c hc=>⟨(hS.cl c hc).1,by rw[<- hn];exact(hS.cl c hc).2.1,(hS.cl c hc).2.2.2.2,sc c hc⟩
 have HCR:Hid (∀c∈cs,0<=c.rank/\c.rank<=100):=zh fun c hc=>⟨(hS.cl c hc).2.2.1,(hS.cl c hc).2.2.2.1⟩
 have HXB:Hid (∀p,BytesQ (x p) 21/\0<=x p):=zh fun p=>by
  rw[<- hx];show BytesQ (qR (us.getD p zeroR)) 21/\0<=qR (us.getD p zeroR);rw[List.getD_eq_getElem?_getD];cases hk:us[p]? with
  | none=>exact⟨bytes_zero 20,qR_nonneg rfl⟩
  | some u =>
   have h1:=su u (List.mem_of_getElem? hk);exact⟨qR_bytes h1.1 h1.2,qR_nonneg (natR_valid (hS.nat u (List.mem_of_getElem? hk))).2⟩
 have HRC:=zh (And.intro hr (And.intro hg hc));have HN8:Hid (n<=8):=zh (by rw[<- hn];exact hn8)
 have HM12:Hid (m<=12):=zh (by rw[<- hm];exact hm12)
 have HNN:=zh hn;have HMM:=zh hm;have HDL:=zh hdl;have T2:=((zr W).alloc (.cells #[.slice rp n rc,.slice gp n gc] 65)).alloc (.cells #[.slice cp m cc] 26);have n0:=new_first W (.cells #[.slice rp n rc,.slice gp n gc] 65) (.cells #[.slice cp m cc] 26);have n1:=new_second W (.cells #[.slice rp n rc,.slice gp n gc] 65) (.cells #[.slice cp m cc] 26);have n2:((W.alloc (.cells #[.slice rp n rc,.slice gp n gc] 65)).alloc (.cells #[.slice cp m cc] 26)).heap.size=W.heap.size+2:=by simp
 have hmk:∀w:World,(Instr.makeSlice 23 (.int .i64 m) (.int .i64 m)).run Tryz.prog w=.ok (.slice (some ⟨w.heap.size,0,none⟩) m m) (w.alloc (.cells (madeCells #[.bool false,.string ⟨#[]⟩,.string ⟨#[]⟩] (m*3)) 68)):=fun w=>make_rats w m (by have:=HM12.out;omega)
 have HMK:=zh hmk;clear hr hg hc hok hn8 hm12 su sc hS hdl hx hn hm hul hrk hpass hmk;refine callsIn_wide (n:=0).1 ?_;refine callsIn_of_wp_marks Tryz.func28 rfl trivial ?_ rfl;simp only[Tryz.ntmps28,List.size_toArray,List.length_cons,List.length_nil,Nat.reduceAdd,Nat.reduceSub,Array.replicate_succ,Array.replicate_zero,List.push_toArray,List.append_toArray,List.nil_append,List.cons_append]
 gi_wp2_with fail
 obtain⟨w0,hw0⟩ : ∃w,w=(W.alloc (.cells #[.slice rp n rc,.slice gp n gc] 65)).alloc (.cells #[.slice cp m cc] 26):=⟨_,rfl⟩;rw[<- hw0] at T2 n0 n1 n2 ⊢;obtain⟨B,hB⟩ : ∃o,W.heap.size=o:=⟨_,rfl⟩;rw[hB] at n0 n1 n2 ⊢;have HBB:=zh hB;have HT0:=zh T2;have HB0:=zh (And.intro n0 (And.intro n1 n2));clear hw0 T2 n0 n1 n2 hB;refine⟨trivial,rfl,(callsIn_wide.2 (HCK.out w0 HT0.out)).mono ?_⟩;rintro e w1 ⟨rfl,t1⟩;have HT1:=zh (HT0.out.trans t1);have HB1:=zh (And.intro (keepB t1 HB0.out.1) (And.intro (keepB t1 HB0.out.2.1) (Nat.le_trans (Nat.le_of_eq HB0.out.2.2.symm) t1.size)));have d0:w1.cell? ⟨B,0,none⟩=some (.slice rp n rc):=by simp[World.cell?,HB1.out.1]
 have d1:w1.cell? ⟨B,1,none⟩=some (.slice gp n gc):=by simp[World.cell?,HB1.out.1]
 clear t1 HB0 HT0;have hmk:=HMK.out;have hmm:∀w:World,(Instr.makeMap 99 none).run Tryz.prog w=.ok (.map (some w.heap.size)) (w.alloc (.map #[] 0)):=fun w=>rfl
 have hmx:(m:Int)<=12:=by have:=HM12.out;omega
 gi_wp2_with (refine⟨trivial,rfl,(callsIn_wide.2 (HPS.out w1 HT1.out)).mono ?_⟩;rintro e w2 ⟨la,rfl,hla,ho,t2⟩;have HT2:=zh (HT1.out.trans t2);have HB2:=zh (And.intro (keepB t2 HB1.out.1) (And.intro (keepB t2 HB1.out.2.1) (Nat.le_trans HB1.out.2.2 t2.size)));have HLA:=zh (And.intro (Nat.le_trans HB1.out.2.2 hla) ho);have fA:=cellT ((zr w2).alloc (.cells #[.slice (some ⟨la,0,none⟩) n n] 23)) id (cell_of_box HB2.out.2.1);have fC:=cellT ((((zr w2).alloc (.cells #[.slice (some ⟨la,0,none⟩) n n] 23)).alloc (.cells (madeCells #[.bool false,.string ⟨#[]⟩,.string ⟨#[]⟩] (m*3)) 68)).alloc (.map #[] 0)) id (cell_of_box HB2.out.2.1);clear t2 hla ho)
 have q0:=keepB ((zr _).alloc (.map #[] 0)) (new_first w2 (.cells #[.slice (some ⟨la,0,none⟩) n n] 23) (.cells (madeCells #[.bool false,.string ⟨#[]⟩,.string ⟨#[]⟩] (m*3)) 68));have q1:=(OwnR.made (w2.alloc (.cells #[.slice (some ⟨la,0,none⟩) n n] 23)) m).turned ((zr _).alloc (.map #[] 0)) id;have q2:=World.ownsMap_made ((w2.alloc (.cells #[.slice (some ⟨la,0,none⟩) n n] 23)).alloc (.cells (madeCells #[.bool false,.string ⟨#[]⟩,.string ⟨#[]⟩] (m*3)) 68)) Tryz.prog 3 (plainElem (H:=Nat) Tryz.prog 4);have q3:=(((zr w2).alloc (.cells #[.slice (some ⟨la,0,none⟩) n n] 23)).alloc (.cells (madeCells #[.bool false,.string ⟨#[]⟩,.string ⟨#[]⟩] (m*3)) 68)).alloc (.map #[] 0);have q4:(((w2.alloc (.cells #[.slice (some ⟨la,0,none⟩) n n] 23)).alloc (.cells (madeCells #[.bool false,.string ⟨#[]⟩,.string ⟨#[]⟩] (m*3)) 68)).alloc (.map #[] 0)).heap.size=w2.heap.size+3:=by simp
 have q5:((w2.alloc (.cells #[.slice (some ⟨la,0,none⟩) n n] 23)).alloc (.cells (madeCells #[.bool false,.string ⟨#[]⟩,.string ⟨#[]⟩] (m*3)) 68)).heap.size=w2.heap.size+1+1:=by simp
 have q6:(w2.alloc (.cells #[.slice (some ⟨la,0,none⟩) n n] 23)).heap.size=w2.heap.size+1:=by simp
 rw[q5] at q2;rw[q6] at q1;obtain⟨w3,hw3⟩ : ∃w,w=((w2.alloc (.cells #[.slice (some ⟨la,0,none⟩) n n] 23)).alloc (.cells (madeCells #[.bool false,.string ⟨#[]⟩,.string ⟨#[]⟩] (m*3)) 68)).alloc (.map #[] 0):=⟨_,rfl⟩;rw[<- hw3] at q0 q1 q2 q3 q4 ⊢;obtain⟨C,hC⟩ : ∃o,w2.heap.size=o:=⟨_,rfl⟩;rw[hC] at q0 q1 q2 q4 ⊢;have HQ:=zh (And.intro q0 (And.intro q1 (And.intro q3 q4)));have hq2:=q2;have HT3:Hid (Turned (fun _=>False) W w3):=zh (HT2.out.trans q3)
 have HCC:=zh hC;have HBC:Hid (B+2<=C):=zh (by rw[<- hC];exact HB2.out.2.2)
 clear fA fC q0 q1 q2 q3 q4 q5 q6 hw3 hC d0 d1 hmk hmm HMK HPS HCK;refine wpIn_wide.2 (allotL1m cs cp cc (C+1+1) B m w3 [] _ _ _ _ _ _ _ _ _ _ _ _ _ _ _ _ _ _ _ _ _ _ _ _ _ _ _ _ _ _ _ _ _ _ _ _ _ _ _ _ _ _ _ _ _ _ _ _ _ _ _ _ _ _ _ _ _ _ _ _ _ _ _ _ _ _ _ _ _ _ _ _ _ _ _ _ _ _ _ _ _ _ _ _ _ _ _ _ _ _ _ _ _ _ _ _ _ _ _ _ _ _ _ _ _ _ _ _ _ _ _ _ _ _ _ _ _ _ _ _ _ _ _ _ _ _ _ _ _ _ _ _ _ _ _ _ _ _ _ _ _ _ _ _ _ _ _ _ _ _ _ _ _ _ _ _ _ _ _ _ _ _ _ _ _ _ _ _ _ _ _ _ _ _ _ _ _ _ _ _ _ _ _ _ _ _ _ _ _ _ _ _ _ HMM.out ((HRC.out.2.2.turned HT3.out).mono (by rw[HBB.out];exact Nat.le_refl _) ) (by omega) HCR.out (by exact hq2) (by have:=HBC.out;omega) ?_)
 intro z0 z1 z2 z3 z4 z5 z6 z7 z8 w4 hown4 t4;have hsz4:Maps.size (ranksD (cs.map (·.rank)):DataW Nat)<=m:=by
  have:=ranksD_size (H:=Nat) (cs.map (·.rank));rwa [List.length_map,HMM.out] at this
 have HSR:=zh (slSorted_any (C+1+1) m (ranksD (cs.map (·.rank))) (plainElem (H:=Nat) Tryz.prog 4) w4 hown4 (by unfold maxLen;omega) (by omega))
 have HT4:=zh t4;clear hown4 t4 hsz4 hq2
 gi_wp2_with (first
  | (refine⟨trivial,rfl,(callsIn_wide.2 (mapsKeys_any _ _)).mono ?_⟩;rintro e w5 ⟨rfl,rfl⟩)
  | (refine⟨trivial,rfl,(callsIn_wide.2 HSR.out).mono ?_⟩;rintro e w6 ⟨v,ss,rfl,hperm,hrow,-,hbel⟩;obtain⟨sp,sc,rfl,hcell⟩:=row_ints hrow;have HSO:=zh (And.intro hperm (And.intro hcell hbel));clear hperm hrow hcell hbel))
 have hlen:ss.length<=m:=by
  obtain⟨es,h1,h2⟩:=ranksD_keys (H:=Nat) (cs.map (·.rank));have h3:=HSO.out.1;rw[h1] at h3;have h4:=h3.length_eq;have h5:(intKeys (DataW.map es:DataW Nat)).length=es.length:=List.length_map ..;have h6:=h2.len;rw[List.length_map,HMM.out] at h6;omega
 have hup:=ranksUp_of HSO.out.1;have hsl:(ss.mergeSort fun x y=>decide (x<=y)).length=ss.length:=(List.mergeSort_perm ss _).length_eq
 obtain⟨so,hso⟩ : ∃so,(ss.mergeSort fun x y=>decide (x<=y))=so:=⟨_,rfl⟩
 rw[hso] at hup hsl;have T46:=((zr w4).alloc (.cells #[.map (some (C+1+1))] 99)).trans (Turned.of_new (C:=fun _=>False) HSO.out.2.2)
 have T36:Turned (fun i=>i=C+1+1) w3 w6:=HT4.out.trans (T46.mono fun _ h=>h.elim)
 have hsz3:=HQ.out.2.2.2;have hc2:=HCC.out;have hK:∀(b:Nat) (o:Obj),w2.heap[b]? = some o->w6.heap[b]? = some o:=fun b o hb=>(T36.block b (by have:=getElem?_lt (keepB HQ.out.2.2.1 hb);exact this) (by have:=getElem?_lt hb;omega)).trans (keepB HQ.out.2.2.1 hb)
 have hlaC:=HLA.out.2.lt;have hlaB:=HLA.out.1;have hbc:=HBC.out;have hT6:Turned (fun _=>False) W w6:=HT3.out.fresh T36 fun g hg=>by have:=HBB.out;omega
 have hst6:(OwnR w6 la (repL n (restQ (onN dl) n m (placeK cs) x fun _=>0))/\OwnR w6 (C+1) (repL m fun _=>0)/\Marks B w6 [])/\RankedQ (onN dl) n m (placeK cs) (rankK cs) (amtK cs) x (rkB so 0) (fun _=>0)/\SzQ (onN dl) n m (placeK cs) x (fun _=>0) 0 265 (fromN (rankK cs) (rkB so 0) m) 177:=by
  refine⟨⟨hK la _ HLA.out.2,?_,Marks.nil _ _⟩,rank_start (fun k _=>amtK_nonneg (fun c hc=>(HCL.out c hc).2.2.1) k) (fun p _=>(HXB.out p).2) (fun k hk=>?_),by omega,fun g=>?_,bytes_zero _,?_,fun k _=>(bytes_zero 0).mono (by omega)⟩
  ·rw[<- repL_zero];exact HQ.out.2.1.turned T36 (by omega)
  ·obtain⟨c,hc⟩ : ∃c,cs[k]? = some c:=⟨_,List.getElem?_eq_getElem (by rw[HMM.out];exact hk)⟩
   unfold rankK;rw[getD_of hc];exact(HCR.out c (List.mem_of_getElem? hc)).1
  ·rw[rest_zero];exact(pass_bytes (b:=20) (fun p _=>(HXB.out p).1) g).mono (by have:=HN8.out;omega)
  ·have h1:fromN (rankK cs) (rkB so 0) m<=12:=Nat.le_trans (cnt_le _ m) HM12.out;have h2:2 ^ fromN (rankK cs) (rkB so 0) m<=2 ^ 12:=Nat.pow_le_pow_right (by decide) h1
   omega
 have hss:∀A,Turned (fun i=>i=C+1\/i=la) w6 A->∀(i:Nat) (r:Int),so[i]? = some r->∃b a,sp=some ⟨b,a,none⟩/\A.cell? ⟨b,a+i,none⟩=some (.int .i64 r):=fun A hA i r hi=>by
  rw[<- hso] at hi;obtain⟨b,h1,h2,h3,h4⟩:=HSO.out.2.1 i r hi;have h5:C+1 < b/\la < b:=by
   have h6:(w4.alloc (.cells #[.map (some (C+1+1))] 99)).heap.size=w4.heap.size+1:=by simp
   have h7:=HT4.out.size;omega
  exact⟨b,0,h1,by rw[Nat.zero_add];exact cellT hA (by omega) h4⟩
 have HT6:=zh hT6;have hlt7:(so.length=ss.length/\ss.length<=200)/\C+1≠la/\(B≠C+1/\B≠la)/\(B+1≠C+1/\B+1≠la)/\(C≠C+1/\C≠la)/\B<=w6.heap.size:=by
  have h1:=hT6.size;have h2:=HBB.out;have h3:=HM12.out;refine⟨⟨hsl,by omega⟩,by omega,⟨by omega,by omega⟩,⟨by omega,by omega⟩,⟨by omega,by omega⟩,by omega⟩
 refine allotL2 rs dl so rp gp cp sp rc gc cc sc n B (B+1) C la (C+1) n m ss.length B B 177 cs x (fun _=>0) w6 [] _ _ _ _ _ _ _ _ _ _ _ _ _ _ _ _ _ _ _ _ _ _ _ _ _ _ _ _ _ _ _ _ _ _ _ _ _ _ _ _ _ _ _ _ _ _ _ _ _ _ _ _ _ _ _ _ _ _ _ _ _ _ _ _ _ _ _ _ _ _ _ _ _ _ _ _ _ _ _ _ _ _ _ _ _ _ _ _ _ _ _ _ _ _ _ _ _ _ _ _ _ _ _ _ _ _ _ _ _ _ _ _ _ _ _ _ _ _ _ _ _ _ _ _ _ _ _ _ _ _ _ _ _ _ _ _ _ _ _ _ _ _ _ _ _ _ _ _ _ _ _ _ _ _ _ _ _ _ _ _ _ _ _ _ _ _ _ _ _ _ _ _ _ _ _ _ _ _ _ _ _ _ _ _ _ _ _ _ _ _ ((HRC.out.1.turned hT6).mono (Nat.le_of_eq HBB.out)) ((HRC.out.2.2.turned hT6).mono (Nat.le_of_eq HBB.out)) HMM.out HM12.out HDL.out.symm HRK.out HNN.out HN8.out HCL.out HCR.out
  ⟨Nat.le_refl _,by omega,by omega,by omega,by omega⟩ hlt7.2.2.2.2.2 hss hlt7.1.1 hlt7.1.2 hup (hK B _ HB2.out.1) (hK (B+1) _ HB2.out.2.1) ((T36.block C (by omega) (by omega)).trans HQ.out.1) hst6 ⟨hlt7.2.1,hlt7.2.2.1,hlt7.2.2.2.1,hlt7.2.2.2.2.1⟩ ?_
 intro t ds u w7 htk hmk hfair htb tt;have hf:Turned (fun _=>False) W w7:=HT6.out.fresh tt fun g hg=>by have:=HBB.out;omega
 have HF:=zh (And.intro htk (And.intro hmk (And.intro hfair (And.intro htb hf))));have hbw:W.heap.size<=C+1:=by have:=HBB.out;omega
 clear hlen hup hsl hso T46 T36 hsz3 hc2 hK hlaC hlaB hbc hT6 hst6 hss hlt7 htk hmk hfair htb tt hf
 gi_wp2_with fail
 refine leave_marks (base:=B) ds w7 HF.out.2.1 fun W' ht=>?_
 refine⟨_,results_tmp2 rfl _ _ _,C+1,t,rfl,hbw,HF.out.1.turned ht ?_,HF.out.2.2.1,HF.out.2.2.2.1,HF.out.2.2.2.2.fresh ht fun g hg=>by have:=hg.1;have:=HBB.out;omega⟩
 rintro⟨-,y,hy⟩;have h1:=HF.out.1;unfold OwnR at h1;rw[h1] at hy;cases hy
open Go Go.Proofs
section
variable {on:Nat->Nat->Bool} {n m:Nat} {place:Nat->Nat} {rank:Nat->Int} {a x y t u:Nat->Rat}
theorem fair_one(W:Ways on) (hp:∀k,k < m->place k < n) (F:FairQ on n m place rank a x t) (G:FairQ on n m place rank a x u):∀k,k < m->t k=u k:=fun k hk =>
 Rat.le_antisymm (fair_mono W hp (fun _ _=>Rat.le_refl) F G k hk) (fair_mono W hp (fun _ _=>Rat.le_refl) G F k hk)
theorem fair_allot(ha:∀k,k < m->0<=a k) (hx:∀p,p < n->0<=x p) (hr:∀k,k < m->0<=rank k/\rank k<=100):FairQ on n m place rank a x (allotQ on n m place rank a x 101) :=
 rank_end (ranked ha hx (fun k hk=>(hr k hk).1) 101) fun k hk=>by have:=(hr k hk).2;omega
end
def gainQ (us:List Rv) (p:Nat):Rat:=qR (us.getD p zeroR)
def takeQ (rs:List Rc) (cs:List Cl) (us:List Rv):Nat->Rat:=allotQ (onN (rs.map (·.down))) rs.length cs.length (placeK cs) (rankK cs) (amtK cs) (gainQ us) 101
def takesR (rs:List Rc) (cs:List Cl) (us:List Rv):List Rv:=repL cs.length (takeQ rs cs us)
theorem SupOK.rank{rs:List Rc} {us:List Rv} {cs:List Cl} (h:SupOK rs us cs) {k:Nat} (hk:k < cs.length):0<=rankK cs k/\rankK cs k<=100:=by
 obtain⟨c,hc⟩ : ∃c,cs[k]? = some c:=⟨_,List.getElem?_eq_getElem hk⟩;unfold rankK;rw[getD_of hc];have:=h.cl c (List.mem_of_getElem? hc);exact⟨this.2.2.1,this.2.2.2.1⟩
theorem SupOK.place{rs:List Rc} {us:List Rv} {cs:List Cl} (h:SupOK rs us cs) {k:Nat} (hk:k < cs.length):placeK cs k < rs.length :=
 (placeK_lt (fun c hc=>⟨(h.cl c hc).1,(h.cl c hc).2.1⟩) hk).1
theorem SupOK.amt{rs:List Rc} {us:List Rv} {cs:List Cl} (h:SupOK rs us cs) (k:Nat):0<=amtK cs k:=amtK_nonneg (fun c hc=>(h.cl c hc).2.2.2.2) k
theorem gain_nonneg{us:List Rv} (h:∀u∈us,natR u=true) (p:Nat):0<=gainQ us p:=by
 unfold gainQ;rw[List.getD_eq_getElem?_getD];cases hk:us[p]? with
 | none=>exact qR_nonneg rfl
 | some u=>exact qR_nonneg (natR_valid (h u (List.mem_of_getElem? hk))).2
theorem take_fair{rs:List Rc} {us:List Rv} {cs:List Cl} (h:SupOK rs us cs):FairQ (onN (rs.map (·.down))) rs.length cs.length (placeK cs) (rankK cs) (amtK cs) (gainQ us) (takeQ rs cs us) :=
 fair_allot (fun k _=>h.amt k) (fun p _=>gain_nonneg h.nat p) fun _ hk=>h.rank hk
theorem take_one{rs:List Rc} {us:List Rv} {cs:List Cl} (h:SupOK rs us cs) {t:Nat->Rat} (F:FairQ (onN (rs.map (·.down))) rs.length cs.length (placeK cs) (rankK cs) (amtK cs) (gainQ us) t):repL cs.length t=takesR rs cs us :=
 repL_congr fun k hk=>fair_one (ways_of h.riv.endsN) (fun _ hk=>h.place hk) F (take_fair h) k hk
theorem hTakes_any(rs:List Rc) (us:List Rv) (cs:List Cl) (rp gp cp:Option Addr) (rc gc cc:Nat) (W:World) (hr:RivAt W.heap.size W rs rp rc) (hg:At W.heap.size W 3 ratCells us gp gc) (hc:At W.heap.size W 5 claimCells cs cp cc)
  (hok:supE rs us cs=0) (hn8:rs.length<=8) (hm12:cs.length<=12) (su:∀u∈us,SzR u 20) (sc:∀c∈cs,SzR c.amt 20) :
  Calls Tryz.prog 28 #[.agg #[.slice rp rs.length rc,.slice gp us.length gc],.slice cp cs.length cc] W fun e w'=>∃tk,e=.returned (.tuple #[.slice (some ⟨tk,0,none⟩) cs.length cs.length,.int .i64 0])/\W.heap.size<=tk/\OwnR w' tk (takesR rs cs us)/\(∀u∈takesR rs cs us,SzR u 24000300)/\Turned (fun _=>False) W w':=by
 refine(hAllot_any rs us cs rp gp cp rc gc cc W hr hg hc hok hn8 hm12 su sc).mono ?_;rintro e w' ⟨tk,t,h1,h2,h3,h4,h6,h5⟩;rw[<- take_one (supE_zero hok) h4];refine⟨tk,h1,h2,h3,fun u hu=>?_,h5⟩
 unfold repL at hu;obtain⟨k,hk,rfl⟩:=List.mem_map.1 hu;exact(h6 k (List.mem_range.1 hk)).szr
structure FcAt (N:Nat) (W:World) (rs:List Rc) (lo hi:List Rv) (rp lp hp:Option Addr) (rc lc hc:Nat):Prop where
 riv:RivAt N W rs rp rc
 lo:At N W 3 ratCells lo lp lc
 hi:At N W 3 ratCells hi hp hc
section
variable {N M:Nat} {W W':World} {rs:List Rc} {lo hi:List Rv} {rp lp hp:Option Addr} {rc lc hc:Nat}
theorem FcAt.turned(h:FcAt N W rs lo hi rp lp hp rc lc hc) (ht:Turned (fun _=>False) W W'):FcAt N W' rs lo hi rp lp hp rc lc hc:=⟨h.riv.turned ht,h.lo.turned ht,h.hi.turned ht⟩
theorem FcAt.mono(h:FcAt N W rs lo hi rp lp hp rc lc hc) (hm:N<=M):FcAt M W rs lo hi rp lp hp rc lc hc:=⟨h.riv.mono hm,h.lo.mono hm,h.hi.mono hm⟩
theorem FcAt.on(h:FcAt W.heap.size W rs lo hi rp lp hp rc lc hc) (ht:Turned (fun _=>False) W W'):FcAt W'.heap.size W' rs lo hi rp lp hp rc lc hc:=(h.turned ht).mono ht.size
theorem At.on{α:Type} {s c:Nat} {enc:α->List Value} {l:List α} {p:Option Addr} (h:At W.heap.size W s enc l p c) (ht:Turned (fun _=>False) W W'):At W'.heap.size W' s enc l p c:=(h.turned ht).mono ht.size
end
def crossB (lo hi:List Rv):Bool:=(List.range lo.length).any fun g=>decide (gainQ hi g < gainQ lo g)
def ordE (rs:List Rc) (lo hi:List Rv) (cs:List Cl):Int :=
 if supE rs lo cs≠0 then supE rs lo cs else if supE rs hi cs≠0 then supE rs hi cs else if crossB lo hi=true then 3 else 0
structure OrdOK (rs:List Rc) (lo hi:List Rv) (cs:List Cl):Prop where
 e1:supE rs lo cs=0
 e2:supE rs hi cs=0
 low:SupOK rs lo cs
 high:SupOK rs hi cs
 le:∀p,p < rs.length->gainQ lo p<=gainQ hi p
theorem ordE_zero{rs:List Rc} {lo hi:List Rv} {cs:List Cl} (h:ordE rs lo hi cs=0):OrdOK rs lo hi cs:=by
 unfold ordE at h;split at h
 ·rename_i h1;exact absurd h h1
 rename_i h1
 rw[Classical.not_not] at h1;split at h
 ·rename_i h2;exact absurd h h2
 rename_i h2
 rw[Classical.not_not] at h2;split at h
 ·cases h
 rename_i h3
 have s1:=supE_zero h1;refine⟨h1,h2,s1,supE_zero h2,fun p hp=>?_⟩
 unfold crossB at h3;rw[Bool.not_eq_true,List.any_eq_false] at h3;have h4:=h3 p (List.mem_range.2 (by rw[s1.len];exact hp))
 rw[decide_eq_true_eq] at h4;exact Rat.not_lt.1 h4
end Go.Proofs.YtanhhdndgkhcfaaGreatDoor
