/- Part 18 of the proof of lawSpec.card: OrdSize, OrdWant. Conditions: those of each theorem. -/
import Derived.Test.YtanhhdndgkhcfaaGreatDoorSp01
import Derived.Test.YtanhhdndgkhcfaaGreatDoorSp11
import Derived.Test.YtanhhdndgkhcfaaGreatDoorSp13
import Derived.Test.YtanhhdndgkhcfaaGreatDoorSp15
set_option maxHeartbeats 2000000
namespace Go.Proofs.YtanhhdndgkhcfaaGreatDoor
theorem sumQ_bytes{f:Nat->Rat} {b:Nat} : ∀m:Nat,(∀k,k < m->BytesQ (f k) b)->BytesQ (sumQ m f) (m*(b+1)+1)
 | 0,_=>by simpa [sumQ] using bytes_zero 0
 | m+1,h=>by
  have h1:=sumQ_bytes m fun k hk=>h k (by omega)
  refine(h1.add (h m (by omega))).mono ?_
  rw[Nat.add_mul];omega
theorem only_bytes{c:Nat->Bool} {f:Nat->Rat} {b k:Nat} (h:BytesQ (f k) (b+1)):BytesQ (onlyQ c f k) (b+1):=by
 show BytesQ (cond (c k) (f k) 0) (b+1);cases c k
 ·exact bytes_zero b
 ·exact h
theorem growTo_size{x y:Nat->Rat} {p:Rat} {kx ky:Nat} (hx:∀g,BytesQ (x g) kx) (hy:∀g,BytesQ (y g) ky) (hp:BytesQ p (kx+ky+1)):∀c,BytesQ (growTo x y p c) (kx+ky+1)
 | 0=>hp
 | c+1=>by
  rw[growTo];split
  ·exact growTo_size hx hy hp c
  ·unfold minR;split
   ·exact growTo_size hx hy hp c
   ·exact(hx c).div (hy c)
section
variable {on:Nat->Nat->Bool} {n m:Nat} {place:Nat->Nat} {rank:Nat->Int} {a x t:Nat->Rat} {op:Nat->Bool} {part:Rat} {r:Int}
theorem want_bytes{b:Nat} (ha:∀k,k < m->BytesQ (a k) (b+1)) (op:Nat->Bool) (g:Nat):BytesQ (wantQ on m place a op g) (m*(b+2)+1):=sumQ_bytes m fun k hk=>only_bytes (ha k hk)
theorem pass_bytes{b:Nat} (hx:∀p,p < n->BytesQ (x p) (b+1)) (g:Nat):BytesQ (passQ on n x g) (n*(b+2)+1):=sumQ_bytes n fun k hk=>only_bytes (hx k hk)
theorem rest_zero(g:Nat):restQ on n m place x (fun _=>0) g=passQ on n x g:=by
 unfold restQ useQ;have:sumQ m (onlyQ (fun k=>on g (place k)) fun _=>(0:Rat))=0:=by
  rw[sumQ_congr (g:=fun _=>0) fun k hk=>?_,sumQ_zero]
  show cond (on g (place k)) (0:Rat) 0=0;cases on g (place k) <;> rfl
 rw[this]
 grind
def leftN (rank:Nat->Int) (r:Int) (op:Nat->Bool) (m:Nat):Nat:=cntQ (fun k=>op k || decide (r < rank k)) m
structure SzQ (on:Nat->Nat->Bool) (n m:Nat) (place:Nat->Nat) (x t:Nat->Rat) (part:Rat) (ky rem kx:Nat):Prop where
 x1:1<=kx
 rest:∀g,BytesQ (restQ on n m place x t g) kx
 part:BytesQ part (kx+ky-1)
 lim:(kx+2*ky+2)*2 ^ rem<=24000000
 take:∀k,k < m->BytesQ (t k) (kx+300)
theorem SzQ.bound{kx ky rem:Nat} (h:SzQ on n m place x t part ky rem kx):kx+2*ky+2<=24000000:=by
 have h1:=h.lim;have h2:(kx+2*ky+2)*1<=(kx+2*ky+2)*2 ^ rem:=Nat.mul_le_mul_left _ (Nat.one_le_two_pow);omega
theorem SzQ.grow{kx ky rem:Nat} (h:SzQ on n m place x t part ky rem kx) (hy:∀g,BytesQ (wantQ on m place a op g) ky) (hy1:1<=ky) (c:Nat) :
  BytesQ (growTo (restQ on n m place x t) (wantQ on m place a op) (1-part) c) (kx+ky+1) :=
 growTo_size h.rest hy (((bytes_one 0).sub h.part).mono (by have:=h.x1;omega)) c
theorem SzQ.step{kx ky rem rem':Nat} (h:SzQ on n m place x t part ky rem kx) (hy:∀g,BytesQ (wantQ on m place a op g) ky) (hy1:1<=ky) (hI:InvQ on n m place rank a x r t op part) {g:Rat} (hg:BytesQ g (kx+ky+1)) (ha:∀k,BytesQ (a k) 21) (hr:rem' < rem) :
  SzQ on n m place x (growQ a t op (part+g)) (part+g) ky rem' (2*kx+2*ky+2):=by
 have h1:=h.x1;refine⟨by omega,fun i=>?_,(h.part.add hg).mono (by omega),?_,fun k hk=>?_⟩
 ·rw[rest_grow hI];exact((h.rest i).sub ((hy i).mul hg)).mono (by omega)
 ·have h2:=h.lim;have h3:2 ^ (rem'+1)<=2 ^ rem:=Nat.pow_le_pow_right (by decide) hr
  have h4:(kx+2*ky+2)*2 ^ (rem'+1)<=(kx+2*ky+2)*2 ^ rem:=Nat.mul_le_mul_left _ h3;rw[Nat.pow_succ] at h4;have h5:(2*kx+2*ky+2+2*ky+2)*2 ^ rem'=(kx+2*ky+2)*(2 ^ rem'*2):=by
   rw[Nat.mul_comm (2 ^ rem') 2,<- Nat.mul_assoc]
   congr 1
   omega
  omega
 ·show BytesQ (cond (op k) (a k*(part+g)) (t k)) _;cases op k
  ·exact(h.take k hk).mono (by omega)
  ·exact((ha k).mul (h.part.add hg)).mono (by omega)
theorem cnt_mono{op op':Nat->Bool} : ∀{m:Nat},(∀i,i < m->op' i=true->op i=true)->cntQ op' m<=cntQ op m
 | 0,_=>Nat.le_refl _
 | m+1,h=>by
  have h1:=cnt_mono (m:=m) fun i hi=>h i (by omega)
  have h2:=h m (by omega)
  rw[cntQ,cntQ];cases h3:op' m with
  | false=>simp;split <;> omega
  | true=>rw[h2 h3];omega
theorem SzQ.less{kx ky rem rem':Nat} (h:SzQ on n m place x t part ky rem kx) (hr:rem'<=rem):SzQ on n m place x t part ky rem' kx :=
 ⟨h.x1,h.rest,h.part,Nat.le_trans (Nat.mul_le_mul_left _ (Nat.pow_le_pow_right (by decide) hr)) h.lim,h.take⟩
theorem leftN_round(hI:InvQ on n m place rank a x r t op part) {op':Nat->Bool} (hs:∀k,op' k=true->op k=true) (hc:∃k,k < m/\op k=true/\op' k=false):leftN rank r op' m < leftN rank r op m:=by
 obtain⟨k,hk,h1,h2⟩:=hc;refine cnt_lt k hk (fun i hi h=>?_) ?_ ?_
 ·rw[Bool.or_eq_true] at h ⊢;rcases h with h | h
  ·exact .inl (hs i h)
  ·exact .inr h
 ·rw[h1,Bool.true_or]
 ·have h3:=(hI.opn k hk h1).1;rw[h2,Bool.false_or];exact decide_eq_false (by omega)
theorem count_bL(op:Nat->Bool):∀m:Nat,(bL m op).count true=cntQ op m
 | 0=>rfl
 | m+1=>by
  have:bL (m+1) op=bL m op++[op m]:=by
   unfold bL;rw[List.range_succ,List.map_append];rfl
  rw[this,List.count_append,count_bL op m,cntQ];cases op m <;> simp
def openN (ob:Nat) (w:World):Nat:=match w.heap[ob]? with
 | some (.cells vs _ _)=>vs.toList.countP fun v=>match v with
  | .bool b=>b
  | _=>false
 | _=>0
theorem openN_of{w:World} {ob:Nat} {l:List Bool} (h:OwnB w ob l):openN ob w=l.count true:=by
 unfold openN;rw[show w.heap[ob]? = _ from h];simp only[List.countP_map];rw[List.count]
 congr 1
 funext b
 cases b <;> rfl
theorem addAll_congr(ds:List Int) {pl pl':Nat->Int} (am s:Nat->Rat):∀xs:List Nat,(∀k∈xs,pl k=pl' k)->addAll ds pl am s xs=addAll ds pl' am s xs
 | [],_=>rfl
 | k::xs,h=>by
  have ih:=fun s=>addAll_congr ds am s xs fun i hi=>h i (List.mem_cons_of_mem _ hi)
  show addAll ds pl am (addWay s (way ds (pl k)) (am k)) xs=addAll ds pl' am (addWay s (way ds (pl' k)) (am k)) xs;rw[ih,h k (by simp)]
end
open Go Go.Proofs Go.RowKit
theorem qR_nonneg{u:Rv} (h:u.neg=false):0<=qR u:=by
 unfold qR;rw[<- Rat.divInt_ofNat];refine Rat.divInt_nonneg ?_ (Int.natCast_nonneg _);unfold fracR;split
 ·rw[h];unfold sgn;simp
 ·unfold sgn;simp
theorem amtK_nonneg{cs:List Cl} (h:∀c∈cs,natR c.amt=true) (k:Nat):0<=amtK cs k:=by
 unfold amtK;rw[List.getD_eq_getElem?_getD];cases hk:cs[k]? with
 | none=>exact qR_nonneg rfl
 | some c=>exact qR_nonneg (natR_valid (h c (List.mem_of_getElem? hk))).2
theorem amtK_bytes{cs:List Cl} {b:Nat} (h:∀c∈cs,SzR c.amt b) (k:Nat):BytesQ (amtK cs k) (b+1):=by
 unfold amtK;rw[List.getD_eq_getElem?_getD];cases hk:cs[k]? with
 | none=>exact bytes_zero b
 | some c =>
  have:=h c (List.mem_of_getElem? hk);exact qR_bytes this.1 this.2
theorem placeK_lt{cs:List Cl} {n:Nat} (h:∀c∈cs,0<=c.place/\c.place < n) {k:Nat} (hk:k < cs.length):placeK cs k < n/\(cs.map (·.place)).getD k 0=(placeK cs k:Int):=by
 obtain⟨c,hc⟩ : ∃c,cs[k]? = some c:=⟨_,List.getElem?_eq_getElem hk⟩;have h1:=h c (List.mem_of_getElem? hc);unfold placeK;rw[getD_of hc,List.getD_eq_getElem?_getD,List.getElem?_map,hc];show c.place.toNat < n/\c.place=_;omega
def ClOK (n:Nat) (cs:List Cl):Prop:=∀c∈cs,0<=c.place/\c.place < n/\natR c.amt=true/\SzR c.amt 20
theorem want_any(rs:List Rc) (dl:List Int) (cs:List Cl) (rp cp:Option Addr) (rc cc n m bo ob cb D:Nat) (op:Nat->Bool) (V:World) (hR:RivAt V.heap.size V rs rp rc) (HA:At V.heap.size V 5 claimCells cs cp cc)
  (hm:cs.length=m) (hm2:m<=12) (hdl:dl=rs.map (·.down)) (hok:RivOK dl) (hn:rs.length=n) (hn2:n<=8) (hcl:ClOK n cs)
  (hbo:V.heap[bo]? = some (.cells #[.slice (some ⟨ob,0,none⟩) m m] 104 (0,0))) (hob:OwnB V ob (bL m op)) (hcb:V.heap[cb]? = some (.cells #[.slice cp m cc] 26 (0,0)))
  (hD:V.heap.size=D+3) (h1:V.cell? ⟨D,0,none⟩=some (.slice cp m cc)) (h2:V.cell? ⟨D+1,0,none⟩=some (.func (.func 58) #[] #[.pointer (some ⟨bo,0,none⟩)])) (h3:V.cell? ⟨D+1+1,0,none⟩=some (.func (.func 62) #[] #[.pointer (some ⟨cb,0,none⟩)])) :
  Calls Tryz.prog 60 #[.slice rp n rc,.func (.func 101) #[] #[.pointer (some ⟨D,0,none⟩),.pointer (some ⟨D+1,0,none⟩),.pointer (some ⟨D+1+1,0,none⟩)]] V fun e w' =>
   ∃wa,e=.returned (.slice (some ⟨wa,0,none⟩) n n)/\V.heap.size<=wa/\OwnR w' wa (repL n (wantQ (onN dl) m (placeK cs) (amtK cs) op))/\Turned (fun _=>False) V w':=by
 have hdn:dl.length=n:=by rw[hdl,List.length_map,hn]
 have hcl2:∀c∈cs,0<=c.place/\c.place < n:=fun c hc=>⟨(hcl c hc).1,(hcl c hc).2.1⟩
 have hit:∀w,Turned (fun _=>False) V w->IterE True Tryz.prog 101 #[.pointer (some ⟨D,0,none⟩),.pointer (some ⟨D+1,0,none⟩),.pointer (some ⟨D+1+1,0,none⟩)] (cEncs (fun k=>(cs.map (·.place)).getD k 0) fun k=>(cs.getD k noCl).amt) ((List.range cs.length).filter op) (fun _=>False) (fun k=>k < V.heap.size) w:=fun w hw=>by
  have g1:=cellT hw id h1;rw[<- hm] at g1;have eI:=enters_of Tryz.func58 (by kernel_rfl) rfl
  have eN:=enters_of Tryz.func62 (by kernel_rfl) rfl
  refine at_iter cs cp cc V.heap.size D (D+1) (D+1+1) 58 62 #[.pointer (some ⟨bo,0,none⟩)] #[.pointer (some ⟨cb,0,none⟩)] op (fun k=>(cs.getD k noCl).amt) w (HA.turned hw) g1 (by omega) (cellT hw id h2) (by omega) (cellT hw id h3) (by omega) hw.size
   eI eN (fun k W hk hS hN=>?_) (fun k W hk hS hN=>?_)
  ·have hb1:W.heap[bo]? = some (.cells #[.slice (some ⟨ob,0,none⟩) m m] 104 (0,0)):=(hS bo (getElem?_lt hbo)).trans (keepB hw hbo);have hb2:OwnB W ob (bL m op):=(hS ob hob.lt).trans (keepB hw hob);have:=hAllotE_any (bL m op) (some ⟨ob,0,none⟩) m W.heap.size bo k (op k) W (by
    have h4:=hb2.at_ hb2.lt (by rw[bL_len];unfold maxLen;omega)
    rwa [bL_len] at h4) (by rw[bL_len];exact cell_of_box hb1) (bL_get op (by omega))
   exact this
  ·have hb1:W.heap[cb]? = some (.cells #[.slice cp m cc] 26 (0,0)):=(hS cb (getElem?_lt hcb)).trans (keepB hw hcb);obtain⟨c,hc⟩ : ∃c,cs[k]? = some c:=⟨_,List.getElem?_eq_getElem hk⟩;have:=hAllotF_any cs cp cc V.heap.size cb k c W ((HA.turned hw).same hS) (by rw[hm];exact cell_of_box hb1) hc
   rw[getD_of hc];exact this
 have hlen:((List.range cs.length).filter op).length<=12:=Nat.le_trans (List.length_filter_le _ _) (by rw[List.length_range];omega)
 have hmul:((List.range cs.length).filter op).length*((dl.length+1)*(21+1))<=12*(9*22):=Nat.mul_le_mul hlen (Nat.mul_le_mul (by omega) (Nat.le_refl _))
 have hmul2:(dl.length+1)*(21+1)<=9*22:=Nat.mul_le_mul (by omega) (Nat.le_refl _)
 have h:=summed_any rs dl rp rc 101 21 #[.pointer (some ⟨D,0,none⟩),.pointer (some ⟨D+1,0,none⟩),.pointer (some ⟨D+1+1,0,none⟩)] ((List.range cs.length).filter op) (fun k=>(cs.map (·.place)).getD k 0) (fun k=>(cs.getD k noCl).amt) (amtK cs) V hR hit (enters_of Tryz.func101 (by kernel_rfl) rfl) hdl hok.lt (fun k hk=>?_) (by omega) (by omega) hok.next
 ·rw[hn] at h;refine h.mono ?_;rintro e w' ⟨arr,h4,h5,h6,h7⟩;refine⟨arr,h4,h5,?_,h7⟩;rw[<- repL_congr (f:=addAll dl (fun k=>(cs.map (·.place)).getD k 0) (amtK cs) (fun _=>0) ((List.range cs.length).filter op)) fun g _=>?_]
  ·exact h6
  ·rw[<- want_sum hok.endsN (placeK cs) (amtK cs) op m g,<- hm,addAll_congr dl (pl':=fun k=>(placeK cs k:Int)) (amtK cs) (fun _=>0) _ fun k hk=>(placeK_lt hcl2 (List.mem_range.1 (List.mem_filter.1 hk).1)).2]
 ·have hk2:k < cs.length:=List.mem_range.1 (List.mem_filter.1 hk).1;obtain⟨c,hc⟩ : ∃c,cs[k]? = some c:=⟨_,List.getElem?_eq_getElem hk2⟩;have hp:=placeK_lt hcl2 hk2;refine⟨placeK cs k,hp.2,by omega,?_,amtK_bytes (fun c hc=>(hcl c hc).2.2.2) k⟩
  rw[getD_of hc];unfold amtK;rw[getD_of hc];exact(repR_qR (natR_valid (hcl c (List.mem_of_getElem? hc)).2.2.1).1).symm
end Go.Proofs.YtanhhdndgkhcfaaGreatDoor
