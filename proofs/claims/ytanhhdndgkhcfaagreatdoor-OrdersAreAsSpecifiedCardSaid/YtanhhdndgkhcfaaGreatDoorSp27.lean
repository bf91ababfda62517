/- Part 27 of the proof of lawSpec.card: SupRefH. Conditions: those of each theorem. -/
import Derived.Test.YtanhhdndgkhcfaaGreatDoorSp01
import Derived.Test.YtanhhdndgkhcfaaGreatDoorSp25
import Derived.Test.YtanhhdndgkhcfaaGreatDoorSp26
set_option maxRecDepth 20000
set_option maxHeartbeats 8000000
namespace Go.Proofs.YtanhhdndgkhcfaaGreatDoor
open Go Go.Proofs Go.RowKit
attribute [local go_sem] Oper.semAt_some
attribute [local go_sem ↓] run_eql_rat' run_neq_rat'
def openC (p:Option Addr) (m:Nat) (w:World):Nat:=match p with
 | none=>0
 | some a=>(List.range m).countP fun i=>match w.cell? ⟨a.block,i,none⟩ with
  | some (.bool b)=>b
  | _=>false
theorem cnt_range(op:Nat->Bool):∀m,(List.range m).countP op=cntQ op m
 | 0=>rfl
 | m+1=>by
  rw[List.range_succ,List.countP_append,cnt_range op m,cntQ];cases h:op m <;> simp[h]
theorem openC_of{w:World} {base m c:Nat} {p:Option Addr} {op:Nat->Bool} (h:Grown w base 4 1 boolCells (.slice p m c) (bL m op)):openC p m w=cntQ op m:=by
 have h':Grown w base 4 1 boolCells (.slice p (bL m op).length c) (bL m op):=by rw[bL_len];exact h
 rw[<- cnt_range];unfold openC;cases p with
 | none =>
  cases m with
  | zero=>rfl
  | succ m =>
   obtain⟨g,hg,-⟩:=h'.putB (i:=0) (bL_get op (by omega))
   cases hg
 | some a =>
  refine List.countP_congr fun i hi=>?_
  obtain⟨g,hg,-,-,hc,-⟩:=h'.putB (i:=i) (bL_get op (List.mem_range.1 hi));cases hg
  rw[hc]
def mixB (o o':Nat->Bool) (j:Nat):Nat->Bool:=fun i=>if i < j then o' i else o i
theorem mixB_zero(m:Nat) (o o':Nat->Bool):bL m (mixB o o' 0)=bL m o:=bL_congr fun k _=>by unfold mixB;rw[if_neg (by omega)]
theorem mixB_all(m:Nat) (o o':Nat->Bool):bL m (mixB o o' m)=bL m o':=bL_congr fun k hk=>by unfold mixB;rw[if_pos hk]
theorem mixB_at(o o':Nat->Bool) (j:Nat):mixB o o' j j=o j:=by unfold mixB;rw[if_neg (by omega)]
theorem mixB_set(m:Nat) (o o':Nat->Bool) (j:Nat):(bL m (mixB o o' j)).set j (o' j)=bL m (mixB o o' (j+1)):=by
 rw[bL_set];refine bL_congr fun k _=>?_
 unfold mixB;by_cases h:k=j
 ·subst h;rw[if_pos rfl,if_pos (by omega)]
 ·rw[if_neg h];by_cases h2:k < j
  ·rw[if_pos h2,if_pos (by omega)]
  ·rw[if_neg h2,if_neg (by omega)]
theorem some_succ(o:Nat->Bool) (k:Nat):someQ (k+1) o=(someQ k o || o k):=by
 unfold someQ;rw[List.range_succ,List.any_append,List.any_cons,List.any_nil,Bool.or_false]
theorem bL_succ(f:Nat->Bool) (k:Nat):bL (k+1) f=bL k f++[f k]:=by
 unfold bL;rw[List.range_succ,List.map_append];rfl
theorem same_one(q:Rat):sameR (repR q) (repR 1)=decide (q=1):=by
 unfold sameR;rw[Bool.eq_iff_iff,decide_eq_true_eq,decide_eq_true_eq];exact⟨fun h=>repR_inj h,fun h=>by rw[h]⟩
structure RkS (W wr:World) (o:Obj) (B:Nat) (p:Rat) (bp tp:Option Addr) (bc tc m:Nat) (op:Nat->Bool) (t:Nat->Rat):Prop where
 b0:wr.heap[W.heap.size]? = some o
 b1:wr.heap[B]? = some (.cells #[.bool (repR p).neg,.string (repR p).num,.string (repR p).den] 68 (0,0))
 own:Grown wr (W.heap.size+1) 4 1 boolCells (.slice bp m bc) (bL m op)
 lt:∀g,bp=some ⟨g,0,none⟩->g < B
 tu:Turned (fun _=>False) W wr
 tk:∀V,Turned (fun k=>bp=some ⟨k,0,none⟩\/k=B) wr V->At V.heap.size V 3 ratCells (repL m t) tp tc
section
variable {W wr V:World} {o:Obj} {B:Nat} {p:Rat} {bp tp:Option Addr} {bc tc m:Nat} {op:Nat->Bool} {t:Nat->Rat}
theorem RkS.call(h:RkS W wr o B p bp tp bc tc m op t) (tt:Turned (fun _=>False) wr V):RkS W V o B p bp tp bc tc m op t :=
 ⟨keepB tt h.b0,keepB tt h.b1,h.own.turned tt fun _ h=>h.elim,h.lt,h.tu.trans tt,fun V2 h2=>h.tk V2 ((tt.mono fun _ h=>h.elim).trans h2)⟩
theorem RkS.bools(h:RkS W wr o B p bp tp bc tc m op t):At wr.heap.size wr 1 boolCells (bL m op) bp bc:=by
 have h1:Grown wr (W.heap.size+1) 4 1 boolCells (.slice bp (bL m op).length bc) (bL m op):=by rw[bL_len];exact h.own
 exact h1.at_ (fun _=>rfl) (Nat.le_refl _)
theorem RkS.open_(h:RkS W wr o B p bp tp bc tc m op t) {op':Nat->Bool} (he:bL m op=bL m op'):RkS W wr o B p bp tp bc tc m op' t:=⟨h.b0,h.b1,by rw[<- he];exact h.own,h.lt,h.tu,h.tk⟩
theorem RkS.putp(h:RkS W wr o B p bp tp bc tc m op t) (p':Rat) (hB:W.heap.size < B) :
  RkS W (((wr.setCell ⟨B,0,none⟩ (.bool (repR p').neg)).setCell ⟨B,1,none⟩ (.string (repR p').num)).setCell ⟨B,2,none⟩ (.string (repR p').den)) o B p' bp tp bc tc m op t:=by
 obtain⟨k1,k2⟩:=set3 h.b1 (.bool (repR p').neg) (.string (repR p').num) (.string (repR p').den);refine⟨(k2.block _ (getElem?_lt h.b0) (by omega)).trans h.b0,k1,?_,h.lt,h.tu.fresh k2 fun g hg=>by omega,fun V2 h2=>h.tk V2 ((k2.mono fun k hk=>Or.inr hk).trans h2)⟩
 obtain⟨h1,h2⟩:=h.own;refine⟨h1,?_⟩;rcases h2 with h2 | ⟨g,cap,cur,hv,hb,hg,h4⟩
 ·exact .inl h2
 ·refine .inr ⟨g,cap,cur,hv,hb,?_,h4⟩;simp only[Value.slice.injEq] at hv;have:=h.lt g hv.1;exact(k2.block _ (getElem?_lt hg) (by omega)).trans hg
theorem RkS.takes(h:RkS W wr o B p bp tp bc tc m op t) {t':Nat->Rat} {q:Option Addr} {c:Nat} (hg:Grown V wr.heap.size 68 3 ratCells (.slice q m c) (repL m t')) (tt:Turned (fun _=>False) wr V):RkS W V o B p bp q bc c m op t':=by
 refine⟨keepB tt h.b0,keepB tt h.b1,h.own.turned tt fun _ h=>h.elim,h.lt,h.tu.trans tt,fun V2 h2=>?_⟩
 have h3:=hg.turned h2 fun k hk=>by
  have hB:=getElem?_lt h.b1;rcases hk with hk | hk
  ·have:=h.lt k hk;omega
  ·omega
 have h4:Grown V2 wr.heap.size 68 3 ratCells (.slice q (repL m t').length c) (repL m t'):=by rw[repL_len];exact h3
 exact h4.at_ (fun _=>rfl) (Nat.le_refl _)
theorem RkS.putb(h:RkS W wr o B p bp tp bc tc m op t) {i g:Nat} (hg:bp=some ⟨g,0,none⟩) (hi:i < m) (hq:W.heap.size+1<=g) (x:Bool) {op':Nat->Bool} (he:(bL m op).set i x=bL m op'):RkS W (wr.setCell ⟨g,i,none⟩ (.bool x)) o B p bp tp bc tc m op' t:=by
 have h1:Grown wr (W.heap.size+1) 4 1 boolCells (.slice bp (bL m op).length bc) (bL m op):=by rw[bL_len];exact h.own
 obtain⟨g',hg',-,-,-,-,h5⟩:=h1.putB (i:=i) (bL_get op hi);obtain rfl:g=g':=by rw[hg] at hg';simpa using hg'
 have h6:=(h5 wr x rfl).1;rw[he,bL_len] at h6;have k2:Turned (fun k=>k=g) wr (wr.setCell ⟨g,i,none⟩ (.bool x)):=(Turned.refl (fun k=>k=g) wr).setCell (p:=⟨g,i,none⟩) rfl _
 have hlt:=h.lt g hg;exact⟨(k2.block _ (getElem?_lt h.b0) (by omega)).trans h.b0,(k2.block _ (getElem?_lt h.b1) (by omega)).trans h.b1,h6,h.lt,h.tu.fresh k2 fun k hk=>by omega,fun V2 h2=>h.tk V2 ((k2.mono fun k hk=>Or.inl (by rw[hk];exact hg)).trans h2)⟩
end
theorem SzS.rests{on:Nat->Nat->Bool} {n m:Nat} {place:Nat->Nat} {x t:Nat->Rat} {part:Rat} {ky rem kx:Nat} (h:SzS on n m place x t part ky rem kx) (hx:∀p,BytesQ (x p) 21) (hn:n<=8) (hm:m<=12):RestS on n m place x t :=
 ⟨fun g k hk=>h.part_rest hx hn g k (by omega),fun k=>(h.take k).mono (by have:=h.bound;omega)⟩
abbrev leftR (cs:List Cl) (r:Int):Nat:=leftN (rankK cs) r (fun _=>false) cs.length
theorem left_first(cs:List Cl) (r:Int):leftN (rankK cs) r (firstOpen (rankK cs) (amtK cs) r) cs.length<=leftR cs (r-1):=by
 refine cnt_mono fun i _ h=>?_
 rw[Bool.or_eq_true] at h ⊢;right;rcases h with h | h
 ·unfold firstOpen at h;rw[Bool.and_eq_true,decide_eq_true_eq] at h;exact decide_eq_true (by omega)
 ·have:=of_decide_eq_true h;exact decide_eq_true (by omega)
theorem left_none{cs:List Cl} {r:Int} {op:Nat->Bool} : leftR cs r<=leftN (rankK cs) r op cs.length:=by
 refine cnt_mono fun i _ h=>?_
 rw[Bool.false_or] at h;rw[h,Bool.or_true]
set_option linter.unusedSimpArgs false in
theorem yRank_any(rs:List Rc) (us:List Rv) (cs:List Cl) (rp gp cp tp:Option Addr) (rc gc cc tc r kx:Nat) (t:Nat->Rat) (W:World) (hi:SIn W.heap.size W rs us cs rp gp cp rc gc cc) (ht:At W.heap.size W 3 ratCells (repL cs.length t) tp tc) (hok:SOK rs us cs) (N:Nat) (hN:N<=W.heap.size) (hfr:∀b a s,tp=some ⟨b,a,s⟩->N<=b)
  (hrk:RankedQ (onN (rs.map (·.down))) rs.length cs.length (placeK cs) (rankK cs) (amtK cs) (gainQ us) r t) (hsz:SzS (onN (rs.map (·.down))) rs.length cs.length (placeK cs) (gainQ us) t 0 265 (leftR cs ((r:Int)-1)) kx) :
  Calls Tryz.prog 76 #[.agg #[.slice rp rs.length rc,.slice gp us.length gc],.slice cp cs.length cc,.slice tp cs.length tc,.int .i64 r] W fun e w'=>∃t' kx' q c,e=.returned (.slice q cs.length c)/\(∀b a s,q=some ⟨b,a,s⟩->N<=b)/\At w'.heap.size w' 3 ratCells (repL cs.length t') q c /\
   RankedQ (onN (rs.map (·.down))) rs.length cs.length (placeK cs) (rankK cs) (amtK cs) (gainQ us) ((r:Int)+1) t'/\SzS (onN (rs.map (·.down))) rs.length cs.length (placeK cs) (gainQ us) t' 0 265 (leftR cs r) kx'/\Turned (fun _=>False) W w':=by
 have HX:=zh (gain_bytes hok.su);have HAB:=zh (amtK_bytes hok.sc);have HA0:=zh (fun k (_:k < cs.length)=>amtK_nonneg (fun c hc=>(hok.cl c hc).2.2.2.2) k)
 have HWB:=zh (fun op g=>(want_bytes (on:=onN (rs.map (·.down))) (place:=placeK cs) (m:=cs.length) (fun k _=>HAB.out k) op g).mono (show cs.length*(20+2)+1<=265 from by
  have:cs.length*(20+2)<=12*22:=Nat.mul_le_mul_right _ hok.m12;omega))
 have HRE:=zh (fun(t:Nat->Rat) (op:Nat->Bool) (part:Rat) (tp bp:Option Addr) (tc bc kx rem:Nat) (V:World) (hV:Turned (fun _=>False) W V) (ht:At V.heap.size V 3 ratCells (repL cs.length t) tp tc) (ho:At V.heap.size V 1 boolCells (bL cs.length op) bp bc) (hz:SzS (onN (rs.map (·.down))) rs.length cs.length (placeK cs) (gainQ us) t part 265 rem kx) =>
  yReached_any rs us cs rp gp cp tp bp rc gc cc tc bc t op part V (hi.on hV) ht ho hok (hz.rests HX.out hok.n8 hok.m12) (fun g=>(hz.rest g).mono (by have:=hz.bound;omega)) (hz.part.mono (by have:=hz.bound;omega)) (fun c=>(hz.reach (HWB.out op) (by decide) c).mono (by have:=hz.bound;omega)))
 have HGR:=zh (fun(t:Nat->Rat) (op:Nat->Bool) (p:Rat) (tp bp:Option Addr) (tc bc:Nat) (V:World) (hV:Turned (fun _=>False) W V) (ht:At V.heap.size V 3 ratCells (repL cs.length t) tp tc) (ho:At V.heap.size V 1 boolCells (bL cs.length op) bp bc) (hp:BytesQ p 40000000) =>
  yGrown_any cs cp tp bp cc tc bc t op p V (hi.on hV).cl ht ho hok.m12 hok.sc hp)
 have HDR:=zh (fun(t:Nat->Rat) (part:Rat) (tp:Option Addr) (tc f kx rem:Nat) (V:World) (hV:Turned (fun _=>False) W V) (ht:At V.heap.size V 3 ratCells (repL cs.length t) tp tc) (hz:SzS (onN (rs.map (·.down))) rs.length cs.length (placeK cs) (gainQ us) t part 265 rem kx) (hf:f < rs.length) =>
  yDry_any rs us cs rp gp cp tp rc gc cc tc f t V (hi.on hV) ht hok (hz.rests HX.out hok.n8 hok.m12) hf)
 have HCL:=zh hi.cl;have HPL:=zh (fun(k:Nat) (u:Cl) (hu:cs[k]? = some u)=>(And.intro (hok.place hu).1 (And.intro (hok.place hu).2 (hok.cl u (List.mem_of_getElem? hu)).2.2.2.2)))
 have HSTEP:=zh (fun(t:Nat->Rat) (op:Nat->Bool) (part:Rat) (kx:Nat) (hI:InvQ (onN (rs.map (·.down))) rs.length cs.length (placeK cs) (rankK cs) (amtK cs) (gainQ us) r t op part) (hz:SzS (onN (rs.map (·.down))) rs.length cs.length (placeK cs) (gainQ us) t part 265 (leftN (rankK cs) r op cs.length) kx) (hs:someQ cs.length op=true) =>
  (show ∃t' op' p' kx',p'=reachQ (onN (rs.map (·.down))) rs.length cs.length (placeK cs) (amtK cs) (gainQ us) t op part rs.length/\t'=growQ (amtK cs) t op p'/\(∀k,op' k=(op k && decide (p'≠1) && !dryQ (onN (rs.map (·.down))) rs.length cs.length (placeK cs) (gainQ us) t' (placeK cs k))) /\
   InvQ (onN (rs.map (·.down))) rs.length cs.length (placeK cs) (rankK cs) (amtK cs) (gainQ us) r t' op' p'/\SzS (onN (rs.map (·.down))) rs.length cs.length (placeK cs) (gainQ us) t' p' 265 (leftN (rankK cs) r op' cs.length) kx'/\cntQ op' cs.length < cntQ op cs.length from by
   obtain⟨h1,k,hk,h2,h3⟩:=round_inv HA0.out hI (some_iff.1 hs);have hle:∀i,openQ (onN (rs.map (·.down))) rs.length cs.length (placeK cs) (gainQ us) (growQ (amtK cs) t op (reachQ (onN (rs.map (·.down))) rs.length cs.length (placeK cs) (amtK cs) (gainQ us) t op part rs.length)) op (reachQ (onN (rs.map (·.down))) rs.length cs.length (placeK cs) (amtK cs) (gainQ us) t op part rs.length) i=true->op i=true:=fun i hi=>by
    unfold openQ at hi;rw[Bool.and_assoc,Bool.and_eq_true] at hi;exact hi.1
   refine⟨_,_,_,_,rfl,rfl,fun k=>rfl,h1,hz.step (HWB.out op) (by decide) hI HAB.out (leftN_round hI hle ⟨k,hk,h2,h3⟩),cnt_lt k hk (fun i _=>hle i) h2 h3⟩))
 have HLAST:=zh (fun(t:Nat->Rat) (op:Nat->Bool) (part:Rat) (kx:Nat) (hI:InvQ (onN (rs.map (·.down))) rs.length cs.length (placeK cs) (rankK cs) (amtK cs) (gainQ us) r t op part) (hz:SzS (onN (rs.map (·.down))) rs.length cs.length (placeK cs) (gainQ us) t part 265 (leftN (rankK cs) r op cs.length) kx) (hs:someQ cs.length op=false) =>
  And.intro (rank_last hI hs) ((hz.anew (by decide)).less left_none))
 have HFIRST:=zh (And.intro (rank_first hrk) (hsz.less (left_first cs r)));have HFR:=zh hfr;have HNW:=zh hN;have hlen:=hok.len;have hm12:=hok.m12;have hn8:=hok.n8;rw[hlen] at HRE HDR ⊢;obtain⟨n,hn⟩ : ∃n,rs.length=n:=⟨_,rfl⟩;obtain⟨m,hm⟩ : ∃n,cs.length=n:=⟨_,rfl⟩;have HM:=zh hm;obtain⟨I,hI⟩ : ∃I:(Nat->Rat)->(Nat->Bool)->Rat->Nat->Prop,(fun t op part kx=>InvQ (onN (rs.map (·.down))) n m (placeK cs) (rankK cs) (amtK cs) (gainQ us) r t op part/\SzS (onN (rs.map (·.down))) n m (placeK cs) (gainQ us) t part 265 (leftN (rankK cs) r op m) kx)=I:=⟨_,rfl⟩
 obtain⟨R,hR⟩ : ∃R:(Nat->Rat)->(Nat->Bool)->Rat->Rat,(fun t op part=>reachQ (onN (rs.map (·.down))) n m (placeK cs) (amtK cs) (gainQ us) t op part n)=R:=⟨_,rfl⟩
 obtain⟨G,hG⟩ : ∃G:(Nat->Rat)->(Nat->Bool)->Rat->Nat->Rat,(fun t op p=>growQ (amtK cs) t op p)=G:=⟨_,rfl⟩
 obtain⟨D,hD⟩ : ∃D:(Nat->Rat)->Nat->Bool,(fun t k=>dryQ (onN (rs.map (·.down))) n m (placeK cs) (gainQ us) t (placeK cs k))=D:=⟨_,rfl⟩
 have HRE2:=zh (fun(t:Nat->Rat) (op:Nat->Bool) (part:Rat) (tp bp:Option Addr) (tc bc kx:Nat) (V:World) (hV:Turned (fun _=>False) W V) (ht:At V.heap.size V 3 ratCells (repL m t) tp tc) (ho:At V.heap.size V 1 boolCells (bL m op) bp bc) (hz:I t op part kx) =>
  (show Calls Tryz.prog 107 #[.agg #[.slice rp n rc,.slice gp n gc],.slice cp m cc,.slice tp m tc,.slice bp m bc,ratV (repR part)] V fun e w'=>e=.returned (ratV (repR (R t op part)))/\Turned (fun _=>False) V w' from by
    subst hI hR hn hm;exact HRE.out t op part tp bp tc bc kx _ V hV ht ho hz.2))
 have HGR2:=zh (fun(t:Nat->Rat) (op:Nat->Bool) (part:Rat) (tp bp:Option Addr) (tc bc kx:Nat) (V:World) (hV:Turned (fun _=>False) W V) (ht:At V.heap.size V 3 ratCells (repL m t) tp tc) (ho:At V.heap.size V 1 boolCells (bL m op) bp bc) (hz:I t op part kx) =>
  (show Calls Tryz.prog 108 #[.slice cp m cc,.slice tp m tc,.slice bp m bc,ratV (repR (R t op part))] V fun e w'=>∃q c,e=.returned (.slice q m c)/\Grown w' V.heap.size 68 3 ratCells (.slice q m c) (repL m (G t op (R t op part)))/\Turned (fun _=>False) V w' from by
    subst hI hR hG hn hm;exact HGR.out t op _ tp bp tc bc V hV ht ho ((hz.2.reach (HWB.out op) (by decide) _).mono (by have:=hz.2.bound;omega))))
 have HDR2:=zh (fun(t:Nat->Rat) (op:Nat->Bool) (part:Rat) (tp:Option Addr) (tc kx k:Nat) (u:Cl) (V:World) (hV:Turned (fun _=>False) W V) (ht:At V.heap.size V 3 ratCells (repL m t) tp tc) (hz:I t op part kx) (hu:cs[k]? = some u) =>
  (show Calls Tryz.prog 109 #[.agg #[.slice rp n rc,.slice gp n gc],.slice cp m cc,.slice tp m tc,(.int .i64 (placeK cs k))] V fun e w'=>e=.returned (.bool (D t k))/\Turned (fun _=>False) V w' from by
    subst hI hD hn hm;exact HDR.out t part tp tc (placeK cs k) kx _ V hV ht hz.2 (HPL.out k u hu).2.1))
 have HST2:=zh (fun(t:Nat->Rat) (op:Nat->Bool) (part:Rat) (kx:Nat) (hz:I t op part kx) (hs:someQ m op=true) =>
  (show ∃op' kx',(∀k,op' k=(op k && decide (R t op part≠1) && !D (G t op (R t op part)) k))/\I (G t op (R t op part)) op' (R t op part) kx'/\cntQ op' m < cntQ op m from by
    subst hI hR hG hD hn hm;obtain⟨t',op',p',kx',h1,h2,h3,h4,h5,h6⟩:=HSTEP.out t op part kx hz.1 hz.2 hs;subst h1 h2;exact⟨op',kx',h3,⟨h4,h5⟩,h6⟩))
 have HFI2:Hid (I t (firstOpen (rankK cs) (amtK cs) r) 0 kx):=zh (by
  subst hI hn hm;exact HFIRST.out)
 have HLA2:=zh (fun(t:Nat->Rat) (op:Nat->Bool) (part:Rat) (kx:Nat) (hz:I t op part kx) (hs:someQ m op=false) =>
  (show RankedQ (onN (rs.map (·.down))) n m (placeK cs) (rankK cs) (amtK cs) (gainQ us) ((r:Int)+1) t/\SzS (onN (rs.map (·.down))) n m (placeK cs) (gainQ us) t 0 265 (leftR cs r) kx from by
    subst hI hn hm;exact HLAST.out t op part kx hz.1 hz.2 hs))
 have HTA:Hid (∀V,Turned (fun k=>W.heap.size<=k) W V->At V.heap.size V 3 ratCells (repL m t) tp tc):=zh fun V hV=>by
  rw[<- hm];exact(ht.same (hV.same (Nat.le_refl _) fun k hk=>by omega)).mono hV.size
 rw[hn,hm];have hmm:(m:Int)<=12:=by omega
 have T0:=zh ((zr W).alloc (.cells #[.slice rp n rc,.slice gp n gc] 65 (0,0)));have n0:=zh (World.alloc_heap_new W (.cells #[.slice rp n rc,.slice gp n gc] 65 (0,0)));have z0:=zh (show(W.alloc (.cells #[.slice rp n rc,.slice gp n gc] 65 (0,0))).heap.size=W.heap.size+1 by simp)
 clear hN hfr hi ht hok hrk hsz HX HAB HA0 HWB HRE HGR HDR HSTEP HLAST HFIRST hlen hn hm hI hR hG hD hn8;go_enter Tryz.func76,Tryz.ntmps76;go_wp2_with fail
 go_loopw [9,10,11] (fun v s i wr=>∃(k:Nat) (q:Option Addr) (c:Nat),k<=m/\i=(.int .i64 k)/\v=.slice q k c/\s=.bool (someQ k (firstOpen (rankK cs) (amtK cs) r))/\Hid (Grown wr (W.heap.size+1) 4 1 boolCells (.slice q k c) (bL k (firstOpen (rankK cs) (amtK cs) r))/\Turned (fun _=>False) W wr/\wr.heap[W.heap.size]? = some (.cells #[.slice rp n rc,.slice gp n gc] 65 (0,0))/\W.heap.size+1<=wr.heap.size)) (fun _ _ i _=>m-(intOf i).toNat)
 case atStart=>exact⟨0,none,0,Nat.zero_le _,rfl,rfl,rfl,zh ⟨Grown.nil _ _ _ _ _,T0.out,n0.out,Nat.le_of_eq z0.out.symm⟩⟩
 case round =>
  obtain⟨k,q,c,hk,rfl,rfl,rfl,HI⟩:=hrel;by_cases hlt:k < m
  ·clear HRE2 HGR2 HDR2 HST2 HFI2 HLA2 HTA T0 n0 z0;obtain⟨u,hu⟩ : ∃u,cs[k]? = some u:=⟨_,List.getElem?_eq_getElem (by rw[HM.out];exact hlt)⟩
   obtain⟨b,a,rfl,-,e0,e1,e2,e3,e4⟩:=(HCL.out.turned HI.out.2.1).claims hu;have hf:firstOpen (rankK cs) (amtK cs) r k=(decide (u.rank=r) && !sameR u.amt zeroR):=by
    unfold firstOpen rankK amtK;rw[getD_of hu,amt_zero (HPL.out k u hu).2.2]
    congr 1
    by_cases hz:qR u.amt=0 <;> simp[hz]
   have hsu:=some_succ (firstOpen (rankK cs) (amtK cs) r) k;have hbl:=bL_succ (firstOpen (rankK cs) (amtK cs) r) k;obtain⟨⟨un,ux,ud⟩,hua⟩ : ∃s,u.amt=s:=⟨_,rfl⟩;rw[hua] at e2 e3 e4 hf;obtain⟨rk,hrke⟩ : ∃s,u.rank=s:=⟨_,rfl⟩;rw[hrke] at e1 hf;obtain⟨s,hs⟩ : ∃s,sameR ⟨un,ux,ud⟩ zeroR=s:=⟨_,rfl⟩;rw[hs] at hf;have hs2:sameR ⟨un,ux,ud⟩ ⟨false,⟨#[]⟩,⟨#[]⟩⟩=s:=hs;obtain⟨y,hy⟩ : ∃y,firstOpen (rankK cs) (amtK cs) r k=y:=⟨_,rfl⟩;rw[hy] at hf hsu hbl;obtain⟨b0,hb0⟩ : ∃y,someQ k (firstOpen (rankK cs) (amtK cs) r)=y:=⟨_,rfl⟩;rw[hb0] at hsu ⊢;have HSU:=zh hsu;have HBL:=zh hbl;have hk0:(0:Int)<=k:=by omega
   have hk1:(k:Int) < m:=by omega
   clear hu hua hrke hs hy hb0 hsu hbl e0;by_cases hrr:rk=(r:Int)
   ·rw[decide_eq_true hrr,Bool.true_and] at hf;have hr1:(rk == (r:Int))=true:=by simpa using hrr
    subst hf;clear hrr;cases s <;> cases b0
    all_goals
     try simp only[Bool.not_false,Bool.not_true] at HBL
     go_wp2_with (at_builtin;(refine app_bool wr rfl _ _ rfl (W.heap.size+1) (.slice q k c) _ (bL k (firstOpen (rankK cs) (amtK cs) r)) rfl rfl HI.out.1 HI.out.2.2.2 (by rw[bL_len];omega) ?_);intro p' c' w4 ho4 ht4;have HS:=zh (And.intro ho4 ht4);clear ho4 ht4)
     go_roundw
     case rel=>exact⟨k+1,p',c',by omega,by go_num,by simp[bL_len],by rw[HSU.out];rfl,zh ⟨by have:=HS.out.1;rw[<- HBL.out,bL_len] at this;exact this,HI.out.2.1.fresh HS.out.2 fun g hg=>by omega,(HS.out.2.block _ (getElem?_lt HI.out.2.2.1) (by omega)).trans HI.out.2.2.1,Nat.le_trans HI.out.2.2.2 HS.out.2.size⟩⟩
     case measure=>simp[intOf];omega
   ·rw[decide_eq_false hrr,Bool.false_and] at hf;have hr1:(rk == (r:Int))=false:=by simpa using hrr
    subst hf;clear hrr hs2;cases b0
    all_goals
     try simp only[Bool.not_false,Bool.not_true] at HBL
     go_wp2_with (at_builtin;(refine app_bool wr rfl _ _ rfl (W.heap.size+1) (.slice q k c) _ (bL k (firstOpen (rankK cs) (amtK cs) r)) rfl rfl HI.out.1 HI.out.2.2.2 (by rw[bL_len];omega) ?_);intro p' c' w4 ho4 ht4;have HS:=zh (And.intro ho4 ht4);clear ho4 ht4)
     go_roundw
     case rel=>exact⟨k+1,p',c',by omega,by go_num,by simp[bL_len],by rw[HSU.out];rfl,zh ⟨by have:=HS.out.1;rw[<- HBL.out,bL_len] at this;exact this,HI.out.2.1.fresh HS.out.2 fun g hg=>by omega,(HS.out.2.block _ (getElem?_lt HI.out.2.2.1) (by omega)).trans HI.out.2.2.1,Nat.le_trans HI.out.2.2.2 HS.out.2.size⟩⟩
     case measure=>simp[intOf];omega
  ·obtain rfl:m=k:=by omega
   clear hlt hk;have HOP:=zh HI.out.1;have hq:∀g,q=some ⟨g,0,none⟩->W.heap.size+1<=g/\g < wr.heap.size:=fun g hg=>by
    have h1:=ownsRow_block HI.out.1 g (by rw[hg];rfl)
    exact h1
   have HR0:Hid (RkS W (wr.alloc (.cells #[.bool false,.string ⟨#[]⟩,.string ⟨#[]⟩] 68)) (.cells #[.slice rp n rc,.slice gp n gc] 65 (0,0)) wr.heap.size 0 q tp c tc m (firstOpen (rankK cs) (amtK cs) r) t):=zh
    ⟨keepB ((zr wr).alloc _) HI.out.2.2.1,World.alloc_heap_new _ _,HI.out.1.turned ((zr wr).alloc _) (fun _ h=>h.elim),fun g hg=>(hq g hg).2,HI.out.2.1.alloc _,fun V hV=>HTA.out V (((HI.out.2.1.alloc _).mono fun _ h=>h.elim).trans (hV.mono fun g hg=>by
     rcases hg with hg | hg
     ·have:=hq g hg;omega
     ·have:=HI.out.2.1.size;omega))⟩
   have HBW:Hid (W.heap.size+1<=wr.heap.size/\∀g,q=some ⟨g,0,none⟩->W.heap.size+1<=g):=zh ⟨HI.out.2.2.2,fun g hg=>(hq g hg).1⟩
   obtain⟨B,hB⟩ : ∃B,wr.heap.size=B:=⟨_,rfl⟩;rw[hB] at HR0 HBW;clear hq HOP HI T0 n0 z0 HTA;go_wp2_with fail;clear hB
   go_loopw [2,10] (fun tk s wq=>∃(t1:Nat->Rat) (op:Nat->Bool) (part:Rat) (kx:Nat) (q2:Option Addr) (c2:Nat),tk=.slice q2 m c2/\s=.bool (someQ m op)/\Hid (I t1 op part kx/\RkS W wq (.cells #[.slice rp n rc,.slice gp n gc] 65 (0,0)) B part q q2 c c2 m op t1)/\Hid (∀b a s,q2=some ⟨b,a,s⟩->N<=b)) (fun _ _ wq=>openC q m wq)
   case atStart=>exact⟨t,_,0,kx,tp,tc,rfl,rfl,zh ⟨HFI2.out,HR0.out⟩,HFR⟩
   case round =>
    obtain⟨t1,op,part,kx1,q2,c2,rfl,rfl,HJ,HFQ⟩:=hrel;clear HFI2 HR0;obtain⟨b0,hb0⟩ : ∃y,someQ m op=y:=⟨_,rfl⟩;rw[hb0];cases b0
    ·have HE:=zh (HLA2.out t1 op part kx1 HJ.out.1 hb0);clear hb0;go_wp2_with fail;go_ret;exact⟨t1,kx1,q2,c2,rfl,HFQ.out,HJ.out.2.tk _ (Turned.refl _ _),HE.out.1,HE.out.2,HJ.out.2.tu⟩
    ·obtain⟨op',kx',hop,hI',hcnt⟩:=HST2.out t1 op part kx1 HJ.out.1 hb0;have HRC:=zh (fun V hV ht ho=>HRE2.out t1 op part q2 q c2 c kx1 V hV ht ho HJ.out.1)
     have HGC:=zh (fun V hV ht ho=>HGR2.out t1 op part q2 q c2 c kx1 V hV ht ho HJ.out.1)
     obtain⟨p',hp'⟩ : ∃p,R t1 op part=p:=⟨_,rfl⟩;rw[hp'] at hop hI' HRC HGC;obtain⟨t',ht'⟩ : ∃p,G t1 op p'=p:=⟨_,rfl⟩;rw[ht'] at hop hI' HGC;have HOP:=zh hop;have HIN:=zh hI';have HMS:Hid (cntQ op' m < openC q m wr):=zh (by rw[openC_of HJ.out.2.own];exact hcnt)
     obtain⟨c0,c1⟩:=box2c HJ.out.2.b0;obtain⟨d0,d1,d2,-,-,-⟩:=box3 HJ.out.2.b1;obtain⟨⟨pn,px,pd⟩,hpp⟩ : ∃s,repR part=s:=⟨_,rfl⟩;obtain⟨⟨rn,rx,rd⟩,hrr⟩ : ∃s,repR p'=s:=⟨_,rfl⟩;rw[hpp] at HRC d0 d1 d2;rw[hrr] at HRC HGC;have HPR:=zh hrr;clear hop hI' hcnt hp' ht' hpp hrr hb0;go_wp2_with fail;refine(HRC.out wr HJ.out.2.tu (HJ.out.2.tk _ (Turned.refl _ _)) HJ.out.2.bools).mono ?_;rintro e w1 ⟨rfl,u1⟩;have HK1:=zh (HJ.out.2.call u1);obtain⟨f0,f1,f2,f3,f4,f5⟩:=box3 HK1.out.b1;have HK2:=zh (HK1.out.putp p' (by have:=HBW.out.1;omega))
     have hp2:=(box3 HK2.out.b1);rw[HPR.out] at HK2 hp2;obtain⟨h0,h1,h2,-,-,-⟩:=hp2;clear u1 c0 c1 d0 d1 d2;go_wp2_with fail;refine(HGC.out _ HK2.out.tu (HK2.out.tk _ (Turned.refl _ _)) HK2.out.bools).mono ?_;rintro e w3 ⟨q3,c3,rfl,hg3,u3⟩;have HK3:=zh (HK2.out.takes hg3 u3);have HFQ3:Hid (∀b a s,q3=some ⟨b,a,s⟩->N<=b):=zh fun b a s hq=>by
      have h1:=(ownsRow_block hg3 b (by rw[hq];rfl)).1
      have h2:=HK2.out.tu.size;have h3:=HNW.out;omega
     clear u3 hg3 f0 f1 f2 f3 f4 f5 h0 h1 h2 HK1 HK2 HRC HGC HJ;go_wp2_with fail
     go_loopw [10,14] (fun s i wq=>∃j:Nat,j<=m/\i=(.int .i64 j)/\s=.bool (someQ j op')/\Hid (RkS W wq (.cells #[.slice rp n rc,.slice gp n gc] 65 (0,0)) B p' q q3 c c3 m (mixB op op' j) t')) (fun _ i _=>m-(intOf i).toNat)
     case atStart=>exact⟨0,Nat.zero_le _,rfl,rfl,zh (HK3.out.open_ (mixB_zero m op op').symm)⟩
     case round =>
      obtain⟨j,hj,rfl,rfl,HN⟩:=hrel;clear HK3;by_cases hlj:j < m
      ·skip
       obtain⟨u,hu⟩ : ∃u,cs[j]? = some u:=⟨_,List.getElem?_eq_getElem (by rw[HM.out];exact hlj)⟩
       obtain⟨b,a,rfl,-,e0,-,-,-,-⟩:=(HCL.out.turned HN.out.tu).claims hu;rw[(HPL.out j u hu).1] at e0;have HDC:=zh (fun V hV ht=>HDR2.out t' op' p' q3 c3 kx' j u V hV ht HIN.out hu)
       have hoj:=HOP.out j;obtain⟨dj,hdj⟩ : ∃d,D t' j=d:=⟨_,rfl⟩;obtain⟨y,hy⟩ : ∃y,op j=y:=⟨_,rfl⟩;rw[hdj] at HDC;rw[hdj,hy] at hoj;have hk0:(0:Int)<=j:=by omega
       have hk1:(j:Int) < m:=by omega
       obtain⟨g,hg,hge,hgl,hce,hfe,hfx⟩:=(show Grown wr (W.heap.size+1) 4 1 boolCells (.slice q (bL m (mixB op op' j)).length c) (bL m (mixB op op' j)) from by rw[bL_len];exact HN.out.own).putB (i:=j) (bL_get (mixB op op' j) hlj)
       subst hg;rw[mixB_at,hy] at hce hfx;have HFX:Hid (∀V,Turned (fun _=>False) wr V->V.cell? ⟨g,j,none⟩=some (.bool y)/\V.frozen? ⟨g,j,none⟩=false):=zh fun V hV=>by
        have h1:=hfx V true (hV.block g hgl id);exact⟨h1.2.2,h1.2.1⟩
       clear hdj hy hu hce hfe hfx
       go_upto_region 17 with fail
       refine region_tl 8 (by kernel_rfl) (by kernel_rfl) (fun V hT=>?_)
       have HNV:=zh (HN.out.call hT);have HTV:=zh hT;have e0:=cellT hT id e0;obtain⟨c0,c1⟩:=box2c HNV.out.b0;clear hT;simp only[List.take_succ_cons,List.take_zero,List.drop_succ_cons,List.drop_zero]
       repeat still_step
       refine wpStill_nil ?_;go_wp2_with fail;refine(HDC.out V HNV.out.tu (HNV.out.tk _ (Turned.refl _ _))).mono ?_;rintro e w4 ⟨rfl,t4⟩;have HN4:=zh (HNV.out.call t4);have HFZ:Hid (∀A,Turned (fun _=>False) w4 A->A.cell? ⟨g,j,none⟩=some (.bool y)/\A.frozen? ⟨g,j,none⟩=false):=zh fun A hA=>HFX.out A ((HTV.out.trans t4).trans hA)
       clear t4 e0 c0 c1 HN HNV HTV HFX HDC
       go_upto_region 18 with fail
       cases y
       ·have HOJ:Hid (op' j=false):=zh (by rw[hoj];rfl)
        clear hoj;refine region_tl 16 (by kernel_rfl) (by kernel_rfl) (fun V hT=>?_)
        have HNV:=zh (HN4.out.call hT);obtain⟨z1,z2⟩:=HFZ.out V hT;clear hT;simp only[List.take_succ_cons,List.take_zero,List.drop_succ_cons,List.drop_zero]
        repeat still_step
        refine wpStill_nil ?_;have HR6:=zh (HNV.out.putb (i:=j) (g:=g) rfl hlj hge false (op':=mixB op op' (j+1)) (by rw[<- mixB_set,HOJ.out]))
        have HSQ:Hid (someQ (j+1) op'=(someQ j op' || false)):=zh (by rw[some_succ,HOJ.out])
        obtain⟨b1,hb1⟩ : ∃y,someQ j op'=y:=⟨_,rfl⟩;rw[hb1] at HSQ ⊢;clear hb1;cases b1
        all_goals
         go_wp2_with fail
         go_roundw
         case rel=>exact⟨j+1,by omega,by go_num,by rw[HSQ.out];rfl,zh (HR6.out)⟩
         case measure=>simp[intOf];omega
       ·have HIO:=zh (fun V=>pInt_any 1 V (by decide))
        have hz:sameR (repR p') (repR ((1:Nat):Rat))=decide (p'=1):=same_one p';rw[HPR.out] at hz;obtain⟨⟨on,ox,od⟩,hone⟩ : ∃s,repR ((1:Nat):Rat)=s:=⟨_,rfl⟩;rw[hone] at hz HIO;clear hone;have HCM:Hid (∀A,Turned (fun _=>False) w4 A->A.cell? ⟨g,j,none⟩=some (.bool true)/\A.cell? ⟨B,0,none⟩=some (.bool rn)/\A.cell? ⟨B,1,none⟩=some (.string rx)/\A.cell? ⟨B,2,none⟩=some (.string rd)):=zh fun A hA=>by
         have hb:=keepB hA HN4.out.b1;rw[HPR.out] at hb;exact⟨(HFZ.out A hA).1,(box3 hb).1,(box3 hb).2.1,(box3 hb).2.2.1⟩
        by_cases hp1:p'=1
        ·have HOJ:Hid (op' j=false):=zh (by rw[hoj,decide_eq_false (by rw[hp1];exact fun h=>h rfl)];rfl)
         rw[decide_eq_true hp1] at hz;clear hoj hp1;refine wp_region_heldL (fun _=>True) (fun A=>A.cell? ⟨g,j,none⟩=some (.bool true)/\A.cell? ⟨B,0,none⟩=some (.bool rn)/\A.cell? ⟨B,1,none⟩=some (.string rx)/\A.cell? ⟨B,2,none⟩=some (.string rd)) 16 (by kernel_rfl) ?_
         have HS0:=zh (HCM.out _ (zr w4).drew);refine wpAnyL_take (i:=0) (oi:=_) (v:=.slice (some ⟨g,0,none⟩) m c) rfl (by kernel_rfl) (by kernel_rfl) (fun _ _ _ h=>h) (Or.inl ⟨by kernel_rfl,fun V hV=>?_⟩) trivial HS0.out ?_
         ·obtain⟨-,f0,f1,f2,f3⟩:=hV;go_simp
         try simp only[zz0,zz1,zz2,Act.put,zz3,zz4,zz5]
         refine wpAnyL_take (i:=1) (oi:=_) (v:=(.int .i64 j)) rfl (by kernel_rfl) (by kernel_rfl) (fun _ _ _ h=>h) (Or.inl ⟨by kernel_rfl,fun V hV=>?_⟩) trivial HS0.out ?_
         ·obtain⟨-,f0,f1,f2,f3⟩:=hV;go_simp
         try simp only[zz0,zz1,zz2,Act.put,zz3,zz4,zz5]
         refine wpAnyL_take (i:=2) (oi:=_) (v:=.slice (some ⟨g,0,none⟩) m c) rfl (by kernel_rfl) (by kernel_rfl) (fun _ _ _ h=>h) (Or.inl ⟨by kernel_rfl,fun V hV=>?_⟩) trivial HS0.out ?_
         ·obtain⟨-,f0,f1,f2,f3⟩:=hV;go_simp
         try simp only[zz0,zz1,zz2,Act.put,zz3,zz4,zz5]
         refine wpAnyL_take (i:=3) (oi:=_) (v:=(.int .i64 j)) rfl (by kernel_rfl) (by kernel_rfl) (fun _ _ _ h=>h) (Or.inl ⟨by kernel_rfl,fun V hV=>?_⟩) trivial HS0.out ?_
         ·obtain⟨-,f0,f1,f2,f3⟩:=hV;go_simp
         try simp only[zz0,zz1,zz2,Act.put,zz3,zz4,zz5]
         refine wpAnyL_take (i:=4) (oi:=_) (v:=.pointer (some ⟨g,j,none⟩)) rfl (by kernel_rfl) (by kernel_rfl) (fun _ _ _ h=>h) (Or.inl ⟨by kernel_rfl,fun V hV=>?_⟩) trivial HS0.out ?_
         ·obtain⟨-,f0,f1,f2,f3⟩:=hV;go_simp
         try simp only[zz0,zz1,zz2,Act.put,zz3,zz4,zz5]
         refine wpAnyL_take (i:=5) (oi:=_) (v:=.bool true) rfl (by kernel_rfl) (by kernel_rfl) (fun _ _ _ h=>h) (Or.inl ⟨by kernel_rfl,fun V hV=>?_⟩) trivial HS0.out ?_
         ·obtain⟨-,f0,f1,f2,f3⟩:=hV;go_simp
         try simp only[zz0,zz1,zz2,Act.put,zz3,zz4,zz5]
         refine wpAnyL_take (i:=6) (oi:=_) (v:=.bool true) rfl (by kernel_rfl) (by kernel_rfl) (fun _ _ _ h=>h) (Or.inl ⟨by kernel_rfl,fun V hV=>?_⟩) trivial HS0.out ?_
         ·obtain⟨-,f0,f1,f2,f3⟩:=hV;go_simp
         try simp only[zz0,zz1,zz2,Act.put,zz3,zz4,zz5]
         refine wpAnyL_take (i:=7) (oi:=_) (v:=.agg #[.bool rn,.string rx,.string rd]) rfl (by kernel_rfl) (by kernel_rfl) (fun _ _ _ h=>h) (Or.inl ⟨by kernel_rfl,fun V hV=>?_⟩) trivial HS0.out ?_
         ·obtain⟨-,f0,f1,f2,f3⟩:=hV;go_simp
         try simp only[zz0,zz1,zz2,Act.put,zz3,zz4,zz5]
         refine wpAnyL_one (i:=8) (o:=_) rfl (by kernel_rfl) (fun K hK=>?_)
         go_simp;refine(HIO.out _).mono ?_;rintro e w5 ⟨rfl,t5⟩;have T5:=zh ((zr w4).drew.trans t5);clear t5;have HS1:=zh (HCM.out _ T5.out);refine hK.out _ _ trivial (fun _=>HS1.out) ?_
         clear hK K;try simp only[zz0,zz1,zz2,Act.put,zz3,zz4,zz5]
         refine wpAnyL_take (i:=9) (oi:=_) (v:=.bool false) rfl (by kernel_rfl) (by kernel_rfl) (fun _ _ _ h=>h) (Or.inl ⟨by kernel_rfl,fun V hV=>?_⟩) trivial HS1.out ?_
         ·obtain⟨-,f0,f1,f2,f3⟩:=hV;go_simp
         try simp only[zz0,zz1,zz2,Act.put,zz3,zz4,zz5]
         refine wpAnyL_take (i:=10) (oi:=_) (v:=.bool false) rfl (by kernel_rfl) (by kernel_rfl) (fun _ _ _ h=>h) (Or.inl ⟨by kernel_rfl,fun V hV=>?_⟩) trivial HS1.out ?_
         ·obtain⟨-,f0,f1,f2,f3⟩:=hV;go_simp
         try simp only[zz0,zz1,zz2,Act.put,zz3,zz4,zz5]
         refine wpAnyL_take (i:=11) (oi:=_) (v:=.bool false) rfl (by kernel_rfl) (by kernel_rfl) (fun _ _ _ h=>h) (Or.inl ⟨by kernel_rfl,fun V hV=>?_⟩) trivial HS1.out ?_
         ·obtain⟨-,f0,f1,f2,f3⟩:=hV;go_simp
         try simp only[zz0,zz1,zz2,Act.put,zz3,zz4,zz5]
         refine wpAnyL_take (i:=12) (oi:=_) (v:=undef) rfl (by kernel_rfl) (by kernel_rfl) (fun _ _ _ h=>h) (Or.inr ⟨by kernel_rfl,rfl⟩) trivial HS1.out ?_
         try simp only[zz0,zz1,zz2,Act.put,zz3,zz4,zz5]
         refine wpAnyL_take (i:=13) (oi:=_) (v:=undef) rfl (by kernel_rfl) (by kernel_rfl) (fun _ _ _ h=>h) (Or.inr ⟨by kernel_rfl,rfl⟩) trivial HS1.out ?_
         try simp only[zz0,zz1,zz2,Act.put,zz3,zz4,zz5]
         refine wpAnyL_take (i:=14) (oi:=_) (v:=.bool false) rfl (by kernel_rfl) (by kernel_rfl) (fun _ _ _ h=>h) (Or.inl ⟨by kernel_rfl,fun V hV=>?_⟩) trivial HS1.out ?_
         ·obtain⟨-,f0,f1,f2,f3⟩:=hV;go_simp
         try simp only[zz0,zz1,zz2,Act.put,zz3,zz4,zz5]
         refine wpAnyL_take (i:=15) (oi:=_) (v:=.pointer (some ⟨g,j,none⟩)) rfl (by kernel_rfl) (by kernel_rfl) (fun _ _ _ h=>h) (Or.inl ⟨by kernel_rfl,fun V hV=>?_⟩) trivial HS1.out ?_
         ·obtain⟨-,f0,f1,f2,f3⟩:=hV;go_simp
         try simp only[zz0,zz1,zz2,Act.put,zz3,zz4,zz5]
         have HR5:=zh (HN4.out.call T5.out);have HR6:=zh (HR5.out.putb (i:=j) (g:=g) rfl hlj hge false (op':=mixB op op' (j+1)) (by rw[<- mixB_set,HOJ.out]))
         obtain⟨z1,z2⟩:=HFZ.out w5 T5.out;refine wpAnyL_one (i:=16) (o:=_) rfl (by kernel_rfl) (fun K hK=>?_)
         go_simp;refine hK.out _ _ trivial (fun h=>absurd h (by decide)) ?_
         clear hK K;try simp only[zz0,zz1,zz2,Act.put,zz3,zz4,zz5]
         refine wpAnyL_done (by kernel_rfl) ?_ _
         have HSQ:Hid (someQ (j+1) op'=(someQ j op' || false)):=zh (by rw[some_succ,HOJ.out])
         obtain⟨b1,hb1⟩ : ∃y,someQ j op'=y:=⟨_,rfl⟩;rw[hb1] at HSQ ⊢;clear hb1;cases b1
         all_goals
          go_wp2_with fail
          go_roundw
          case rel=>exact⟨j+1,by omega,by go_num,by rw[HSQ.out];rfl,zh (HR6.out)⟩
          case measure=>simp[intOf];omega
        ·rw[decide_eq_true hp1] at hoj;have hz2:=hz;rw[decide_eq_false hp1] at hz;clear hz2 hp1;cases dj
         ·have HOJ:Hid (op' j=true):=zh (by rw[hoj];rfl)
          clear hoj;refine wp_region_heldL (fun _=>True) (fun A=>A.cell? ⟨g,j,none⟩=some (.bool true)/\A.cell? ⟨B,0,none⟩=some (.bool rn)/\A.cell? ⟨B,1,none⟩=some (.string rx)/\A.cell? ⟨B,2,none⟩=some (.string rd)) 16 (by kernel_rfl) ?_
          have HS0:=zh (HCM.out _ (zr w4).drew);refine wpAnyL_take (i:=0) (oi:=_) (v:=.slice (some ⟨g,0,none⟩) m c) rfl (by kernel_rfl) (by kernel_rfl) (fun _ _ _ h=>h) (Or.inl ⟨by kernel_rfl,fun V hV=>?_⟩) trivial HS0.out ?_
          ·obtain⟨-,f0,f1,f2,f3⟩:=hV;go_simp
          try simp only[zz0,zz1,zz2,Act.put,zz3,zz4,zz5]
          refine wpAnyL_take (i:=1) (oi:=_) (v:=(.int .i64 j)) rfl (by kernel_rfl) (by kernel_rfl) (fun _ _ _ h=>h) (Or.inl ⟨by kernel_rfl,fun V hV=>?_⟩) trivial HS0.out ?_
          ·obtain⟨-,f0,f1,f2,f3⟩:=hV;go_simp
          try simp only[zz0,zz1,zz2,Act.put,zz3,zz4,zz5]
          refine wpAnyL_take (i:=2) (oi:=_) (v:=.slice (some ⟨g,0,none⟩) m c) rfl (by kernel_rfl) (by kernel_rfl) (fun _ _ _ h=>h) (Or.inl ⟨by kernel_rfl,fun V hV=>?_⟩) trivial HS0.out ?_
          ·obtain⟨-,f0,f1,f2,f3⟩:=hV;go_simp
          try simp only[zz0,zz1,zz2,Act.put,zz3,zz4,zz5]
          refine wpAnyL_take (i:=3) (oi:=_) (v:=(.int .i64 j)) rfl (by kernel_rfl) (by kernel_rfl) (fun _ _ _ h=>h) (Or.inl ⟨by kernel_rfl,fun V hV=>?_⟩) trivial HS0.out ?_
          ·obtain⟨-,f0,f1,f2,f3⟩:=hV;go_simp
          try simp only[zz0,zz1,zz2,Act.put,zz3,zz4,zz5]
          refine wpAnyL_take (i:=4) (oi:=_) (v:=.pointer (some ⟨g,j,none⟩)) rfl (by kernel_rfl) (by kernel_rfl) (fun _ _ _ h=>h) (Or.inl ⟨by kernel_rfl,fun V hV=>?_⟩) trivial HS0.out ?_
          ·obtain⟨-,f0,f1,f2,f3⟩:=hV;go_simp
          try simp only[zz0,zz1,zz2,Act.put,zz3,zz4,zz5]
          refine wpAnyL_take (i:=5) (oi:=_) (v:=.bool true) rfl (by kernel_rfl) (by kernel_rfl) (fun _ _ _ h=>h) (Or.inl ⟨by kernel_rfl,fun V hV=>?_⟩) trivial HS0.out ?_
          ·obtain⟨-,f0,f1,f2,f3⟩:=hV;go_simp
          try simp only[zz0,zz1,zz2,Act.put,zz3,zz4,zz5]
          refine wpAnyL_take (i:=6) (oi:=_) (v:=.bool true) rfl (by kernel_rfl) (by kernel_rfl) (fun _ _ _ h=>h) (Or.inl ⟨by kernel_rfl,fun V hV=>?_⟩) trivial HS0.out ?_
          ·obtain⟨-,f0,f1,f2,f3⟩:=hV;go_simp
          try simp only[zz0,zz1,zz2,Act.put,zz3,zz4,zz5]
          refine wpAnyL_take (i:=7) (oi:=_) (v:=.agg #[.bool rn,.string rx,.string rd]) rfl (by kernel_rfl) (by kernel_rfl) (fun _ _ _ h=>h) (Or.inl ⟨by kernel_rfl,fun V hV=>?_⟩) trivial HS0.out ?_
          ·obtain⟨-,f0,f1,f2,f3⟩:=hV;go_simp
          try simp only[zz0,zz1,zz2,Act.put,zz3,zz4,zz5]
          refine wpAnyL_one (i:=8) (o:=_) rfl (by kernel_rfl) (fun K hK=>?_)
          go_simp;refine(HIO.out _).mono ?_;rintro e w5 ⟨rfl,t5⟩;have T5:=zh ((zr w4).drew.trans t5);clear t5;have HS1:=zh (HCM.out _ T5.out);refine hK.out _ _ trivial (fun _=>HS1.out) ?_
          clear hK K;try simp only[zz0,zz1,zz2,Act.put,zz3,zz4,zz5]
          refine wpAnyL_take (i:=9) (oi:=_) (v:=.bool true) rfl (by kernel_rfl) (by kernel_rfl) (fun _ _ _ h=>h) (Or.inl ⟨by kernel_rfl,fun V hV=>?_⟩) trivial HS1.out ?_
          ·obtain⟨-,f0,f1,f2,f3⟩:=hV;go_simp
          try simp only[zz0,zz1,zz2,Act.put,zz3,zz4,zz5]
          refine wpAnyL_take (i:=10) (oi:=_) (v:=.bool true) rfl (by kernel_rfl) (by kernel_rfl) (fun _ _ _ h=>h) (Or.inl ⟨by kernel_rfl,fun V hV=>?_⟩) trivial HS1.out ?_
          ·obtain⟨-,f0,f1,f2,f3⟩:=hV;go_simp
          try simp only[zz0,zz1,zz2,Act.put,zz3,zz4,zz5]
          refine wpAnyL_take (i:=11) (oi:=_) (v:=.bool true) rfl (by kernel_rfl) (by kernel_rfl) (fun _ _ _ h=>h) (Or.inl ⟨by kernel_rfl,fun V hV=>?_⟩) trivial HS1.out ?_
          ·obtain⟨-,f0,f1,f2,f3⟩:=hV;go_simp
          try simp only[zz0,zz1,zz2,Act.put,zz3,zz4,zz5]
          refine wpAnyL_take (i:=12) (oi:=_) (v:=.bool false) rfl (by kernel_rfl) (by kernel_rfl) (fun _ _ _ h=>h) (Or.inl ⟨by kernel_rfl,fun V hV=>?_⟩) trivial HS1.out ?_
          ·obtain⟨-,f0,f1,f2,f3⟩:=hV;go_simp
          try simp only[zz0,zz1,zz2,Act.put,zz3,zz4,zz5]
          refine wpAnyL_take (i:=13) (oi:=_) (v:=.bool true) rfl (by kernel_rfl) (by kernel_rfl) (fun _ _ _ h=>h) (Or.inl ⟨by kernel_rfl,fun V hV=>?_⟩) trivial HS1.out ?_
          ·obtain⟨-,f0,f1,f2,f3⟩:=hV;go_simp
          try simp only[zz0,zz1,zz2,Act.put,zz3,zz4,zz5]
          refine wpAnyL_take (i:=14) (oi:=_) (v:=.bool true) rfl (by kernel_rfl) (by kernel_rfl) (fun _ _ _ h=>h) (Or.inl ⟨by kernel_rfl,fun V hV=>?_⟩) trivial HS1.out ?_
          ·obtain⟨-,f0,f1,f2,f3⟩:=hV;go_simp
          try simp only[zz0,zz1,zz2,Act.put,zz3,zz4,zz5]
          refine wpAnyL_take (i:=15) (oi:=_) (v:=.pointer (some ⟨g,j,none⟩)) rfl (by kernel_rfl) (by kernel_rfl) (fun _ _ _ h=>h) (Or.inl ⟨by kernel_rfl,fun V hV=>?_⟩) trivial HS1.out ?_
          ·obtain⟨-,f0,f1,f2,f3⟩:=hV;go_simp
          try simp only[zz0,zz1,zz2,Act.put,zz3,zz4,zz5]
          have HR5:=zh (HN4.out.call T5.out);have HR6:=zh (HR5.out.putb (i:=j) (g:=g) rfl hlj hge true (op':=mixB op op' (j+1)) (by rw[<- mixB_set,HOJ.out]))
          obtain⟨z1,z2⟩:=HFZ.out w5 T5.out;refine wpAnyL_one (i:=16) (o:=_) rfl (by kernel_rfl) (fun K hK=>?_)
          go_simp;refine hK.out _ _ trivial (fun h=>absurd h (by decide)) ?_
          clear hK K;try simp only[zz0,zz1,zz2,Act.put,zz3,zz4,zz5]
          refine wpAnyL_done (by kernel_rfl) ?_ _
          have HSQ:Hid (someQ (j+1) op'=(someQ j op' || true)):=zh (by rw[some_succ,HOJ.out])
          obtain⟨b1,hb1⟩ : ∃y,someQ j op'=y:=⟨_,rfl⟩;rw[hb1] at HSQ ⊢;clear hb1;cases b1
          all_goals
           go_wp2_with fail
           go_roundw
           case rel=>exact⟨j+1,by omega,by go_num,by rw[HSQ.out];rfl,zh (HR6.out)⟩
           case measure=>simp[intOf];omega
         ·have HOJ:Hid (op' j=false):=zh (by rw[hoj];rfl)
          clear hoj;refine wp_region_heldL (fun _=>True) (fun A=>A.cell? ⟨g,j,none⟩=some (.bool true)/\A.cell? ⟨B,0,none⟩=some (.bool rn)/\A.cell? ⟨B,1,none⟩=some (.string rx)/\A.cell? ⟨B,2,none⟩=some (.string rd)) 16 (by kernel_rfl) ?_
          have HS0:=zh (HCM.out _ (zr w4).drew);refine wpAnyL_take (i:=0) (oi:=_) (v:=.slice (some ⟨g,0,none⟩) m c) rfl (by kernel_rfl) (by kernel_rfl) (fun _ _ _ h=>h) (Or.inl ⟨by kernel_rfl,fun V hV=>?_⟩) trivial HS0.out ?_
          ·obtain⟨-,f0,f1,f2,f3⟩:=hV;go_simp
          try simp only[zz0,zz1,zz2,Act.put,zz3,zz4,zz5]
          refine wpAnyL_take (i:=1) (oi:=_) (v:=(.int .i64 j)) rfl (by kernel_rfl) (by kernel_rfl) (fun _ _ _ h=>h) (Or.inl ⟨by kernel_rfl,fun V hV=>?_⟩) trivial HS0.out ?_
          ·obtain⟨-,f0,f1,f2,f3⟩:=hV;go_simp
          try simp only[zz0,zz1,zz2,Act.put,zz3,zz4,zz5]
          refine wpAnyL_take (i:=2) (oi:=_) (v:=.slice (some ⟨g,0,none⟩) m c) rfl (by kernel_rfl) (by kernel_rfl) (fun _ _ _ h=>h) (Or.inl ⟨by kernel_rfl,fun V hV=>?_⟩) trivial HS0.out ?_
          ·obtain⟨-,f0,f1,f2,f3⟩:=hV;go_simp
          try simp only[zz0,zz1,zz2,Act.put,zz3,zz4,zz5]
          refine wpAnyL_take (i:=3) (oi:=_) (v:=(.int .i64 j)) rfl (by kernel_rfl) (by kernel_rfl) (fun _ _ _ h=>h) (Or.inl ⟨by kernel_rfl,fun V hV=>?_⟩) trivial HS0.out ?_
          ·obtain⟨-,f0,f1,f2,f3⟩:=hV;go_simp
          try simp only[zz0,zz1,zz2,Act.put,zz3,zz4,zz5]
          refine wpAnyL_take (i:=4) (oi:=_) (v:=.pointer (some ⟨g,j,none⟩)) rfl (by kernel_rfl) (by kernel_rfl) (fun _ _ _ h=>h) (Or.inl ⟨by kernel_rfl,fun V hV=>?_⟩) trivial HS0.out ?_
          ·obtain⟨-,f0,f1,f2,f3⟩:=hV;go_simp
          try simp only[zz0,zz1,zz2,Act.put,zz3,zz4,zz5]
          refine wpAnyL_take (i:=5) (oi:=_) (v:=.bool true) rfl (by kernel_rfl) (by kernel_rfl) (fun _ _ _ h=>h) (Or.inl ⟨by kernel_rfl,fun V hV=>?_⟩) trivial HS0.out ?_
          ·obtain⟨-,f0,f1,f2,f3⟩:=hV;go_simp
          try simp only[zz0,zz1,zz2,Act.put,zz3,zz4,zz5]
          refine wpAnyL_take (i:=6) (oi:=_) (v:=.bool true) rfl (by kernel_rfl) (by kernel_rfl) (fun _ _ _ h=>h) (Or.inl ⟨by kernel_rfl,fun V hV=>?_⟩) trivial HS0.out ?_
          ·obtain⟨-,f0,f1,f2,f3⟩:=hV;go_simp
          try simp only[zz0,zz1,zz2,Act.put,zz3,zz4,zz5]
          refine wpAnyL_take (i:=7) (oi:=_) (v:=.agg #[.bool rn,.string rx,.string rd]) rfl (by kernel_rfl) (by kernel_rfl) (fun _ _ _ h=>h) (Or.inl ⟨by kernel_rfl,fun V hV=>?_⟩) trivial HS0.out ?_
          ·obtain⟨-,f0,f1,f2,f3⟩:=hV;go_simp
          try simp only[zz0,zz1,zz2,Act.put,zz3,zz4,zz5]
          refine wpAnyL_one (i:=8) (o:=_) rfl (by kernel_rfl) (fun K hK=>?_)
          go_simp;refine(HIO.out _).mono ?_;rintro e w5 ⟨rfl,t5⟩;have T5:=zh ((zr w4).drew.trans t5);clear t5;have HS1:=zh (HCM.out _ T5.out);refine hK.out _ _ trivial (fun _=>HS1.out) ?_
          clear hK K;try simp only[zz0,zz1,zz2,Act.put,zz3,zz4,zz5]
          refine wpAnyL_take (i:=9) (oi:=_) (v:=.bool true) rfl (by kernel_rfl) (by kernel_rfl) (fun _ _ _ h=>h) (Or.inl ⟨by kernel_rfl,fun V hV=>?_⟩) trivial HS1.out ?_
          ·obtain⟨-,f0,f1,f2,f3⟩:=hV;go_simp
          try simp only[zz0,zz1,zz2,Act.put,zz3,zz4,zz5]
          refine wpAnyL_take (i:=10) (oi:=_) (v:=.bool true) rfl (by kernel_rfl) (by kernel_rfl) (fun _ _ _ h=>h) (Or.inl ⟨by kernel_rfl,fun V hV=>?_⟩) trivial HS1.out ?_
          ·obtain⟨-,f0,f1,f2,f3⟩:=hV;go_simp
          try simp only[zz0,zz1,zz2,Act.put,zz3,zz4,zz5]
          refine wpAnyL_take (i:=11) (oi:=_) (v:=.bool true) rfl (by kernel_rfl) (by kernel_rfl) (fun _ _ _ h=>h) (Or.inl ⟨by kernel_rfl,fun V hV=>?_⟩) trivial HS1.out ?_
          ·obtain⟨-,f0,f1,f2,f3⟩:=hV;go_simp
          try simp only[zz0,zz1,zz2,Act.put,zz3,zz4,zz5]
          refine wpAnyL_take (i:=12) (oi:=_) (v:=.bool true) rfl (by kernel_rfl) (by kernel_rfl) (fun _ _ _ h=>h) (Or.inl ⟨by kernel_rfl,fun V hV=>?_⟩) trivial HS1.out ?_
          ·obtain⟨-,f0,f1,f2,f3⟩:=hV;go_simp
          try simp only[zz0,zz1,zz2,Act.put,zz3,zz4,zz5]
          refine wpAnyL_take (i:=13) (oi:=_) (v:=.bool false) rfl (by kernel_rfl) (by kernel_rfl) (fun _ _ _ h=>h) (Or.inl ⟨by kernel_rfl,fun V hV=>?_⟩) trivial HS1.out ?_
          ·obtain⟨-,f0,f1,f2,f3⟩:=hV;go_simp
          try simp only[zz0,zz1,zz2,Act.put,zz3,zz4,zz5]
          refine wpAnyL_take (i:=14) (oi:=_) (v:=.bool false) rfl (by kernel_rfl) (by kernel_rfl) (fun _ _ _ h=>h) (Or.inl ⟨by kernel_rfl,fun V hV=>?_⟩) trivial HS1.out ?_
          ·obtain⟨-,f0,f1,f2,f3⟩:=hV;go_simp
          try simp only[zz0,zz1,zz2,Act.put,zz3,zz4,zz5]
          refine wpAnyL_take (i:=15) (oi:=_) (v:=.pointer (some ⟨g,j,none⟩)) rfl (by kernel_rfl) (by kernel_rfl) (fun _ _ _ h=>h) (Or.inl ⟨by kernel_rfl,fun V hV=>?_⟩) trivial HS1.out ?_
          ·obtain⟨-,f0,f1,f2,f3⟩:=hV;go_simp
          try simp only[zz0,zz1,zz2,Act.put,zz3,zz4,zz5]
          have HR5:=zh (HN4.out.call T5.out);have HR6:=zh (HR5.out.putb (i:=j) (g:=g) rfl hlj hge false (op':=mixB op op' (j+1)) (by rw[<- mixB_set,HOJ.out]))
          obtain⟨z1,z2⟩:=HFZ.out w5 T5.out;refine wpAnyL_one (i:=16) (o:=_) rfl (by kernel_rfl) (fun K hK=>?_)
          go_simp;refine hK.out _ _ trivial (fun h=>absurd h (by decide)) ?_
          clear hK K;try simp only[zz0,zz1,zz2,Act.put,zz3,zz4,zz5]
          refine wpAnyL_done (by kernel_rfl) ?_ _
          have HSQ:Hid (someQ (j+1) op'=(someQ j op' || false)):=zh (by rw[some_succ,HOJ.out])
          obtain⟨b1,hb1⟩ : ∃y,someQ j op'=y:=⟨_,rfl⟩;rw[hb1] at HSQ ⊢;clear hb1;cases b1
          all_goals
           go_wp2_with fail
           go_roundw
           case rel=>exact⟨j+1,by omega,by go_num,by rw[HSQ.out];rfl,zh (HR6.out)⟩
           case measure=>simp[intOf];omega
      ·obtain rfl:j=m:=by omega
       have HN2:=zh (HN.out.open_ (mixB_all j op op'));clear HN;go_wp2_with fail
       go_roundw
       case rel=>exact⟨t',op',p',kx',q3,c3,rfl,rfl,zh ⟨HIN.out,HN2.out⟩,HFQ3⟩
       case measure=>rw[openC_of HN2.out.own];exact HMS.out
end Go.Proofs.YtanhhdndgkhcfaaGreatDoor
