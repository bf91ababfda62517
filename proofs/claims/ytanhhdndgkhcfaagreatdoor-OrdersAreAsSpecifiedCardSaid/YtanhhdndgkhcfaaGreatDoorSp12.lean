/- Part 12 of the proof of lawSpec.card: HeldIn, OrdWalkG, OrdWalkH, OrdFold, RivRefA. Conditions: those of each theorem. -/
import Derived.Deep.RegionHeld3
import Derived.OrdersIn
import Derived.RangeFuncCalls
import Derived.WalkKit
import Derived.Test.YtanhhdndgkhcfaaGreatDoorSp01
import Derived.Test.YtanhhdndgkhcfaaGreatDoorSp09
import Derived.Test.YtanhhdndgkhcfaaGreatDoorSp10
import Derived.Test.YtanhhdndgkhcfaaGreatDoorSp11
set_option maxRecDepth 100000
set_option maxHeartbeats 8000000
namespace Go.Proofs.YtanhhdndgkhcfaaGreatDoor
open Go Go.Proofs Go.RowKit
def OnlyN (Q:Exit->Act->World->Prop):Exit->Act->World->Prop
 | .normal,a,w=>Q .normal a w
 | _,_,_=>False
theorem onlyN_lets{Q:Exit->Act->World->Prop} (h:LetsOut (OnlyN Q)):False:=by
 obtain⟨a,w,h⟩:=h;exact h
section
variable {P:Program} {Q:Exit->Act->World->Prop} {l:Nat}
theorem oper_round{o:Oper} (hdef:∀c,o.op≠.defer c) {K:Act->World->Prop} {a:Act} {w:World} (h:o.wp P a w K (OnlyN Q)):o.wpIn (Fence.wide.inRound l) 0 P a w K Q:=by
 unfold Oper.wp at h;unfold Oper.wpIn;refine⟨fun _ _=>trivial,?_⟩
 rw[Oper.semAt_eq _ _ _ hdef];generalize (execOp a.eval o).run P w=r at h ⊢;cases r with
 | ok x w' =>
  cases x
  case value v=>exact h
  case skip=>exact h
  case defer d=>exact h
  case enter f args =>
   refine⟨fun h=>(by cases h),CallsIn.inRound l (callsIn_wide.2 (Calls.mono h fun e w'' he=>?_))⟩
   cases e with
   | returned v=>exact he
   | panicked c=>exact he.elim
   | outgrown=>exact(onlyN_lets he).elim
  case row row args =>
   refine⟨fun h=>(by cases h),fun c cs _=>?_⟩
   obtain⟨v,w',h1,h2⟩:=h c cs;exact⟨v,w',h1,stepsIn_wide.2 h2⟩
  all_goals exact h.elim
 | halt x w' =>
  cases x
  case panic v=>exact h.elim
  all_goals exact h.elim
theorem wpOp_round{ops:Array Oper} (hdef:∀(j:Nat) (o:Oper),ops[j]? = some o->∀c,o.op≠.defer c) {i:Nat} {K K':Act->World->Prop} (hK:∀a w,K a w->K' a w) {a:Act} {w:World} (h:wpOp P ops (OnlyN Q) i K a w) :
  wpOpIn (Fence.wide.inRound l) 0 P ops Q i K' a w:=by
 unfold wpOp at h;unfold wpOpIn;cases ho:ops[i]? with
 | none=>rw[ho] at h;exact hK _ _ h
 | some o =>
  rw[ho] at h;simp only at h ⊢;split
  ·rename_i hw
   rw[if_pos hw] at h;rcases h with h | ⟨-,h⟩
   ·exact Oper.wpIn_mono hK (oper_round (hdef i o ho) h)
   ·exact(onlyN_lets h).elim
  ·rename_i hw
   rw[if_neg hw] at h;exact⟨fun _ _=>trivial,hK _ _ h⟩
theorem wpAny_round{md:Region.Mode} {ops:Array Oper} (hdef:∀(j:Nat) (o:Oper),ops[j]? = some o->∀c,o.op≠.defer c):∀(fuel:Nat) (listed:Array Bool) (a:Act) (w:World),wpAny P md ops (OnlyN Q) fuel listed a w ->
  wpAnyIn (Fence.wide.inRound l) 0 P md ops Q fuel listed a w
 | 0,_,_,_,h=>h
 | fuel+1,_,_,_,h=>⟨h.1,fun i hi=>wpOp_round hdef (wpAny_round hdef fuel _) (h.2 i hi)⟩
def noDefer (ops:Array Oper):Bool:=ops.all fun o=>match o.op with | .defer _=>false | _=>true
theorem wpIn_region_round{S:World->Prop} {id:Nat} {ops:Array Oper} {a:Act} {w:World} (hm:P.follows .mixedOrders=true) (hd:noDefer ops=true)
  (h:wpAnyH P .any ops (OnlyN Q) S ops.size (Array.replicate ops.size false) a w.drew):(Code.region id ops true).wpIn (Fence.wide.inRound l) 0 P Q a w:=by
 refine wpIn_region_any hm (wpAny_round (fun j o ho c hc=>?_) _ _ _ _ (wpAny_of_held _ _ _ _ h))
 have:=(Array.all_eq_true'.1 hd) o (Array.mem_of_getElem? ho);rw[hc] at this;cases this
end
attribute [local go_sem] Oper.semAt_some
attribute [local go_sem ↓] run_eql_rat' run_neq_rat'
theorem Turned.cut{W A B:World} {C D:Nat->Prop} (h:Turned C W A) (k:Turned D A B) (hD:∀g,D g->C g\/W.heap.size<=g):Turned C W B :=
 ⟨k.os.trans h.os,k.tape.trans h.tape,k.output.trans h.output,Nat.le_trans h.size k.size,fun i hi hn=>(k.block i (Nat.lt_of_lt_of_le hi h.size) (fun c=>by
  rcases hD i c with h1 | h1
  ·exact hn h1
  ·omega)).trans (h.block i hi hn)⟩
theorem way_get{d:List Int} {p:Int} {i y:Nat} (h:(way d p)[i]? = some y):(y:Int)=stepN d i p:=by
 have hlt:i < (way d p).length:=(List.getElem?_eq_some_iff.1 h).1;have h1:=way_drop (p:=p) (show i<=d.length+1 by have:=way_len d p;omega)
 have h2:=List.getElem?_drop (xs:=way d p) (i:=i) (j:=0);rw[Nat.add_zero,h,h1] at h2;generalize d.length+1-i=f at h2;cases f with
 | zero=>simp[wayN] at h2
 | succ f =>
  rw[wayN] at h2;split at h2
  ·simp at h2
  ·simp at h2;omega
theorem BytesQ.szr{q:Rat} {k:Nat} (h:BytesQ q k):SzR (repR q) k:=repR_size h
theorem summed_any(rs:List Rc) (ds:List Int) (rp:Option Addr) (rc gf m:Nat) (lb:Array Value) (xs:List Nat) (pl:Nat->Int) (av:Nat->Rv) (am:Nat->Rat) (W:World) (hr:RivAt W.heap.size W rs rp rc)
  (hit:∀w,Turned (fun _=>False) W w->IterE True Tryz.prog gf lb (cEncs pl av) xs (fun _=>False) (fun k=>k < W.heap.size) w) (eg:∀args w,(callFunc gf args).run Tryz.prog w=.ok (.enter gf args) w)
  (hds:ds=rs.map (·.down)) (hd:∀x∈ds,x < ds.length)
  (hx:∀k∈xs,∃p:Nat,pl k=p/\p < ds.length/\av k=repR (am k)/\BytesQ (am k) m) (hb:xs.length*((ds.length+1)*(m+1))+(ds.length+1)*(m+1)+m+10<=100000000) (hn40:ds.length<=40) (hends:∀p:Nat,p < ds.length->stepN ds (ds.length+1) p < 0) :
  Calls Tryz.prog 60 #[.slice rp rs.length rc,.func (.func gf) #[] lb] W fun e w'=>∃arr,e=.returned (.slice (some ⟨arr,0,none⟩) rs.length rs.length)/\W.heap.size<=arr/\OwnR w' arr (repL rs.length (addAll ds pl am (fun _=>0) xs))/\Turned (fun _=>False) W w':=by
 refine callsIn_wide (n:=0).1 ?_;refine callsIn_of_wp_marks Tryz.func60 rfl trivial ?_ rfl;simp only[Tryz.ntmps60,List.size_toArray,List.length_cons,List.length_nil,Nat.reduceAdd,Nat.reduceSub,Array.replicate_succ,Array.replicate_zero,List.push_toArray,List.append_toArray,List.nil_append,List.cons_append];have hnl:rs.length=ds.length:=by rw[hds,List.length_map]
 obtain⟨i0,hif,hz0,hz1,hz2⟩:=info_parts infoRat;have hmake:∀w:World,(Instr.makeSlice 23 (.int .i64 rs.length) (.int .i64 rs.length)).run Tryz.prog w=.ok (.slice (some ⟨w.heap.size,0,none⟩) rs.length rs.length) (w.alloc (.cells (madeCells #[.bool false,.string ⟨#[]⟩,.string ⟨#[]⟩] (rs.length*3)) 68)):=fun w=>by
  have:=run_make (P:=Tryz.prog) w 23 68 i0 (ratV zeroR) Tryz.underlying23 hif hz0 .i64 .i64 rs.length rs.length (by omega) (Int.le_refl _) (by rw[hz2];omega) (by omega)
  simpa [hz1,Value.cells,zeroR] using this
 have hmx:(rs.length:Int)<=40:=by omega
 obtain⟨n,hn⟩ : ∃n,rs.length=n:=⟨_,rfl⟩;have HRN:=zh hn;rw[hn] at hmake hmx hnl ⊢;have HNL:=zh hnl;have HDS:=zh hds;have HD:=zh hd;have HEN:=zh hends;have HX:=zh hx;have HB:=zh hb;have HR:=zh hr;have HIT:=zh hit;have HEG:=zh eg;have hn0:(0:Int)<=n:=by omega
 clear hif hz0 hz1 hz2 hn hnl hds hd hends hx hb hr hit eg hn40
 gi_wp2_with fail
 clear hmake;have B1:=new3 W (.cells #[.slice rp n rc] 22) (.cells (madeCells #[.bool false,.string ⟨#[]⟩,.string ⟨#[]⟩] (n*3)) 68) (.cells #[.slice (some ⟨W.heap.size+1,0,none⟩) n n] 23);have O1:=(OwnR.made (W.alloc (.cells #[.slice rp n rc] 22)) n).turned ((zr _).alloc (.cells #[.slice (some ⟨W.heap.size+1,0,none⟩) n n] 23)) id;have T1:=(((zr W).alloc (.cells #[.slice rp n rc] 22)).alloc (.cells (madeCells #[.bool false,.string ⟨#[]⟩,.string ⟨#[]⟩] (n*3)) 68)).alloc (.cells #[.slice (some ⟨W.heap.size+1,0,none⟩) n n] 23);have hz1:(((W.alloc (.cells #[.slice rp n rc] 22)).alloc (.cells (madeCells #[.bool false,.string ⟨#[]⟩,.string ⟨#[]⟩] (n*3)) 68)).alloc (.cells #[.slice (some ⟨W.heap.size+1,0,none⟩) n n] 23)).heap.size=W.heap.size+3:=by simp
 rw[show(W.alloc (.cells #[.slice rp n rc] 22)).heap.size=W.heap.size+1 by simp,repL_zero] at O1
 obtain⟨w1,hw1⟩ : ∃w1,w1=((W.alloc (.cells #[.slice rp n rc] 22)).alloc (.cells (madeCells #[.bool false,.string ⟨#[]⟩,.string ⟨#[]⟩] (n*3)) 68)).alloc (.cells #[.slice (some ⟨W.heap.size+1,0,none⟩) n n] 23):=⟨_,rfl⟩;rw[<- hw1] at B1 O1 T1 hz1 ⊢;have z1:=Nat.le_of_eq hz1;have z1':=Nat.le_of_eq hz1.symm;have HB1:=zh B1;have HO1:=zh O1;have HT1:=zh T1;clear hw1 B1 O1 T1 hz1;refine range_lawE (rfl:_=Value.func (.func gf) #[] lb) HEG.out (HIT.out w1 HT1.out) (fun _=>rfl) (by
   intro j hj;rcases hj with h | h
   ·exact Nat.lt_of_lt_of_le h (by omega)
   ·exact h.elim)
  (fun k N A=>w1.heap.size<=N/\OwnR A (W.heap.size+1) (repL n (addAll ds pl am (fun _=>0) (xs.take k)))/\Turned (fun i=>i=W.heap.size+1) w1 A) (fun _ _=>False)
  (fun _ _ _ _ h hN=>⟨Nat.le_trans h.1 hN,h.2⟩) ?stab (fun _ _ _ h _=>h) (fun h=>absurd trivial h) ⟨Nat.le_refl _,HO1.out,Turned.refl _ _⟩
  (fun x=>#[.slice rp n rc,.func (.func gf) #[] lb,.pointer (some ⟨W.heap.size,0,none⟩),undef,.slice none 0 0,.pointer (some ⟨W.heap.size+1+1,0,none⟩),undef,undef,undef,.slice rp n rc,.int .i64 n,.slice (some ⟨W.heap.size+1,0,none⟩) n n,.func (.func gf) #[] lb,(.int .i64 (pl x)),ratV (av x),undef,undef,undef,undef,undef,undef,undef,undef,undef,undef,undef,undef,undef,undef]) (fun x=>by simp[cEncs])
  (fun k N M x a' A=>∃B,a'={ tmps:=#[.slice rp n rc,.func (.func gf) #[] lb,.pointer (some ⟨W.heap.size,0,none⟩),undef,.slice none 0 0,.pointer (some ⟨W.heap.size+1+1,0,none⟩),(.int .i64 (pl x)),.pointer (some ⟨B,0,none⟩),undef,.slice rp n rc,.int .i64 n,.slice (some ⟨W.heap.size+1,0,none⟩) n n,.func (.func gf) #[] lb,(.int .i64 (pl x)),ratV (av x),undef,undef,undef,undef,undef,undef,undef,undef,undef,undef,undef,undef,undef,undef],defers:=[] }/\w1.heap.size<=N/\A.heap[B]? = some (.cells #[.bool (av x).neg,.string (av x).num,.string (av x).den] 68 (0,0))/\(M<=B/\w1.heap.size+2<=M)/\OwnR A (W.heap.size+1) (repL n (addAll ds pl am (fun _=>0) (xs.take k)))/\Turned (fun i=>i=W.heap.size+1) w1 A)
  ?stabA ?assign ?body ?done (fun _ _ h=>h.elim)
 case stab =>
  rintro k N A B ⟨h1,h2,h3⟩ hN ht;exact⟨h1,h2.turned ht (by rintro(h | h | h);exact h;omega;omega),h3.freshC ht (by rintro i (h | h | h);exact h.elim;omega;omega)⟩
 case stabA =>
  rintro k N M x a' A B ⟨B0,rfl,h1,h2,h3,h4,h5⟩ ht;exact⟨B0,rfl,h1,(ht.block _ (getElem?_lt h2) (by have:=h3.1;have:=h3.2;omega)).trans h2,h3,h4.turned ht (by omega),h5.freshC ht (by rintro i h;omega)⟩
 case assign =>
  rintro k N x A hxk ⟨h1,h2,h3⟩ hN hsz;have HQ:=zh (And.intro h1 (And.intro h2 h3));obtain⟨⟨un,ux,ud⟩,hu⟩ : ∃u,av x=u:=⟨_,rfl⟩;rw[hu];clear h1 h2 h3 hu
  gi_wp2
  have TA:=(zr A).alloc (.cells #[.bool un,.string ux,.string ud] 68);refine⟨⟨A.heap.size,rfl,HQ.out.1,World.alloc_heap_new _ _,⟨Nat.le_refl _,hsz⟩,HQ.out.2.1.turned TA id,HQ.out.2.2.freshC TA fun _ h=>h.elim⟩,TA.kept fun i hi=>⟨?_,id⟩⟩
  have hi':=hi;simp only[or_false] at hi';omega
 case body =>
  rintro k N M x a' A hxk ⟨B,rfl,h1,hB,⟨hMB,hM2⟩,hO,hT⟩ hNM hMA hsz hrec;obtain⟨p,hp1,hp2,hav,hbq⟩:=HX.out x (List.mem_of_getElem? hxk);have hAT:=zh (addAll_take (ds:=ds) (pl:=pl) (am:=am) (s:=fun _=>0) hxk)
  obtain⟨⟨un,ux,ud⟩,hu⟩ : ∃u,av x=u:=⟨_,rfl⟩;have hkx:k < xs.length:=(List.getElem?_eq_some_iff.1 hxk).1;have hSB:∀h,BytesQ (addAll ds pl am (fun _=>0) (xs.take k) h) (1+k*((ds.length+1)*(m+1))):=fun h=>by
   have:=addAll_bytes (ds:=ds) (pl:=pl) (am:=am) (m:=m) (xs.take k) (fun _=>0) 1 (fun j hj=>by
    obtain⟨q,-,-,-,h4⟩:=HX.out j (List.mem_of_mem_take hj);exact h4) (fun _=>bytes_zero 0) h
   rwa [List.length_take,Nat.min_eq_left (Nat.le_of_lt hkx)] at this
  rw[hp1] at hAT;rw[hp1,hu];rw[hu] at hB hav;have HAT:=zh (And.intro hAT.out (And.intro hav (And.intro hbq hSB)));obtain⟨s0,hs0⟩ : ∃s0,addAll ds pl am (fun _=>0) (xs.take k)=s0:=⟨_,rfl⟩
  rw[hs0] at hO HAT;have HLB:Hid (1+k*((ds.length+1)*(m+1))+(ds.length+1)*(m+1)+m+5<=100000000):=zh (by
   have h2:k*((ds.length+1)*(m+1))<=xs.length*((ds.length+1)*(m+1)):=Nat.mul_le_mul_right _ (Nat.le_of_lt hkx);have:=HB.out;omega)
  have HP2:=zh hp2;clear hp1 hu hav hbq hAT hSB hs0 hkx hp2;have b0:A.heap[W.heap.size]? = some (.cells #[.slice rp n rc] 22 (0,0)):=(hT.block _ (by omega) (by omega)).trans HB1.out.1
  have b2:A.heap[W.heap.size+1+1]? = some (.cells #[.slice (some ⟨W.heap.size+1,0,none⟩) n n] 23 (0,0)):=(hT.block _ (by omega) (by omega)).trans HB1.out.2.2
  have hrv:RivAt W.heap.size A rs rp rc:=(HR.out.turned HT1.out).same (hT.same (by omega) fun i hi h=>by omega)
  have d0:=cell_of_box b0
  gi_wp2_with fail
  refine⟨trivial,rfl,(CallsIn.inRound _ (callsIn_wide.2 (hDown_any rp n rc p _))).mono ?_⟩;rintro e w2 ⟨rfl,rfl⟩
  gi_wp2_with fail
  have T2:=((zr A).alloc (.cells #[.slice rp n rc] 22)).alloc (.cells #[.int .i64 p] 3);have n0:=new_first A (.cells #[.slice rp n rc] 22) (.cells #[.int .i64 p] 3);have n1:=new_second A (.cells #[.slice rp n rc] 22) (.cells #[.int .i64 p] 3);have hz2:((A.alloc (.cells #[.slice rp n rc] 22)).alloc (.cells #[.int .i64 p] 3)).heap.size=A.heap.size+2:=by simp
  obtain⟨A2,hA2⟩ : ∃A2,A2=(A.alloc (.cells #[.slice rp n rc] 22)).alloc (.cells #[.int .i64 p] 3):=⟨_,rfl⟩;rw[<- hA2] at T2 n0 n1 hz2 ⊢;have z2:=Nat.le_of_eq hz2;have z2':=Nat.le_of_eq hz2.symm;clear hA2 hz2 d0;obtain⟨rl,hrl⟩:=hrec;have hit2:=hDown_iter rs ds rp rc W.heap.size (A.heap.size+1) A.heap.size p A2 HDS.out (hrv.turned T2) HP2.out HD.out (cell_of_box n1) (free_of_box n1 0) (by rw[HRN.out];exact cell_of_box n0) (by omega) (by omega) (by omega) (by omega)
  have HT2:=zh T2;have HB2:=zh (keepB T2 b2);have HBB:=zh (keepB T2 hB);have HOO:=zh (hO.turned T2 id);have HTT:=zh hT;have hBlt:=getElem?_lt hB;clear T2 n0 n1 b0 b2 hrv hB hO hT;refine range_lawN (keepB HT2.out hrl) (rfl:_=Value.func (.func 104) #[] #[.pointer (some ⟨A.heap.size+1,0,none⟩),.pointer (some ⟨A.heap.size,0,none⟩)]) (enters_of Tryz.func104 (by kernel_rfl) rfl) hit2 (fun _=>rfl) (by
    intro j hj;rcases hj with(h | h) | h
    ·exact Nat.lt_of_lt_of_le h (by omega)
    ·rw[h];omega
    ·rw[h];omega)
   (fun i N' A'=>A2.heap.size<=N'/\OwnR A' (W.heap.size+1) (repL n (addWay s0 ((way ds p).take i) (am x)))/\Turned (fun j=>j=W.heap.size+1\/j=A.heap.size+1) A2 A') (fun _ _=>False)
   (fun _ _ _ _ h hN=>⟨Nat.le_trans h.1 hN,h.2⟩) ?stab2 (fun _ _ _ h _=>h) (fun h=>absurd (HEN.out p HP2.out) h) ⟨Nat.le_refl _,HOO.out,Turned.refl _ _⟩
   (fun(y:Nat)=>#[.slice rp n rc,.func (.func gf) #[] lb,.pointer (some ⟨W.heap.size,0,none⟩),undef,.slice none 0 0,.pointer (some ⟨W.heap.size+1+1,0,none⟩),.int .i64 p,.pointer (some ⟨B,0,none⟩),undef,.slice rp n rc,.int .i64 n,.slice (some ⟨W.heap.size+1,0,none⟩) n n,.func (.func gf) #[] lb,.int .i64 p,.agg #[.bool un,.string ux,.string ud],.slice rp n rc,.int .i64 p,.func (.func 104) #[] #[.pointer (some ⟨A.heap.size+1,0,none⟩),.pointer (some ⟨A.heap.size,0,none⟩)],.int .i64 y,undef,undef,undef,undef,undef,undef,undef,undef,undef,undef]) (fun y=>by simp[gEncs])
   (fun i N' M' y a' A'=>a'={ tmps:=#[.slice rp n rc,.func (.func gf) #[] lb,.pointer (some ⟨W.heap.size,0,none⟩),undef,.slice none 0 0,.pointer (some ⟨W.heap.size+1+1,0,none⟩),.int .i64 p,.pointer (some ⟨B,0,none⟩),.int .i64 y,.slice rp n rc,.int .i64 n,.slice (some ⟨W.heap.size+1,0,none⟩) n n,.func (.func gf) #[] lb,.int .i64 p,.agg #[.bool un,.string ux,.string ud],.slice rp n rc,.int .i64 p,.func (.func 104) #[] #[.pointer (some ⟨A.heap.size+1,0,none⟩),.pointer (some ⟨A.heap.size,0,none⟩)],.int .i64 y,undef,undef,undef,undef,undef,undef,undef,undef,undef,undef],defers:=[] }/\A2.heap.size<=N'/\OwnR A' (W.heap.size+1) (repL n (addWay s0 ((way ds p).take i) (am x)))/\Turned (fun j=>j=W.heap.size+1\/j=A.heap.size+1) A2 A')
   ?stabA2 ?assign2 ?body2 ?done2 (fun _ _ h=>h.elim)
  case stab2 =>
   rintro i N' A' A'' ⟨h1,h2,h3⟩ hN ht;refine⟨h1,h2.turned ht (by rintro(h | h);omega;omega),?_⟩
   exact h3.cut ht (by rintro j (h | h);exact .inl (.inr h);exact .inr (by omega))
  case stabA2 =>
   rintro i N' M' y a' A' A'' ⟨rfl,h1,h2,h3⟩ ht;exact⟨rfl,h1,h2.turned ht (by omega),h3.freshC ht (by rintro j h;omega)⟩
  case assign2 =>
   rintro i N' y A' hy ⟨h1,h2,h3⟩ hN hsz';have HQ:=zh (And.intro h1 (And.intro h2 h3));clear h1 h2 h3
   gi_wp2
   exact⟨⟨trivial,HQ.out⟩,Kept.refl _ _⟩
  case body2 =>
   rintro i N' M' y a' A' hy ⟨rfl,h1,h2,h3⟩ hNM' hMA' hsz' hrec';have hyn:y < n:=by
    have h4:=way_get hy;have h5:=step_bound HD.out HP2.out i;rw[<- h4] at h5;have:=HNL.out;omega
   have hil:i < (way ds p).length:=(List.getElem?_eq_some_iff.1 hy).1;obtain⟨s1,hs1⟩ : ∃s1,addWay s0 ((way ds p).take i) (am x)=s1:=⟨_,rfl⟩;have hT1:addWay s0 ((way ds p).take (i+1)) (am x)=addAt s1 y (am x):=by rw[addWay_take hy,hs1]
   have hsz1:SzR (repR (s1 y)) (1+k*((ds.length+1)*(m+1))+(ds.length+1)*(m+1)+m+1):=by
    have h4:=addWay_bytes HAT.out.2.2.1 ((way ds p).take i) s0 _ HAT.out.2.2.2 y;rw[hs1] at h4;refine(h4.mono ?_).szr;have h5:((way ds p).take i).length*(m+1)<=(ds.length+1)*(m+1):=Nat.mul_le_mul_right _ (Nat.le_trans (by rw[List.length_take];omega) (way_len ds p))
    omega
   have hsz2:SzR ⟨un,ux,ud⟩ (1+k*((ds.length+1)*(m+1))+(ds.length+1)*(m+1)+m+1):=by
    rw[HAT.out.2.1];exact(HAT.out.2.2.1.mono (by omega)).szr
   have HADD:=zh (fun W=>qAdd_any (repR (s1 y)) ⟨un,ux,ud⟩ _ W (by omega) (by have:=HLB.out;omega) hsz1 hsz2)
   rw[show qR (⟨un,ux,ud⟩ : Rv)=am x by rw[HAT.out.2.1,qR_repR],qR_repR] at HADD
   rw[hs1] at h2;have hcell:=h2.cells (repL_get s1 hyn);have HSET:=zh (fun(V:World) (hV:OwnR V (W.heap.size+1) (repL n s1))=>hV.set (i:=y) (by rw[repL_len];exact hyn) (repR (s1 y+am x)))
   rw[repL_set,<- hT1] at HSET;obtain⟨⟨vn,vx,vd⟩,hv⟩ : ∃v,repR (s1 y)=v:=⟨_,rfl⟩;obtain⟨⟨qn,qx,qd⟩,hq⟩ : ∃v,repR (s1 y+am x)=v:=⟨_,rfl⟩;rw[hv] at HADD hcell;rw[hq] at HADD HSET;obtain⟨k0,k1,k2⟩:=hcell;have b2:=(h3.block _ (by omega) (by omega)).trans HB2.out
   have bB:=(h3.block B (by omega) (by omega)).trans HBB.out
   have d2:=cell_of_box b2;obtain⟨u0,u1,u2,-,-,-⟩:=box3 bB;have hy0:(0:Int)<=y:=by omega
   have hy1:(y:Int) < n:=by omega
   have HS:=zh (And.intro h2 (And.intro h3 (And.intro h1 b2)));clear hyn hil hs1 hT1 hsz1 hsz2 hv hq b2 bB h1 h2 h3 hy hit2 hrl HIT HEG HX HB HR HDS HD HEN HRN HNL HLB HAT HP2 HTT HOO HBB HB2 HT2 HO1 HB1 HT1 hxk hrec'
   gi_wp2_with fail
   have hS0:(A'.drew).cell? ⟨W.heap.size+1+1,0,none⟩=some (.slice (some ⟨W.heap.size+1,0,none⟩) n n)/\(A'.drew).cell? ⟨B,0,none⟩=some (.bool un)/\(A'.drew).cell? ⟨B,1,none⟩=some (.string ux)/\(A'.drew).cell? ⟨B,2,none⟩=some (.string ud) :=
    ⟨cellT ((zr A').drew) id d2,cellT ((zr A').drew) id u0,cellT ((zr A').drew) id u1,cellT ((zr A').drew) id u2⟩
   have j0:=cellT ((zr A').drew) id k0;have j1:=cellT ((zr A').drew) id k1;have j2:=cellT ((zr A').drew) id k2;clear d2 k0 k1 k2 u0 u1 u2;refine wpIn_region_round (S:=fun V=>V.cell? ⟨W.heap.size+1+1,0,none⟩=some (.slice (some ⟨W.heap.size+1,0,none⟩) n n)/\V.cell? ⟨B,0,none⟩=some (.bool un)/\V.cell? ⟨B,1,none⟩=some (.string ux)/\V.cell? ⟨B,2,none⟩=some (.string ud)) (by kernel_rfl) (by kernel_rfl) ?_
   refine zt 0 (.slice (some ⟨W.heap.size+1,0,none⟩) n n) rfl (Or.inl ⟨by rfl,fun V hV=>?_⟩) hS0 ?_
   ·obtain⟨e0,e1,e2,e3⟩:=hV;go_simp
   refine zt 1 (.int .i64 y) rfl (Or.inl ⟨by rfl,fun V hV=>?_⟩) hS0 ?_
   ·obtain⟨e0,e1,e2,e3⟩:=hV;go_simp
   refine zt 2 (.slice (some ⟨W.heap.size+1,0,none⟩) n n) rfl (Or.inl ⟨by rfl,fun V hV=>?_⟩) hS0 ?_
   ·obtain⟨e0,e1,e2,e3⟩:=hV;go_simp
   refine zt 3 (.int .i64 y) rfl (Or.inl ⟨by rfl,fun V hV=>?_⟩) hS0 ?_
   ·obtain⟨e0,e1,e2,e3⟩:=hV;go_simp
   refine zt 4 (.pointer (some ⟨W.heap.size+1,y*3,none⟩)) rfl (Or.inl ⟨by rfl,fun V hV=>?_⟩) hS0 ?_
   ·obtain⟨e0,e1,e2,e3⟩:=hV;go_simp
   refine zt 6 (.agg #[.bool un,.string ux,.string ud]) rfl (Or.inl ⟨by rfl,fun V hV=>?_⟩) hS0 ?_
   ·obtain⟨e0,e1,e2,e3⟩:=hV;go_simp
   simp only[Act.put,zz3];refine wpAnyH_ready (rs:=[5]) (by kernel_rfl) (by simp) ?_
   refine .cons (o:=_) rfl (fun K hK=>?_) .nil
   go_simp;refine hK.out _ _ hS0 (fun _=>?_)
   clear hK j0 j1 j2;refine wpAnyH_ready (rs:=[7]) (by kernel_rfl) (by simp) ?_
   refine .cons (o:=_) rfl (fun K hK=>?_) .nil
   go_simp;refine(HADD.out _).mono ?_;rintro e w4 ⟨rfl,t4⟩;have hS1:w4.cell? ⟨W.heap.size+1+1,0,none⟩=some (.slice (some ⟨W.heap.size+1,0,none⟩) n n)/\w4.cell? ⟨B,0,none⟩=some (.bool un)/\w4.cell? ⟨B,1,none⟩=some (.string ux)/\w4.cell? ⟨B,2,none⟩=some (.string ud):=⟨cellT t4 id hS0.1,cellT t4 id hS0.2.1,cellT t4 id hS0.2.2.1,cellT t4 id hS0.2.2.2⟩;have t5:=((zr A').drew).trans t4;have O4:=HS.out.1.turned t5 id;refine hK.out _ _ hS1 (fun _=>?_)
   clear hK hS0 t4 HADD;obtain⟨o4,o5,o6⟩:=O4.cells (repL_get (g:=y) s1 (by omega))
   have o1:=O4.free (y*3);have o2:=O4.free (y*3+1);have o3:=O4.free (y*3+2);have HO4:=zh (And.intro O4 t5);clear O4 t5;refine zt 8 (.pointer (some ⟨W.heap.size+1,y*3,none⟩)) rfl (Or.inl ⟨by rfl,fun V hV=>?_⟩) hS1 ?_
   ·obtain⟨e0,e1,e2,e3⟩:=hV;go_simp
   simp only[Act.put,zz3];refine wpAnyH_ready (rs:=[9]) (by kernel_rfl) (by simp) ?_
   refine .cons (o:=_) rfl (fun K hK=>?_) .nil
   go_simp;have hst:=HSET.out w4 HO4.out.1;have hS2:(((w4.setCell ⟨W.heap.size+1,y*3,none⟩ (.bool qn)).setCell ⟨W.heap.size+1,y*3+1,none⟩ (.string qx)).setCell ⟨W.heap.size+1,y*3+2,none⟩ (.string qd)).cell? ⟨W.heap.size+1+1,0,none⟩=some (.slice (some ⟨W.heap.size+1,0,none⟩) n n)/\(((w4.setCell ⟨W.heap.size+1,y*3,none⟩ (.bool qn)).setCell ⟨W.heap.size+1,y*3+1,none⟩ (.string qx)).setCell ⟨W.heap.size+1,y*3+2,none⟩ (.string qd)).cell? ⟨B,0,none⟩=some (.bool un)/\(((w4.setCell ⟨W.heap.size+1,y*3,none⟩ (.bool qn)).setCell ⟨W.heap.size+1,y*3+1,none⟩ (.string qx)).setCell ⟨W.heap.size+1,y*3+2,none⟩ (.string qd)).cell? ⟨B,1,none⟩=some (.string ux)/\(((w4.setCell ⟨W.heap.size+1,y*3,none⟩ (.bool qn)).setCell ⟨W.heap.size+1,y*3+1,none⟩ (.string qx)).setCell ⟨W.heap.size+1,y*3+2,none⟩ (.string qd)).cell? ⟨B,2,none⟩=some (.string ud) :=
    ⟨cellT hst.2 (by omega) hS1.1,cellT hst.2 (by omega) hS1.2.1,cellT hst.2 (by omega) hS1.2.2.1,cellT hst.2 (by omega) hS1.2.2.2⟩
   refine hK.out _ _ hS2 (fun _=>?_)
   refine wpAnyH_done (by kernel_rfl) ?_ _
   have ht9:=(HO4.out.2.mono (C':=fun j=>j=W.heap.size+1) fun _ h=>h.elim).trans hst.2
   have ht10:=HS.out.2.1.cut ht9 (fun j h=>Or.inl (Or.inl h))
   have hN2:=HS.out.2.2.1;refine⟨ht9.kept fun j hj=>?_,ht10.size,hst.1,ht10⟩
   show j < A'.heap.size/\¬j=W.heap.size+1;have hj':(((j < W.heap.size\/j=A.heap.size)\/j=A.heap.size+1)\/(N'<=j/\j < M'))\/j=A2.heap.size:=hj;clear hj hst hS1 hS2 ht9 ht10;omega
  case done2 =>
   rintro A' ⟨h1,h2,h3⟩ hsz';rw[List.take_length] at h2;have HF:Hid (OwnR A' (W.heap.size+1) (repL n (addAll ds pl am (fun _=>0) (xs.take (k+1))))/\Turned (fun i=>i=W.heap.size+1) w1 A'):=zh ⟨by rw[HAT.out.1];exact h2,HTT.out.cut ((HT2.out.mono fun _ h=>h.elim).cut (C:=fun j=>j=W.heap.size+1\/j=A.heap.size+1) h3 (fun j h=>.inl h)) (by rintro j (h | h);exact .inl h;exact .inr (by omega))⟩
   have HKP:Hid (Kept (fun i=>((i < W.heap.size\/False)\/(N<=i/\i < M))\/i=w1.heap.size\/i=w1.heap.size+1) A A'):=zh (((HT2.out.mono fun _ h=>h.elim).cut (C:=fun j=>j=W.heap.size+1\/j=A.heap.size+1) h3 (fun j h=>.inl h)).kept fun i hi=>by
    show i < A.heap.size/\¬(i=W.heap.size+1\/i=A.heap.size+1);have hi':((i < W.heap.size\/False)\/(N<=i/\i < M))\/i=w1.heap.size\/i=w1.heap.size+1:=hi;simp only[or_false] at hi';clear hi;omega)
   have hsz9:=h3.size;clear h2 h3
   gi_wp2_with fail
   refine⟨?_,?_,HF.out.1,HF.out.2⟩
   ·have:=HKP.out;simpa using this
   ·omega
 case done =>
  rintro A ⟨h1,h2,h3⟩ hD hsz;rw[List.take_length] at h2;have HF:=zh (And.intro h2 h3);have b2:A.heap[W.heap.size+1+1]? = some (.cells #[.slice (some ⟨W.heap.size+1,0,none⟩) n n] 23 (0,0)):=(h3.block _ (by omega) (by omega)).trans HB1.out.2.2
  have d2:=cell_of_box b2;have HDD:=zh hD;clear h2 h3 hD
  gi_wp2_with fail
  refine⟨by simp,.inl ⟨_,_,rfl,run_takeDeferred HDD.out,?_⟩⟩
  refine⟨_,results_tmp rfl _ _ _,W.heap.size+1,rfl,by omega,?_,?_⟩
  ·exact HF.out.1.turned ((Turned.refl (fun k=>k=w1.heap.size) A).putObj rfl _) (by omega)
  ·exact(HT1.out.fresh HF.out.2 (by rintro i h;omega)).fresh ((Turned.refl (fun k=>k=w1.heap.size) A).putObj rfl _) (by rintro i h;omega)
attribute [local go_sem ↓] run_eql_rat' run_neq_rat'
theorem reachesE_zero(n:Nat):∀(l:List Rc) (g:Nat),reachesE n g l=0->∀(i:Nat) (x:Rc),l[i]? = some x->reachBad n (g+i) x=0
 | [],g,_,i,x,h=>by simp at h
 | y::l,g,h,i,x,hi=>by
  rw[reachesE] at h;split at h
  ·rename_i h0
   cases i with
   | zero=>simp at hi;subst hi;exact h0
   | succ i =>
    have:=reachesE_zero n l (g+1) h i x (by simpa using hi)
    rwa [show g+1+i=g+(i+1) by omega] at this
  ·rename_i h0
   exact absurd h h0
structure RivOK (ds:List Int):Prop where
 len:ds.length<=40
 bd:∀x∈ds,-1<=x/\x < ds.length
 ends:∀p:Nat,p < ds.length->stepN ds ds.length p < 0
theorem rivE_zero{rs:List Rc} (h:rivE rs=0):RivOK (rs.map (·.down)):=by
 unfold rivE at h;split at h
 ·cases h
 rename_i h40
 split at h
 ·rename_i h1;exact absurd h h1
 rename_i h1
 rw[Classical.not_not] at h1;split at h
 ·rename_i h2
  refine⟨by rw[List.length_map];omega,fun x hx=>?_,fun p hp=>?_⟩
  ·obtain⟨y,hy,rfl⟩:=List.mem_map.1 hx;obtain⟨i,hi⟩:=List.mem_iff_getElem?.1 hy;have h3:=reachesE_zero _ _ _ h1 i y hi;rw[List.length_map];unfold reachBad at h3;split at h3
   ·cases h3
   ·omega
  ·unfold endsB at h2;exact of_decide_eq_true ((List.all_eq_true.1 h2) p (List.mem_range.2 hp))
 ·cases h
theorem RivOK.next{ds:List Int} (h:RivOK ds):∀p:Nat,p < ds.length->stepN ds (ds.length+1) p < 0:=fun p hp=>by
 have h1:=h.ends p hp;rw[step_last];unfold downOf;rw[if_pos h1];exact h1
theorem RivOK.lt{ds:List Int} (h:RivOK ds):∀x∈ds,x < ds.length:=fun x hx=>(h.bd x hx).2
theorem claimsE_zero{n:Nat} : ∀{l:List Cl},claimsE n l=0->∀c∈l,badC n c=0
 | [],_,c,h=>by cases h
 | y::l,h,c,hc=>by
  rw[claimsE] at h;split at h
  ·rename_i h0
   rcases List.mem_cons.1 hc with rfl | hc
   ·exact h0
   ·exact claimsE_zero h c hc
  ·rename_i h0;exact absurd h h0
structure SupOK (rs:List Rc) (us:List Rv) (cs:List Cl):Prop where
 riv:RivOK (rs.map (·.down))
 len:us.length=rs.length
 nat:∀u∈us,natR u=true
 many:cs.length<=200
 cl:∀c∈cs,0<=c.place/\c.place < rs.length/\0<=c.rank/\c.rank<=100/\natR c.amt=true
theorem supE_zero{rs:List Rc} {us:List Rv} {cs:List Cl} (h:supE rs us cs=0):SupOK rs us cs:=by
 unfold supE at h;split at h
 ·rename_i h1;exact absurd h h1
 rename_i h1
 rw[Classical.not_not] at h1;split at h
 ·cases h
 rename_i h2
 split at h
 ·cases h
 rename_i h3
 have hl:us.length=rs.length:=by
  by_cases e:us.length=rs.length
  ·exact e
  ·exact absurd (Or.inl e) h2
 refine⟨rivE_zero h1,hl,fun u hu=>?_,by omega,fun c hc=>?_⟩
 ·cases hn:natR u with
  | true=>rfl
  | false=>exact absurd (Or.inr (List.any_eq_true.2 ⟨u,hu,by rw[hn];rfl⟩)) h2
 ·have:=claimsE_zero h c hc;unfold badC at this;split at this
  ·cases this
  rename_i h4
  split at this
  ·cases this
  rename_i h5
  exact⟨by omega,by omega,by omega,by omega,by simpa using h5⟩
theorem supE_nil{rs:List Rc} {us:List Rv} {cs:List Cl} (h:supE rs us cs=0):supE rs us []=0:=by
 unfold supE at h ⊢;split at h
 ·rename_i h1;exact absurd h h1
 rename_i h1
 rw[if_neg h1];split at h
 ·cases h
 rename_i h2
 rw[if_neg h2,if_neg (by simp)]
 rfl
def passF (ds:List Int) (us:List Rv):Nat->Rat:=addAll ds (fun k=>(k:Int)) (fun k=>qR (us.getD k zeroR)) (fun _=>0) (List.range us.length)
theorem natR_valid{u:Rv} (h:natR u=true):validR u/\u.neg=false:=by
 unfold natR at h;simp at h;exact h
theorem hPassing_any(rs:List Rc) (us:List Rv) (rp gp:Option Addr) (rc gc m:Nat) (W:World) (hr:RivAt W.heap.size W rs rp rc) (hg:At W.heap.size W 3 ratCells us gp gc) (hok:supE rs us []=0) (hm:m<=1000) (su:∀u∈us,SzR u m) :
  Calls Tryz.prog 54 #[.agg #[.slice rp rs.length rc,.slice gp us.length gc]] W fun e w'=>∃arr,e=.returned (.tuple #[.slice (some ⟨arr,0,none⟩) rs.length rs.length,.int .i64 0])/\W.heap.size<=arr/\OwnR w' arr (repL rs.length (passF (rs.map (·.down)) us))/\Turned (fun _=>False) W w':=by
 have hS:=supE_zero hok;have T0:=(zr W).alloc (.cells #[.slice rp rs.length rc,.slice gp us.length gc] 65);have B0:=World.alloc_heap_new W (.cells #[.slice rp rs.length rc,.slice gp us.length gc] 65);have HC:=zh (hCheck_any rs us [] rp gp none rc gc 0 _ ((hr.turned T0).mono T0.size) ((hg.turned T0).mono T0.size) (At.nil _ _ _ _) (fun u hu=>(su u hu).mono (by omega)) (fun c hc=>by cases hc))
 rw[hok] at HC;have hdl:(rs.map (·.down)).length=rs.length:=List.length_map ..;have hn40:rs.length<=40:=by have:=hS.riv.len;rwa [hdl] at this
 have hmul:((rs.map (·.down)).length+1)*(m+1+1)<=41*1002:=Nat.mul_le_mul (by rw[hdl];omega) (by omega)
 have hmul2:us.length*(((rs.map (·.down)).length+1)*(m+1+1))<=40*(41*1002):=Nat.mul_le_mul (by rw[hS.len];exact hn40) hmul
 have HSM:∀(V:World) (c1:Nat),Turned (fun _=>False) W V->V.cell? ⟨c1,0,none⟩=some (.slice gp us.length gc)->c1 < V.heap.size ->
   Calls Tryz.prog 60 #[.slice rp rs.length rc,.func (.func 125) #[] #[.pointer (some ⟨c1,0,none⟩)]] V fun e w'=>∃arr,e=.returned (.slice (some ⟨arr,0,none⟩) rs.length rs.length)/\V.heap.size<=arr/\OwnR w' arr (repL rs.length (passF (rs.map (·.down)) us))/\Turned (fun _=>False) V w':=fun V c1 hV hc hlt=>by
  refine summed_any rs (rs.map (·.down)) rp rc 125 (m+1) #[.pointer (some ⟨c1,0,none⟩)] (List.range us.length) (fun k=>(k:Int)) (fun k=>us.getD k zeroR) (fun k=>qR (us.getD k zeroR)) V ((hr.turned hV).mono hV.size)
   (fun w hw=>allRat_iter us gp gc V.heap.size c1 w (((hg.turned hV).turned hw).mono hV.size) (cellT hw id hc) hlt hw.size) (enters_of Tryz.func125 (by kernel_rfl) rfl) rfl hS.riv.lt (fun k hk=>?_) (by rw[List.length_range];omega) hS.riv.len hS.riv.next
  have hk2:k < us.length:=List.mem_range.1 hk;have hmem:us.getD k zeroR∈us:=by
   rw[List.getD_eq_getElem?_getD,List.getElem?_eq_getElem hk2];exact List.getElem_mem hk2
  refine⟨k,rfl,by rw[hdl,<- hS.len];exact hk2,(repR_qR (natR_valid (hS.nat _ hmem)).1).symm,qR_bytes (su _ hmem).1 (su _ hmem).2⟩
 have HSM2:=zh HSM;have hul:=hS.len;obtain⟨arrv,hav⟩ : ∃x,repL rs.length (passF (rs.map (·.down)) us)=x:=⟨_,rfl⟩;rw[hav] at HSM2 ⊢;rw[hul] at HSM2 HC T0 B0 ⊢;obtain⟨n,hn⟩ : ∃n,rs.length=n:=⟨_,rfl⟩;rw[hn] at HSM2 HC T0 B0 ⊢;have HB0:=zh B0;have HT0:=zh T0;clear hr hg hok su hS hdl hn40 hmul hmul2 HSM hul hav hn B0 T0 hm;go_enter Tryz.func54,Tryz.ntmps54;go_wp2_with fail;refine HC.out.mono ?_;rintro e w1 ⟨rfl,t1⟩;have hb1:=keepB t1 HB0.out;have HT1:=zh (HT0.out.trans t1);clear t1 HC HB0 HT0;go_wp2_with fail;have HD:=zh (HT1.out.drew);have HK0:Hid (w1.drew.cell? ⟨W.heap.size,0,none⟩=some (.slice rp n rc)/\w1.drew.cell? ⟨W.heap.size,1,none⟩=some (.slice gp n gc)):=zh (by
  have:=keepB ((zr w1).drew) hb1;constructor <;> simp[World.cell?,this])
 clear hb1
 go_region_held3 (fun V=>V.cell? ⟨W.heap.size,0,none⟩=some (.slice rp n rc)/\V.cell? ⟨W.heap.size,1,none⟩=some (.slice gp n gc))
  (first | exact HK2.out | exact HK1.out | exact HK0.out | go_keep)
  (first
   | (have hq:=HK1;clear hq;go_at_call 60;refine(HSM2.out w2 w1.drew.heap.size HT2.out HC2.out.1 HC2.out.2).mono ?_;rintro e w3 ⟨arr,rfl,h1,h2,t3⟩;have HK2:Hid _:=zh (And.intro (cellT t3 id HK1.out.1) (cellT t3 id HK1.out.2));have HR3:=zh (And.intro (Nat.le_trans HT2.out.size h1) (And.intro h2 (HT2.out.trans t3)));clear h1 h2 t3)
   | (go_at_call 96;refine(slAll_any gp n gc w1.drew).mono ?_;rintro e w2 ⟨rfl,t2,hc2,hs2⟩;have HK1:Hid _:=zh (And.intro (cellT t2 id HK0.out.1) (cellT t2 id HK0.out.2));have HT2:=zh (HD.out.trans t2);have HC2:Hid (w2.cell? ⟨w1.drew.heap.size,0,none⟩=some (.slice gp n gc)/\w1.drew.heap.size < w2.heap.size):=zh ⟨hc2,by rw[hs2];exact Nat.lt_succ_self _⟩;clear t2 hc2 hs2))
 go_wp2_with fail
 go_ret2
 exact⟨arr,rfl,HR3.out⟩
theorem wayN_mem(d:List Int):∀(f:Nat) (p:Int) (g:Nat),g∈wayN d f p->∃j,stepN d j p=g
 | 0,p,g,h=>by rw[wayN] at h;cases h
 | f+1,p,g,h=>by
  rw[wayN] at h;split at h
  ·cases h
  ·rename_i hp
   rcases List.mem_cons.1 h with h | h
   ·exact⟨0,by show p=(g:Int);rw[h];omega⟩
   ·obtain⟨j,hj⟩:=wayN_mem d f _ g h;exact⟨j+1,by rw[stepN];exact hj⟩
theorem wayN_of(d:List Int):∀(f:Nat) (p:Int) (j g:Nat),j < f->stepN d j p=g->g∈wayN d f p
 | 0,p,j,g,h,_=>by omega
 | f+1,p,0,g,_,h=>by
  have h1:p=(g:Int):=h;rw[wayN,if_neg (by omega),h1,Int.toNat_natCast]
  exact List.mem_cons_self ..
 | f+1,p,j+1,g,hj,h=>by
  rw[wayN];split
  ·rename_i hp
   have:=step_neg d (j+1) p hp;omega
  ·exact List.mem_cons_of_mem _ (wayN_of d f _ j g (by omega) (by rw[stepN] at h;exact h))
theorem way_on{d:List Int} (h:EndsN d) {g p:Nat} : g∈way d p↔onN d g p=true:=by
 rw[on_iff h];constructor
 ·exact wayN_mem d _ _ _
 ·rintro⟨j,hj⟩;rcases Nat.lt_or_ge j (d.length+1) with h3 | h3
  ·exact wayN_of d _ _ j g h3 hj
  ·exfalso;obtain⟨c,rfl⟩ : ∃c,j=d.length+1+c:=⟨j-(d.length+1),by omega⟩
   rw[step_add] at hj;have:=step_neg d c _ (h p);omega
theorem step_loop{d:List Int} {p:Int} {c:Nat} (hc:stepN d (c+1) p=p) (hp:0<=p):∀i:Nat,stepN d ((c+1)*i) p=p
 | 0=>rfl
 | i+1=>by rw[Nat.mul_succ,step_add,step_loop hc hp i,hc]
theorem not_back{d:List Int} (h:EndsN d) {g c:Nat} (hc:stepN d (c+1) g=g):False:=by
 have h1:=step_loop hc (Int.natCast_nonneg g) (d.length+1);have h2:=h g;rw[show(c+1)*(d.length+1)=d.length+1+c*(d.length+1) by rw[Nat.add_mul];omega,step_add] at h1
 have:=step_neg d (c*(d.length+1)) _ h2;omega
theorem wayN_nodup{d:List Int} (h:EndsN d):∀(f:Nat) (p:Int),(wayN d f p).Nodup
 | 0,p=>by rw[wayN];exact List.nodup_nil
 | f+1,p=>by
  rw[wayN];split
  ·exact List.nodup_nil
  ·rename_i hp
   refine List.nodup_cons.2 ⟨fun hm=>?_,wayN_nodup h f _⟩
   obtain⟨j,hj⟩:=wayN_mem d f _ _ hm;have hpp:p=(p.toNat:Int):=by omega
   refine not_back h (g:=p.toNat) (c:=j) ?_;rw[stepN,<- hpp,hj,<- hpp]
theorem addWay_at:∀(l:List Nat) (s:Nat->Rat) (a:Rat) (g:Nat),l.Nodup->addWay s l a g=if g∈l then s g+a else s g
 | [],s,a,g,_=>by rw[if_neg (by simp)];rfl
 | x::l,s,a,g,h=>by
  have h1:=addWay_at l (addAt s x a) a g (List.nodup_cons.1 h).2;show addWay (addAt s x a) l a g=_;rw[h1];unfold addAt;by_cases hg:g=x
  ·subst hg;rw[if_neg (List.nodup_cons.1 h).1,if_pos rfl,if_pos (List.mem_cons_self ..)]
  ·rw[if_neg hg];by_cases hm:g∈l
   ·rw[if_pos hm,if_pos (List.mem_cons_of_mem _ hm)]
   ·rw[if_neg hm,if_neg (by simp[hg,hm])]
def openL (op:Nat->Bool):Nat->List Nat
 | 0=>[]
 | c+1=>openL op c++(if op c then[c] else[])
theorem openL_filter(op:Nat->Bool):∀c,openL op c=(List.range c).filter op
 | 0=>rfl
 | c+1=>by
  rw[openL,openL_filter op c,List.range_succ,List.filter_append];cases h:op c <;> simp[h]
theorem addAll_append(ds:List Int) (pl:Nat->Int) (am s:Nat->Rat) (xs ys:List Nat):addAll ds pl am s (xs++ys)=addAll ds pl am (addAll ds pl am s xs) ys:=by
 unfold addAll;rw[List.foldl_append]
theorem addAll_sum{d:List Int} (h:EndsN d) (place:Nat->Nat) (op:Nat->Bool) (am:Nat->Rat) (g:Nat):∀c:Nat,
  addAll d (fun k=>(place k:Int)) am (fun _=>0) ((List.range c).filter op) g=sumQ c (onlyQ (fun k=>onN d g (place k) && op k) am)
 | 0=>rfl
 | c+1=>by
  have ih:=addAll_sum h place op am g c;rw[<- openL_filter] at ih ⊢;rw[openL,addAll_append,sumQ,<- ih];cases ho:op c
  ·show addAll d _ am (fun _=>0) (openL op c) g=_+onlyQ _ am c
   rw[show onlyQ (fun k=>onN d g (place k) && op k) am c=0 by unfold onlyQ;simp[ho]]
   grind
  ·show addWay (addAll d _ am (fun _=>0) (openL op c)) (way d (place c)) (am c) g=_+onlyQ _ am c
   rw[addWay_at _ _ _ _ (show(way d (place c)).Nodup from wayN_nodup h _ _)];cases hg:onN d g (place c)
   ·rw[if_neg (fun hm=>by rw[(way_on h).1 hm] at hg;cases hg),show onlyQ (fun k=>onN d g (place k) && op k) am c=0 by unfold onlyQ;simp[hg]]
    grind
   ·rw[if_pos ((way_on h).2 hg),show onlyQ (fun k=>onN d g (place k) && op k) am c=am c by unfold onlyQ;simp[ho,hg]]
theorem RivOK.endsN{ds:List Int} (h:RivOK ds):EndsN ds:=ends_of h.ends
theorem pass_sum{ds:List Int} (h:EndsN ds) (us:List Rv) (g:Nat):passF ds us g=passQ (onN ds) us.length (fun p=>qR (us.getD p zeroR)) g:=by
 have h1:=addAll_sum h (fun k=>k) (fun _=>true) (fun k=>qR (us.getD k zeroR)) g us.length
 have h2:(List.range us.length).filter (fun _=>true)=List.range us.length:=List.filter_eq_self.2 fun _ _=>rfl
 rw[h2] at h1;unfold passF passQ;rw[h1];refine sumQ_congr fun k _=>?_
 show cond (onN ds g k && true) _ 0=cond (onN ds g k) _ 0;rw[Bool.and_true]
theorem want_sum{ds:List Int} (h:EndsN ds) (place:Nat->Nat) (am:Nat->Rat) (op:Nat->Bool) (m g:Nat) :
  addAll ds (fun k=>(place k:Int)) am (fun _=>0) ((List.range m).filter op) g=wantQ (onN ds) m place am op g:=addAll_sum h place op am g m
theorem pigeon:∀(n:Nat) (l:List Nat),l.Nodup->(∀x∈l,x < n)->l.length<=n
 | 0,[],_,_=>Nat.le_refl _
 | 0,x::_,_,h=>absurd (h x (by simp)) (by omega)
 | n+1,l,hn,h=>by
  by_cases hm:n∈l
  ·have h1:=pigeon n (l.erase n) (hn.erase n) fun x hx=>by
    have h2:=(List.Nodup.mem_erase_iff hn).1 hx;have:=h x h2.2;have:=h2.1;omega
   have h2:=List.length_erase_of_mem hm;omega
  ·have h1:=pigeon n l hn fun x hx=>by
    have:=h x hx;have:x≠n:=fun e=>hm (e▸hx)
    omega
   omega
theorem ends_more{d:List Int} (hd:∀x∈d,x < d.length) {g:Nat} (hg:g < d.length) (h:stepN d (d.length+1) g < 0):stepN d d.length g < 0:=by
 apply Classical.byContradiction;intro h0;have hin:∀j,j<=d.length->0<=stepN d j g/\stepN d j g < d.length:=fun j hj=>by
  refine⟨?_,step_lt hd j g hg⟩;apply Classical.byContradiction;intro h1;apply h0;obtain⟨c,hc⟩ : ∃c,d.length=j+c:=⟨d.length-j,by omega⟩
  have:=step_neg d c (stepN d j g) (by omega)
  rw[<- step_add] at this;rw[show stepN d d.length g=stepN d (j+c) g by rw[<- hc]]
  exact this
 have hp:=pigeon d.length ((List.range (d.length+1)).map fun j=>(stepN d j g).toNat) (by
  refine List.pairwise_map.2 (List.pairwise_lt_range.imp_of_mem fun {i j} hi hj hij he=>?_)
  rw[List.mem_range] at hi hj;have e1:=hin i (by omega)
  have e2:=hin j (by omega)
  have e3:stepN d i g=stepN d j g:=by omega
  obtain⟨c,rfl⟩ : ∃c,j=i+(c+1):=⟨j-i-1,by omega⟩
  rw[step_add] at e3;have e4:=step_loop (d:=d) (p:=stepN d i g) (c:=c) e3.symm e1.1 (d.length+1);rw[<- step_add] at e4;obtain⟨k,hk⟩ : ∃k,i+(c+1)*(d.length+1)=d.length+1+k:=⟨i+c*(d.length+1),by rw[Nat.add_mul];omega⟩
  rw[hk,step_add] at e4;have:=step_neg d k _ h;omega) fun x hx=>by
   obtain⟨j,hj,rfl⟩:=List.mem_map.1 hx;rw[List.mem_range] at hj;have:=hin j (by omega)
   show(stepN d j g).toNat < d.length;omega
 rw[List.length_map,List.length_range] at hp;omega
theorem box2c{w:World} {b t:Nat} {x y:Value} (h:w.heap[b]? = some (.cells #[x,y] t (0,0))):w.cell? ⟨b,0,none⟩=some x/\w.cell? ⟨b,1,none⟩=some y:=by simp[World.cell?,h]
theorem xCheck_any(rs:List Rc) (pp:Option Addr) (cc:Nat) (W:World) (hriv:RivAt W.heap.size W rs pp cc) :
  Calls Tryz.prog 90 #[.slice pp rs.length cc] W fun e w'=>e=.returned (.int .i64 (rivE rs))/\Turned (fun _=>False) W w':=by
 have hmx:(rs.length:Int)<=9223372036854775807:=by have:=hriv.at_.len;unfold maxLen at this;omega
 obtain⟨n,hn⟩ : ∃n,rs.length=n:=⟨_,rfl⟩;have HN:=zh hn;have HE:Hid (rivE rs=if 40 < n then 2 else if reachesE n 0 rs≠0 then reachesE n 0 rs else if endsB (rs.map (·.down))=true then 0 else 4):=zh (by unfold rivE;rw[hn])
 have HR:=zh hriv;rw[hn] at hmx ⊢;clear hn hriv;by_cases h40:40 < n
 ·have HE2:Hid (rivE rs=2):=zh (by rw[HE.out,if_pos h40])
  have h40':(40:Int) < n:=by omega
  clear HE;go_enter Tryz.func90,Tryz.ntmps90;go_wp2_with fail;go_ret;rw[HE2.out];exact⟨rfl,Turned.refl _ _⟩
 have h40':¬(40:Int) < n:=by omega
 replace HE:=zh (HE.out.trans (if_neg h40));go_enter Tryz.func90,Tryz.ntmps90;go_wp2_with fail
 go_loopw [3] (fun i wr=>∃k:Nat,k<=n/\i=(.int .i64 k)/\Hid (Turned (fun _=>False) W wr/\∀i x,i < k->rs[i]? = some x->reachBad n i x=0)) (fun i _=>n-(intOf i).toNat)
 case atStart=>exact⟨0,Nat.zero_le _,rfl,zh ⟨Turned.refl _ _,fun i x h=>by omega⟩⟩
 case round =>
  obtain⟨k,hk,rfl,HH⟩:=hrel;by_cases hlt:k < n
  ·have hx:rs[k]? = some (rs[k]'(by rw[HN.out];exact hlt)):=List.getElem?_eq_getElem _
   obtain⟨⟨dn,ws,wp,wc⟩,hxe⟩ : ∃x,rs[k]'(by rw[HN.out];exact hlt)=x:=⟨_,rfl⟩
   rw[hxe] at hx;have HX:=zh hx;have hrw:=HR.out.turned HH.out.1;have HWS:=zh (hrw.ws _ (List.mem_of_getElem? hx));obtain⟨b,a,rfl,hbN,e0,e1⟩:=hrw.at_.reaches hx;have hwl:(ws.length:Int)<=9223372036854775807:=by have:=HWS.out.len;unfold maxLen at this;simp at this;omega
   have TA:=(zr wr).alloc (.cells #[.int .i64 dn,.slice wp ws.length wc] 123);have HTA:=zh (HH.out.1.trans TA);have HK:=zh (xKCheck_any ws wp wc W.heap.size _ (HWS.out.turned TA));have HRB:Hid (reachesE n 0 rs=if reachBad n k ⟨dn,ws,wp,wc⟩=0 then reachesE n (k+1) (rs.drop (k+1)) else reachBad n k ⟨dn,ws,wp,wc⟩):=zh (by
    have h1:=reachesE_drop n rs k 0 fun i x hi hxi=>by rw[Nat.zero_add];exact HH.out.2 i x hi hxi
    rw[Nat.zero_add] at h1;have h2:rs.drop k=⟨dn,ws,wp,wc⟩::rs.drop (k+1):=by
     have hlt2:k < rs.length:=by rw[HN.out];exact hlt
     rw[List.drop_eq_getElem_cons hlt2,hxe]
    rw[h1,h2,reachesE])
   have HNX:Hid (reachBad n k ⟨dn,ws,wp,wc⟩=0->∀i x,i < k+1->rs[i]? = some x->reachBad n i x=0):=zh fun h0 i x hi hxi=>by
    rcases Nat.lt_or_ge i k with h1 | h1
    ·exact HH.out.2 i x h1 hxi
    ·obtain rfl:i=k:=by omega
     rw[HX.out] at hxi;cases hxi
     exact h0
   have bad:∀v,reachBad n k ⟨dn,ws,wp,wc⟩=v->v≠0->rivE rs=v:=fun v h1 h2=>by
    rw[HE.out,if_pos (by rw[HRB.out,if_neg (by rw[h1];exact h2),h1];exact h2),HRB.out,if_neg (by rw[h1];exact h2),h1]
   have HBAD:=zh bad;have hk0:(0:Int)<=k:=by omega
   have hk1:(k:Int) < n:=by omega
   clear hx hxe hrw TA bad;by_cases g1:dn < -1\/(n:Int)<=dn
   ·have HV:Hid (rivE rs=3):=zh (HBAD.out 3 (by unfold reachBad;rw[if_pos g1]) (by decide))
    rcases g1 with g1 | g1
    all_goals
     (try have g2:¬dn < -1:=by omega)
     go_wp2_with fail;go_ret;rw[HV.out];exact⟨rfl,HTA.out⟩
   have g2:¬dn < -1:=by omega
   have g3:¬(n:Int)<=dn:=by omega
   have HRI:=zh (reachBad_in (n:=n) (g:=k) (x:=⟨dn,ws,wp,wc⟩) g2 g3);clear g1;have HRF:=zh (HBAD.out 1);by_cases c1:dn=(k:Int)
   ·have HV:Hid (rivE rs=1):=zh (HRF.out (by rw[HRI.out,if_pos (.inl c1)]) (by decide))
    subst c1;go_wp2_with fail;go_ret;rw[HV.out];exact⟨rfl,HTA.out⟩
   have c1':(dn == (k:Int))=false:=by simpa using c1
   obtain⟨ke,hke⟩ : ∃ke,kerE ws=ke:=⟨_,rfl⟩;rw[hke] at HK;have HG:Hid (reachBad n k ⟨dn,ws,wp,wc⟩=0->∀A,Turned (fun _=>False) (wr.alloc (.cells #[.int .i64 dn,.slice wp ws.length wc] 123)) A->(Turned (fun _=>False) W A/\∀i x,i < k+1->rs[i]? = some x->reachBad n i x=0)):=zh fun h0 A hA=>⟨HTA.out.trans hA,HNX.out h0⟩
   have nA:=zh (World.alloc_heap_new wr (.cells #[.int .i64 dn,.slice wp ws.length wc] 123));by_cases c2:dn < 0
   ·have c2':¬(0:Int)<=dn:=by omega
    have c2'':(dn == -1)=true:=by simp;omega
    by_cases c3:0 < ws.length
    ·have HV:Hid (rivE rs=1):=zh (HRF.out (by rw[HRI.out,if_pos (.inr (.inl ⟨c2,c3⟩))]) (by decide))
     have c3':(0:Int) < ws.length:=by omega
     clear hke;go_wp2_with fail;go_ret;rw[HV.out];exact⟨rfl,HTA.out⟩
    ·have c3':¬(0:Int) < ws.length:=by omega
     have HG2:=zh (HG.out (by rw[HRI.out,if_neg];rintro(h | h | h);exact c1 h;exact c3 h.2;exact c2' h.1))
     clear hke;go_wp2_with fail;refine HK.out.mono ?_;rintro e w2 ⟨rfl,t2⟩;have HT2:=zh (HG2.out _ t2);obtain⟨y0,y1⟩:=box2c (keepB t2 nA.out);clear t2;go_wp2_with fail
     go_roundw
     case rel=>exact⟨k+1,by omega,by go_num,HT2⟩
     case measure=>simp[intOf];omega
   ·have c2':(0:Int)<=dn:=by omega
    have c2'':(dn == -1)=false:=by simp;omega
    by_cases c3:ke=0
    ·have HG2:=zh (HG.out (by rw[HRI.out,if_neg];rintro(h | h | h);exact c1 h;exact c2 h.1;exact h.2 (by show kerE ws=0;rw[hke];exact c3)))
     subst c3;clear hke;go_wp2_with fail;refine HK.out.mono ?_;rintro e w2 ⟨rfl,t2⟩;have HT2:=zh (HG2.out _ t2);obtain⟨y0,y1⟩:=box2c (keepB t2 nA.out);clear t2;go_wp2_with fail
     go_roundw
     case rel=>exact⟨k+1,by omega,by go_num,HT2⟩
     case measure=>simp[intOf];omega
    ·have HV:Hid (rivE rs=1):=zh (HRF.out (by rw[HRI.out,if_pos (.inr (.inr ⟨c2',by show kerE ws≠0;rw[hke];exact c3⟩))]) (by decide))
     have c3':(ke == 0)=false:=by simpa using c3
     clear hke c3;go_wp2_with fail;refine HK.out.mono ?_;rintro e w2 ⟨rfl,t2⟩;have HT2:=zh (HTA.out.trans t2);obtain⟨y0,y1⟩:=box2c (keepB t2 nA.out);clear t2;go_wp2_with fail;go_ret;rw[HV.out];exact⟨rfl,HT2.out⟩
  ·obtain rfl:k=n:=by omega
   obtain⟨ds,hds⟩ : ∃ds,rs.map (·.down)=ds:=⟨_,rfl⟩;have hz:reachesE k 0 rs=0:=by
    have h1:=reachesE_drop k rs k 0 fun i x hi hxi=>by rw[Nat.zero_add];exact HH.out.2 i x hi hxi
    rw[h1,List.drop_of_length_le (by rw[HN.out];exact Nat.le_refl _)]
    rfl
   replace HE:=zh (HE.out.trans (if_neg (by rw[hz];exact fun h=>h rfl)))
   rw[hds] at HE;have HD:Hid (∀(i:Nat) (u:Rc),rs[i]? = some u->downOf ds i=u.down):=zh (fun i u hu=>by
    rw[<- hds];unfold downOf;rw[if_neg (by omega),Int.toNat_natCast,List.getD_eq_getElem?_getD,List.getElem?_map,hu]
    rfl)
   have HDL:Hid (ds.length=k):=zh (by rw[<- hds,List.length_map,HN.out])
   have HBD:Hid (∀x∈ds,-1<=x/\x < k):=zh (fun x hx=>by
    rw[<- hds] at hx;obtain⟨y,hy,rfl⟩:=List.mem_map.1 hx;obtain⟨i,hi⟩:=List.mem_iff_getElem?.1 hy;have h3:=HH.out.2 i y (by have:=(List.getElem?_eq_some_iff.1 hi).1;rw[HN.out] at this;exact this) hi
    unfold reachBad at h3;split at h3
    ·cases h3
    ·omega)
   have HTH:=zh HH.out.1;have HRA:=zh (HR.out.turned HH.out.1).at_;have HDS:=zh hds;clear hz hds hlt hk HH;go_wp2_with fail
   go_loopw [6] (fun i wq=>∃g:Nat,g<=k/\i=(.int .i64 g)/\wq=wr/\Hid (∀j,j < g->stepN ds (k+1) (j:Nat) < 0)) (fun i _=>k-(intOf i).toNat)
   case atStart=>exact⟨0,Nat.zero_le _,rfl,rfl,zh fun j h=>by omega⟩
   case round =>
    obtain⟨g,hg,rfl,rfl,HJ⟩:=hrel;by_cases hlt:g < k
    ·have hg0:(0:Int)<=g:=by omega
     go_wp2_with fail
     go_loopw [7,8] (fun p s wq=>∃(z:Int) (j:Nat),j<=k+1/\s=(.int .i64 j)/\p=(.int .i64 z) /\ -1<=z/\z < k/\Hid (z=stepN ds j (g:Nat))/\wq=wr) (fun p s _=>(k+2:Nat)-(intOf s).toNat)
     case atStart=>exact⟨g,0,by omega,rfl,rfl,by omega,by omega,zh rfl,rfl⟩
     case round =>
      obtain⟨z,j,hj,rfl,rfl,hz1,hz2,HZ,rfl⟩:=hrel;have out:∀(h:z < 0\/j=k+1),(z < 0->Hid (∀i,i < g+1->stepN ds (k+1) (i:Nat) < 0))/\(0<=z->Hid (rivE rs=4)):=fun h=>by
       refine⟨fun h0=>zh fun i hi=>?_,fun h0=>zh ?_⟩
       ·rcases Nat.lt_or_ge i g with h1 | h1
        ·exact HJ.out i h1
        ·obtain rfl:i=g:=by omega
         obtain⟨c,hc⟩ : ∃c,k+1=j+c:=⟨k+1-j,by omega⟩
         rw[hc,step_add,<- HZ.out];exact step_neg _ _ _ h0
       ·rw[HE.out,if_neg];intro he;have hjk:j=k+1:=by omega
        unfold endsB at he;rw[HDL.out] at he;have h1:=of_decide_eq_true ((List.all_eq_true.1 he) g (List.mem_range.2 hlt));have h2:=step_neg ds 1 _ h1;rw[<- step_add,<- hjk,<- HZ.out] at h2;omega
      have HOUT:=zh out;clear out;by_cases hj2:j<=k
      ·have hj3:(j:Int)<=k:=by omega
       by_cases hz0:0<=z
       ·obtain⟨q,rfl⟩ : ∃q:Nat,z=q:=⟨z.toNat,by omega⟩
        obtain⟨u,hu⟩ : ∃u,rs[q]? = some u:=⟨_,List.getElem?_eq_getElem (by rw[HN.out];omega)⟩
        obtain⟨b,a,rfl,-,e0,-⟩:=HRA.out.reaches hu;have HDN:=zh (HD.out q u hu);have hud:=HBD.out u.down (by rw[<- HDS.out];exact List.mem_map.2 ⟨u,List.mem_of_getElem? hu,rfl⟩)
        obtain⟨d1,d2⟩:=hud;have HZ2:Hid (u.down=stepN ds (j+1) (g:Nat)):=zh (by rw[step_last,<- HZ.out,HDN.out])
        clear hu;go_wp2_with fail
        go_roundw
        case rel=>exact⟨u.down,j+1,by omega,by go_num,rfl,d1,d2,HZ2,trivial⟩
        case measure=>simp[intOf];omega
       ·have HQ:=(HOUT.out (.inl (by omega))).1 (by omega)
        have hz3:z < 0:=by omega
        go_wp2_with fail
        go_roundw
        case rel=>exact⟨g+1,by omega,by go_num,trivial,HQ⟩
        case measure=>simp[intOf];omega
      ·have hj3:¬(j:Int)<=k:=by omega
       by_cases hz0:0<=z
       ·have HQ:=(HOUT.out (.inr (by omega))).2 hz0
        go_wp2_with fail;go_ret;rw[HQ.out];exact⟨rfl,HTH.out⟩
       ·have HQ:=(HOUT.out (.inl (by omega))).1 (by omega)
        go_wp2_with fail
        go_roundw
        case rel=>exact⟨g+1,by omega,by go_num,trivial,HQ⟩
        case measure=>simp[intOf];omega
    ·obtain rfl:g=k:=by omega
     have HV:Hid (rivE rs=0):=zh (by
      rw[HE.out,if_pos];unfold endsB;rw[HDL.out,List.all_eq_true];intro i hi;have hi2:=List.mem_range.1 hi;have:=ends_more (d:=ds) (g:=i) (fun x hx=>by rw[HDL.out];exact(HBD.out x hx).2) (by rw[HDL.out];exact hi2) (by rw[HDL.out];exact HJ.out i hi2)
      rw[HDL.out] at this;exact decide_eq_true this)
     go_wp2_with fail;go_ret;rw[HV.out];exact⟨rfl,HTH.out⟩
end Go.Proofs.YtanhhdndgkhcfaaGreatDoor
