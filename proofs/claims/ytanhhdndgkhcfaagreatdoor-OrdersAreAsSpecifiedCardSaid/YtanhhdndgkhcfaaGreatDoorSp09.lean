/- Part 9 of the proof of lawSpec.card: OrdWalkA, OrdIter, OrdWalkB, OrdWalkC, OrdWalkD. Conditions: those of each theorem. -/
import Derived.Deep.LoopGhost
import Derived.BigQuiet
import Derived.Shelf.Abstract
import Derived.Test.YtanhhdndgkhcfaaGreatDoorSp01
import Derived.Test.YtanhhdndgkhcfaaGreatDoorSp08
set_option maxRecDepth 100000
set_option maxHeartbeats 8000000
namespace Go.Proofs.YtanhhdndgkhcfaaGreatDoor
open Go Go.Proofs Go.RowKit
attribute [local go_sem] Oper.semAt_some
theorem total_any(ws:List Int) (p:Option Addr) (c N:Nat) (W:World) (h:At N W 1 intCells ws p c) (hr:∀x∈ws,0<=x/\x<=999999999999999) (hl:ws.length<=400) :
  Calls Tryz.prog 140 #[.agg #[.slice p ws.length c]] W fun e w'=>e=.returned (.int .i64 ws.sum)/\Turned (fun _=>False) W w':=by
 have HW:=zh (h.turned ((zr W).alloc (.cells #[.slice p ws.length c] 121)));have HS:=zh (fun k=>sum_bound (ws:=ws.take k) fun x hx=>hr x (List.mem_of_mem_take hx))
 have HR:=zh hr;obtain⟨n,hn⟩ : ∃n,ws.length=n:=⟨_,rfl⟩;have HN:=zh hn;rw[hn] at hl HW ⊢;clear h hr hn;go_enter Tryz.func140,Tryz.ntmps140;go_wp2_with fail
 go_loop [3,9] (fun s i=>∃k:Nat,k<=n/\i=(.int .i64 k)/\s=(.int .i64 ((ws.take k).sum))) (fun _ i=>n-(intOf i).toNat)
 case atStart=>exact⟨0,Nat.zero_le _,rfl,rfl⟩
 case round =>
  obtain⟨k,hk,rfl,rfl⟩:=hrel;by_cases hlt:k < n
  ·have hx:ws[k]? = some (ws[k]'(by rw[HN.out];exact hlt)):=List.getElem?_eq_getElem _
   obtain⟨x,hxe⟩ : ∃x,ws[k]'(by rw[HN.out];exact hlt)=x:=⟨_,rfl⟩
   rw[hxe] at hx;obtain⟨b,a,rfl,-,hc⟩:=HW.out.ints hx;have HE:=zh (sum_take_succ hx);have hb:=(HS.out k);have hb2:=HR.out x (List.mem_of_getElem? hx);have hlen:(ws.take k).length<=400:=by rw[List.length_take];omega
   have b0:=hb.1;have b1:(ws.take k).sum<=400000000000000000:=by have:=hb.2;omega
   have b2:=hb2.1;have b3:=hb2.2;clear hxe hx hb hb2 hlen;obtain⟨t,ht⟩ : ∃t,(ws.take k).sum=t:=⟨_,rfl⟩;rw[ht] at b0 b1 HE ⊢;clear ht
   go_wp2
   go_round
   case rel=>exact⟨k+1,by omega,by go_num,by rw[HE.out]⟩
   case measure=>simp[intOf];omega
  ·obtain rfl:k=n:=by omega
   have HT:Hid (ws.take k=ws):=zh (List.take_of_length_le (by rw[HN.out];omega))
   go_wp2
   go_ret;rw[HT.out];exact⟨rfl,(Turned.refl _ W).alloc _⟩
theorem kCheck_any(ws:List Int) (p:Option Addr) (c N:Nat) (W:World) (h:At N W 1 intCells ws p c) :
  Calls Tryz.prog 117 #[.agg #[.slice p ws.length c]] W fun e w'=>e=.returned (.int .i64 (kerE ws))/\Turned (fun _=>False) W w':=by
 have HW:=zh (h.turned ((zr W).alloc (.cells #[.slice p ws.length c] 121)));have HC:=zh (fun(hr:∀x∈ws,0<=x/\x<=999999999999999) (hl:ws.length<=400)=>total_any ws p c N _ HW.out hr hl)
 have hmx:(ws.length:Int)<=9223372036854775807:=by have:=h.len;unfold maxLen at this;omega
 obtain⟨n,hn⟩ : ∃n,ws.length=n:=⟨_,rfl⟩;have HN:=zh hn;have HKE:Hid (kerE ws=if n < 1\/400 < n then 2 else if ws.any badW=true then 3 else if 999999999999999 < ws.sum then 3 else if ws.sum=0 then 1 else 0):=zh (by unfold kerE;rw[hn])
 rw[hn] at HW HC hmx ⊢;clear h hn;by_cases h1:n < 1
 ·have HK2:Hid (kerE ws=2):=zh (by rw[HKE.out,if_pos (.inl h1)])
  clear HKE HC;go_enter Tryz.func117,Tryz.ntmps117;go_wp2_with fail;go_ret;rw[HK2.out];exact⟨rfl,(Turned.refl _ W).alloc _⟩
 by_cases h2:400 < n
 ·have HK2:Hid (kerE ws=2):=zh (by rw[HKE.out,if_pos (.inr h2)])
  clear HKE HC;go_enter Tryz.func117,Tryz.ntmps117;go_wp2_with fail;go_ret;rw[HK2.out];exact⟨rfl,(Turned.refl _ W).alloc _⟩
 replace HKE:=zh (HKE.out.trans (if_neg (by omega)))
 have h1':¬(n:Int) < 1:=by omega
 have h2':¬(400:Int) < (n:Int):=by omega
 go_enter Tryz.func117,Tryz.ntmps117;go_wp2_with fail
 go_loop [19] (fun i=>∃k:Nat,k<=n/\i=(.int .i64 k)/\Hid ((ws.take k).any badW=false)) (fun i=>n-(intOf i).toNat)
 case atStart=>exact⟨0,Nat.zero_le _,rfl,zh rfl⟩
 case round =>
  obtain⟨k,hk,rfl,HA⟩:=hrel;by_cases hlt:k < n
  ·have hx:ws[k]? = some (ws[k]'(by rw[HN.out];exact hlt)):=List.getElem?_eq_getElem _
   obtain⟨x,hxe⟩ : ∃x,ws[k]'(by rw[HN.out];exact hlt)=x:=⟨_,rfl⟩
   rw[hxe] at hx;obtain⟨b,a,rfl,-,hc⟩:=HW.out.ints hx;have HX:=zh hx;clear hxe hx;by_cases g1:x < 0
   ·have HK2:Hid (kerE ws=3):=zh (by rw[HKE.out,if_pos (any_of HX.out (by unfold badW;simp[g1]))])
    go_wp2
    go_ret;rw[HK2.out];exact⟨rfl,(Turned.refl _ W).alloc _⟩
   by_cases g2:999999999999999 < x
   ·have HK2:Hid (kerE ws=3):=zh (by rw[HKE.out,if_pos (any_of HX.out (by unfold badW;simp[g2]))])
    go_wp2
    go_ret;rw[HK2.out];exact⟨rfl,(Turned.refl _ W).alloc _⟩
   have HB:Hid ((ws.take (k+1)).any badW=false):=zh (by rw[any_take_succ HX.out HA.out];unfold badW;simp[g1,g2])
   go_wp2
   go_round
   case rel=>exact⟨k+1,by omega,by go_num,HB⟩
   case measure=>simp[intOf];omega
  ·obtain rfl:k=n:=by omega
   have hA2:ws.any badW=false:=by
    have:=HA.out;rwa [List.take_of_length_le (by rw[HN.out];omega)] at this
   have hall:∀x∈ws,0<=x/\x<=999999999999999:=fun x hx=>by
    have:=List.any_eq_false.1 hA2 x hx;unfold badW at this;simp at this;omega
   have HT:=zh (HC.out hall (by omega))
   replace HKE:=zh (HKE.out.trans (if_neg (by rw[hA2];simp)))
   clear hA2 HA HC hlt;have hsb:=sum_bound hall;rw[HN.out] at hsb;clear hall;obtain⟨t,ht⟩ : ∃t,ws.sum=t:=⟨_,rfl⟩;rw[ht] at hsb HKE HT;clear ht;by_cases g1:999999999999999 < t
   ·have HK2:Hid (kerE ws=3):=zh (by rw[HKE.out,if_pos g1])
    go_wp2_with (go_at_call 140;refine HT.out.mono ?_;rintro e w1 ⟨rfl,t1⟩);go_ret;rw[HK2.out];exact⟨rfl,((Turned.refl _ W).alloc _).trans t1⟩
   replace HKE:=zh (HKE.out.trans (if_neg g1));by_cases g2:t=0
   ·have HK2:Hid (kerE ws=1):=zh (by rw[HKE.out,if_pos g2])
    subst g2;go_wp2_with (go_at_call 140;refine HT.out.mono ?_;rintro e w1 ⟨rfl,t1⟩);go_ret;rw[HK2.out];exact⟨rfl,((Turned.refl _ W).alloc _).trans t1⟩
   have HK2:Hid (kerE ws=0):=zh (by rw[HKE.out,if_neg g2])
   have g3:(t == 0)=false:=by simpa using g2
   clear g2;go_wp2_with (go_at_call 140;refine HT.out.mono ?_;rintro e w1 ⟨rfl,t1⟩);go_ret;rw[HK2.out];exact⟨rfl,((Turned.refl _ W).alloc _).trans t1⟩
def gEncs (g:Nat):Array Value:=#[.int .i64 g]
structure HeadD (ds:List Int) (p:Nat) (c1 n:Nat) (pp:Option Addr) (cc N:Nat) (rs:List Rc) (J:Nat->Nat->World->Prop) (wr:World) (k:Nat) (q:Int):Prop where
 j:J k wr.heap.size wr
 q0:q=stepN ds k p
 kle:k<=(way ds p).length
 h1:wr.cell? ⟨c1,0,none⟩=some (.slice pp n cc)
 riv:RivAt N wr rs pp cc
theorem down_get{rs:List Rc} {ds:List Int} (hds:ds=rs.map (·.down)) {q:Int} (h0:0<=q) (h1:q < ds.length):∃r,rs[q.toNat]? = some r/\ds[q.toNat]? = some r.down:=by
 subst hds;rw[List.length_map] at h1;have hq:q.toNat < rs.length:=by omega
 exact⟨rs[q.toNat],List.getElem?_eq_getElem hq,by rw[List.getElem?_map,List.getElem?_eq_getElem hq];rfl⟩
theorem eDown_iter(rs:List Rc) (ds:List Int) (pp:Option Addr) (cc N c0 c1:Nat) (p:Nat) (w:World) (hds:ds=rs.map (·.down)) (hriv:RivAt N w rs pp cc) (hp:p < ds.length) (hd:∀x∈ds,x < ds.length)
  (h0:w.cell? ⟨c0,0,none⟩=some (.int .i64 p)) (h1:w.cell? ⟨c1,0,none⟩=some (.slice pp rs.length cc)) :
  IterE (stepN ds (ds.length+1) p < 0) Tryz.prog 141 #[.pointer (some ⟨c0,0,none⟩),.pointer (some ⟨c1,0,none⟩)] gEncs (way ds p) (fun _=>False) (fun k=>k < N\/k=c0\/k=c1) w:=by
 intro r J Jx W hsz hkeep hJm hJ hJx hY hends hJ0;refine callsIn_of_wp Tryz.func141 rfl trivial ?_ rfl;simp only[Tryz.ntmps141,List.size_toArray,List.length_cons,List.length_nil,Nat.reduceAdd,Nat.reduceSub,Array.replicate_succ,Array.replicate_zero,List.push_toArray,List.append_toArray,List.nil_append,List.cons_append];have hS:Same N w W:=fun k hk=>hkeep k (.inl (.inl hk))
 have hE0:W.cell? ⟨c0,0,none⟩=w.cell? ⟨c0,0,none⟩:=World.cell?_of_block (w:=w) (a:=⟨c0,0,none⟩) (hkeep c0 (.inl (.inr (.inl rfl))));have hE1:W.cell? ⟨c1,0,none⟩=w.cell? ⟨c1,0,none⟩:=World.cell?_of_block (w:=w) (a:=⟨c1,0,none⟩) (hkeep c1 (.inl (.inr (.inr rfl))));have HH:Hid (HeadD ds p c1 rs.length pp cc N rs J W 0 p):=zh ⟨hJ0,rfl,Nat.zero_le _,hE1.trans h1,hriv.same hS⟩;have g0:W.cell? ⟨c0,0,none⟩=some (.int .i64 p):=hE0.trans h0;have HJ2:Hid (∀k A B,J k A.heap.size A->Turned (fun _=>False) A B->J k B.heap.size B):=zh fun k A B h ht=>hJm _ _ _ _ (hJ k _ A B h (Nat.le_refl _) ht) ht.size
 have HJ3:Hid (∀k A B,J k A.heap.size A->Turned (fun _=>False) A B->J k A.heap.size B):=zh fun k A B h ht=>hJ k _ A B h (Nat.le_refl _) ht
 have HY:=zh hY;have HE:=zh hends;have HB:=zh (step_bound hd hp);have HP:=zh hds;have hnl:rs.length=ds.length:=by rw[hds,List.length_map]
 obtain⟨n,hn⟩ : ∃n,ds.length=n:=⟨_,rfl⟩;have HNL:=zh (hnl.trans hn);have HN:=zh hn;clear hkeep h0 h1 hS hJ0 hJm hJ hJx hY hends hd hp hds hriv hE0 hE1 hnl hn hsz
 gi_wp2
 gi_loopw [4] (fun g wr=>∃m k q,m=n+2-k/\g=(.int .i64 q)/\Hid (HeadD ds p c1 rs.length pp cc N rs J wr k q)) (fun g wr=>leastOf fun m=>∃k q,m=n+2-k/\g=(.int .i64 q)/\Hid (HeadD ds p c1 rs.length pp cc N rs J wr k q))
 case atStart=>exact⟨n+2,0,p,rfl,rfl,HH⟩
 case round =>
  obtain⟨hm,-⟩:=leastOf_spec hrel;obtain⟨m,hme⟩ : ∃m,leastOf (fun m=>∃k q,m=n+2-k/\u4=(.int .i64 q)/\Hid (HeadD ds p c1 rs.length pp cc N rs J wr k q))=m:=⟨_,rfl⟩
  rw[hme] at hm;have HM:=zh hme;clear hme hrel HH g0;obtain⟨k,q,hmk,rfl,HH⟩:=hm;have HMK:=zh hmk;clear hmk;by_cases hq:q < 0
  ·have hk:k=(way ds p).length:=way_end (by have:=HH.out.kle;have:=way_len ds p;omega) HH.out.kle (by rw[<- HH.out.q0];exact hq)
   have HF:Hid (J (way ds p).length wr.heap.size wr):=zh (by rw[<- hk];exact HH.out.j)
   have hq2:¬0<=q:=by omega
   clear hk hq
   gi_wp2
   go_end0
   exact⟨⟨_,rfl⟩,.inl HF.out⟩
  ·have hq2:0<=q:=by omega
   have hkl:=HH.out.kle;have hqn:¬stepN ds k p < 0:=by rw[<- HH.out.q0];exact hq
   have hkn:k<=n:=by
    have h1:=way_len ds p;rw[HN.out] at h1;rcases Nat.lt_or_ge n k with h2 | h2
    ·exfalso;obtain rfl:k=n+1:=by omega
     rw[<- HN.out] at hqn;have h3:=way_full hqn;exact HE.out (by omega) _ _ (by rw[h3,HN.out];exact HH.out.j)
    ·exact h2
   obtain⟨hx,hlt⟩:=way_next (p:=p) (by rw[HN.out];exact hkn) hqn
   rw[<- HH.out.q0] at hx;have hqb:=HB.out k;rw[<- HH.out.q0] at hqb;obtain⟨rr,hr1,hr2⟩:=down_get HP.out hq2 hqb;obtain⟨t,ht⟩ : ∃t:Nat,q=t:=⟨q.toNat,by omega⟩
   subst ht;rw[Int.toNat_natCast] at hx hr1 hr2;have HNX:=zh (step_next hqn (by rw[<- HH.out.q0,Int.toNat_natCast];exact hr2))
   obtain⟨fn,tmps,assign,body,hy,hR⟩:=HY.out k wr.heap.size t wr HH.out.j (Nat.le_refl _) hx;simp only[gEncs] at hy;have HR2:=zh hR;have HG:=zh (And.intro hr1 hlt);have HKN:=zh hkn;clear hqn hkl hx hlt hqb hr1 hr2 hR hq hkn
   gi_wp2
   refine⟨rfl,HR2.out.mono ?_⟩;rintro e W4 (⟨rfl,hj4,hk4⟩ | ⟨rfl,hjx4⟩)
   ·have hs4:Same N wr W4:=fun i hi=>hk4.block i (.inl (.inl (.inl hi)))
    have hc1:W4.cell? ⟨c1,0,none⟩=some (.slice pp rs.length cc):=(World.cell?_of_block (w:=wr) (a:=⟨c1,0,none⟩) (hk4.block c1 (.inl (.inl (.inr (.inr rfl)))))).trans HH.out.h1;obtain⟨b,a,rfl,-,hcd,-⟩:=(HH.out.riv.same hs4).at_.reaches HG.out.1;have HH2:Hid (HeadD ds p c1 rs.length (some ⟨b,a,none⟩) cc N rs J W4 (k+1) rr.down):=zh ⟨hj4,HNX.out.symm,HG.out.2,hc1,HH.out.riv.same hs4⟩;have ht0:(0:Int)<=(t:Int):=by omega
    have htn:(t:Int) < (rs.length:Int):=by
     have:=(List.getElem?_eq_some_iff.1 HG.out.1).1;omega
    clear hs4 hk4 hj4
    gi_wp2
    go_roundw
    case rel=>exact⟨_,k+1,_,rfl,rfl,HH2⟩
    case measure =>
     rw[HM.out,HMK.out];exact Nat.lt_of_le_of_lt ((leastOf_spec ⟨_,k+1,_,rfl,rfl,HH2⟩).2 _ ⟨k+1,_,rfl,rfl,HH2⟩) (by have:=HKN.out;omega)
   ·gi_wp2
    refine bodyPost_ret (results_none rfl _ _ _) rfl ?_;exact⟨⟨_,rfl⟩,.inr hjx4⟩
structure HeadR (ds:List Int) (p:Nat) (c0 c1 n:Nat) (pp:Option Addr) (cc N:Nat) (rs:List Rc) (J:Nat->Nat->World->Prop) (wr:World) (k:Nat) (q:Int):Prop where
 hd:HeadD ds p c1 n pp cc N rs J wr k q
 h0:wr.cell? ⟨c0,0,none⟩=some (.int .i64 q)
 f0:wr.frozen? ⟨c0,0,none⟩=false
theorem cell_size{W:World} {b o:Nat} {u:Value} (hc:W.cell? ⟨b,o,none⟩=some u):b < W.heap.size:=by
 rcases Nat.lt_or_ge b W.heap.size with h1 | h1
 ·exact h1
 ·simp[World.cell?,h1] at hc
theorem hDown_iter(rs:List Rc) (ds:List Int) (pp:Option Addr) (cc N c0 c1:Nat) (p:Nat) (w:World) (hds:ds=rs.map (·.down)) (hriv:RivAt N w rs pp cc) (hp:p < ds.length) (hd:∀x∈ds,x < ds.length)
  (h0:w.cell? ⟨c0,0,none⟩=some (.int .i64 p)) (hf0:w.frozen? ⟨c0,0,none⟩=false) (h1:w.cell? ⟨c1,0,none⟩=some (.slice pp rs.length cc)) (hc0:N<=c0) (hc1:c1≠c0) (hN:N<=w.heap.size) (hcz:c0 < w.heap.size) :
  IterE (stepN ds (ds.length+1) p < 0) Tryz.prog 104 #[.pointer (some ⟨c0,0,none⟩),.pointer (some ⟨c1,0,none⟩)] gEncs (way ds p) (fun k=>k=c0) (fun k=>k < N\/k=c1) w:=by
 intro r J Jx W hsz hkeep hJm hJ hJx hY hends hJ0;refine callsIn_of_wp Tryz.func104 rfl trivial ?_ rfl;simp only[Tryz.ntmps104,List.size_toArray,List.length_cons,List.length_nil,Nat.reduceAdd,Nat.reduceSub,Array.replicate_succ,Array.replicate_zero,List.push_toArray,List.append_toArray,List.nil_append,List.cons_append];have hS:Same N w W:=fun k hk=>hkeep k (.inl (.inl hk))
 have hE1:W.cell? ⟨c1,0,none⟩=w.cell? ⟨c1,0,none⟩:=World.cell?_of_block (w:=w) (a:=⟨c1,0,none⟩) (hkeep c1 (.inl (.inr rfl)));have hcell:∀A B:World,B.heap[c0]? = A.heap[c0]?->B.cell? ⟨c0,0,none⟩=A.cell? ⟨c0,0,none⟩/\B.frozen? ⟨c0,0,none⟩=A.frozen? ⟨c0,0,none⟩:=fun A B h=>⟨World.cell?_of_block (w:=A) (a:=⟨c0,0,none⟩) h,World.frozen?_of_block (w:=A) (a:=⟨c0,0,none⟩) h⟩
 have HCE:=zh hcell;have hk0:=hcell w W (hkeep c0 (.inr rfl));have HH:Hid (HeadR ds p c0 c1 rs.length pp cc N rs J W 0 p):=zh ⟨⟨hJ0,rfl,Nat.zero_le _,hE1.trans h1,hriv.same hS⟩,hk0.1.trans h0,hk0.2.trans hf0⟩;have HJ2:Hid (∀k A B,J k A.heap.size A->Turned (fun k=>k=c0) A B->J k B.heap.size B):=zh fun k A B h ht=>hJm _ _ _ _ (hJ k _ A B h (Nat.le_refl _) ht) ht.size
 have HY:=zh hY;have HE:=zh hends;have HB:=zh (step_bound hd hp);have HP:=zh hds;have HW1:=zh (And.intro hc1 (And.intro hc0 (And.intro hN (Nat.lt_of_lt_of_le hcz hsz))));have hnl:rs.length=ds.length:=by rw[hds,List.length_map]
 obtain⟨n,hn⟩ : ∃n,ds.length=n:=⟨_,rfl⟩;have HNL:=zh (hnl.trans hn);have HN:=zh hn;clear hcell hk0 hkeep h0 hf0 h1 hS hJ0 hJm hJ hJx hY hends hd hp hds hriv hE1 hc0 hc1 hN hnl hn hsz hcz
 gi_wp2
 gi_loopw [4] (fun _ wr=>∃m k q,m=n+2-k/\Hid (HeadR ds p c0 c1 rs.length pp cc N rs J wr k q)) (fun _ wr=>leastOf fun m=>∃k q,m=n+2-k/\Hid (HeadR ds p c0 c1 rs.length pp cc N rs J wr k q))
 case atStart=>exact⟨n+2,0,p,rfl,HH⟩
 case round =>
  obtain⟨hm,-⟩:=leastOf_spec hrel;obtain⟨m,hme⟩ : ∃m,leastOf (fun m=>∃k q,m=n+2-k/\Hid (HeadR ds p c0 c1 rs.length pp cc N rs J wr k q))=m:=⟨_,rfl⟩
  rw[hme] at hm;have HM:=zh hme;clear hme hrel HH;obtain⟨k,q,hmk,HR⟩:=hm;have HH:=zh HR.out.hd;have g0:=HR.out.h0;have gf:=HR.out.f0;have HMK:=zh hmk;clear hmk;by_cases hq:q < 0
  ·have hk:k=(way ds p).length:=way_end (by have:=HH.out.kle;have:=way_len ds p;omega) HH.out.kle (by rw[<- HH.out.q0];exact hq)
   have HF:Hid (J (way ds p).length wr.heap.size wr):=zh (by rw[<- hk];exact HH.out.j)
   have hq2:¬0<=q:=by omega
   clear hk hq
   gi_wp2
   go_end0
   exact⟨⟨_,rfl⟩,.inl HF.out⟩
  ·have hq2:0<=q:=by omega
   have hkl:=HH.out.kle;have hqn:¬stepN ds k p < 0:=by rw[<- HH.out.q0];exact hq
   have hkn:k<=n:=by
    have h1:=way_len ds p;rw[HN.out] at h1;rcases Nat.lt_or_ge n k with h2 | h2
    ·exfalso;obtain rfl:k=n+1:=by omega
     rw[<- HN.out] at hqn;have h3:=way_full hqn;exact HE.out (by omega) _ _ (by rw[h3,HN.out];exact HH.out.j)
    ·exact h2
   obtain⟨hx,hlt⟩:=way_next (p:=p) (by rw[HN.out];exact hkn) hqn
   rw[<- HH.out.q0] at hx;have hqb:=HB.out k;rw[<- HH.out.q0] at hqb;obtain⟨rr,hr1,hr2⟩:=down_get HP.out hq2 hqb;obtain⟨t,ht⟩ : ∃t:Nat,q=t:=⟨q.toNat,by omega⟩
   subst ht;rw[Int.toNat_natCast] at hx hr1 hr2;have HNX:=zh (step_next hqn (by rw[<- HH.out.q0,Int.toNat_natCast];exact hr2))
   obtain⟨fn,tmps,assign,body,hy,hR⟩:=HY.out k wr.heap.size t wr HH.out.j (Nat.le_refl _) hx;simp only[gEncs] at hy;have HR2:=zh hR;have HG:=zh (And.intro hr1 hlt);have HKN:=zh hkn;clear hqn hkl hx hlt hqb hr1 hr2 hR hq hkn
   gi_wp2
   refine⟨rfl,HR2.out.mono ?_⟩;rintro e W4 (⟨rfl,hj4,hk4⟩ | ⟨rfl,hjx4⟩)
   ·have hs4:Same N wr W4:=fun i hi=>hk4.block i (.inl (.inl (.inl hi)))
    have hc1:W4.cell? ⟨c1,0,none⟩=some (.slice pp rs.length cc):=(World.cell?_of_block (w:=wr) (a:=⟨c1,0,none⟩) (hk4.block c1 (.inl (.inl (.inr rfl))))).trans HH.out.h1;have hce:=HCE.out wr W4 (hk4.block c0 (.inl (.inr rfl)));have r0:W4.cell? ⟨c0,0,none⟩=some (.int .i64 t):=hce.1.trans g0;have rf:W4.frozen? ⟨c0,0,none⟩=false:=hce.2.trans gf;obtain⟨b,a,rfl,-,hcd,-⟩:=(HH.out.riv.same hs4).at_.reaches HG.out.1;have ht1:Turned (fun k=>k=c0) W4 (W4.setCell ⟨c0,0,none⟩ (.int .i64 rr.down)):=(Turned.refl (fun k=>k=c0) _).setCell (p:=⟨c0,0,none⟩) rfl _
    have hs5:Same N wr (W4.setCell ⟨c0,0,none⟩ (.int .i64 rr.down)):=hs4.trans (ht1.same (by have:=cell_size r0;have:=HW1.out.2.1;omega) fun k hk h=>by have:=HW1.out.2.1;omega)
    have HH2:Hid (HeadR ds p c0 c1 rs.length (some ⟨b,a,none⟩) cc N rs J (W4.setCell ⟨c0,0,none⟩ (.int .i64 rr.down)) (k+1) rr.down):=zh ⟨⟨HJ2.out _ _ _ hj4 ht1,HNX.out.symm,HG.out.2,cellT ht1 HW1.out.1 hc1,HH.out.riv.same hs5⟩,World.cell?_setCell_same' _ _ _ (by rw[r0];rfl),by rw[World.frozen?_setCell];exact rf⟩
    have ht0:(0:Int)<=(t:Int):=by omega
    have htn:(t:Int) < (rs.length:Int):=by
     have:=(List.getElem?_eq_some_iff.1 HG.out.1).1;omega
    clear hs4 hs5 hk4 hj4 hce ht1
    gi_wp2
    go_roundw
    case rel=>exact⟨_,k+1,_,rfl,HH2⟩
    case measure =>
     rw[HM.out,HMK.out];exact Nat.lt_of_le_of_lt ((leastOf_spec ⟨_,k+1,_,rfl,HH2⟩).2 _ ⟨k+1,_,rfl,HH2⟩) (by have:=HKN.out;omega)
   ·gi_wp2
    refine bodyPost_ret (results_none rfl _ _ _) rfl ?_;exact⟨⟨_,rfl⟩,.inr hjx4⟩
theorem eDown_any(q:Option Addr) (n c:Nat) (p:Int) (w:World):Calls Tryz.prog 118 #[.slice q n c,.int .i64 p] w fun e w' =>
  e=.returned (.func (.func 141) #[] #[.pointer (some ⟨w.heap.size+1,0,none⟩),.pointer (some ⟨w.heap.size,0,none⟩)])/\(w.alloc (.cells #[.slice q n c] 22)).alloc (.cells #[.int .i64 p] 3)=w':=by
 go_enter Tryz.func118,Tryz.ntmps118;go_wp2_with fail;go_ret;exact⟨rfl,rfl⟩
theorem hDown_any(q:Option Addr) (n c:Nat) (p:Int) (w:World):Calls Tryz.prog 66 #[.slice q n c,.int .i64 p] w fun e w' =>
  e=.returned (.func (.func 104) #[] #[.pointer (some ⟨w.heap.size+1,0,none⟩),.pointer (some ⟨w.heap.size,0,none⟩)])/\(w.alloc (.cells #[.slice q n c] 22)).alloc (.cells #[.int .i64 p] 3)=w':=by
 go_enter Tryz.func66,Tryz.ntmps66;go_wp2_with fail;go_ret;exact⟨rfl,rfl⟩
theorem hAt_any(q:Option Addr) (n c fI fN:Nat) (kI kN:Array Value) (w:World):Calls Tryz.prog 61 #[.slice q n c,.func (.func fI) #[] kI,.func (.func fN) #[] kN] w fun e w' =>
  e=.returned (.func (.func 101) #[] #[.pointer (some ⟨w.heap.size,0,none⟩),.pointer (some ⟨w.heap.size+1,0,none⟩),.pointer (some ⟨w.heap.size+1+1,0,none⟩)])/\Turned (fun _=>False) w w' /\
   w'.cell? ⟨w.heap.size,0,none⟩=some (.slice q n c)/\w'.cell? ⟨w.heap.size+1,0,none⟩=some (.func (.func fI) #[] kI)/\w'.cell? ⟨w.heap.size+1+1,0,none⟩=some (.func (.func fN) #[] kN)/\w'.heap.size=w.heap.size+3:=by
 go_enter Tryz.func61,Tryz.ntmps61;go_wp2_with fail;go_ret;exact⟨rfl,(((Turned.refl _ w).alloc _).alloc _).alloc _,by go_simp,by go_simp,by go_simp,by simp⟩
theorem slAll_any(q:Option Addr) (n c:Nat) (w:World):Calls Tryz.prog 96 #[.slice q n c] w fun e w' =>
  e=.returned (.func (.func 125) #[] #[.pointer (some ⟨w.heap.size,0,none⟩)])/\Turned (fun _=>False) w w'/\w'.cell? ⟨w.heap.size,0,none⟩=some (.slice q n c)/\w'.heap.size=w.heap.size+1:=by
 go_enter Tryz.func96,Tryz.ntmps96;go_wp2_with fail;go_ret;exact⟨rfl,(Turned.refl _ w).alloc _,by go_simp,by simp⟩
def reachBad (n:Nat) (g:Nat) (x:Rc):Int :=
 if x.down < -1\/(n:Int)<=x.down then 3 else if x.down=g\/(x.down < 0/\0 < x.ws.length)\/(0<=x.down/\kerE x.ws≠0) then 1 else 0
def reachesE (n:Nat):Nat->List Rc->Int
 | _,[]=>0
 | g,x::l=>if reachBad n g x=0 then reachesE n (g+1) l else reachBad n g x
def endsB (ds:List Int):Bool:=(List.range ds.length).all fun g=>decide (stepN ds ds.length (g:Int) < 0)
def rivE (l:List Rc):Int:=if 40 < l.length then 2 else if reachesE l.length 0 l≠0 then reachesE l.length 0 l else if endsB (l.map (·.down))=true then 0 else 4
theorem reachesE_drop(n:Nat):∀(l:List Rc) (k g:Nat),(∀i x,i < k->l[i]? = some x->reachBad n (g+i) x=0)->reachesE n g l=reachesE n (g+k) (l.drop k)
 | [],k,g,_=>by rw[List.drop_nil];rfl
 | x::l,0,g,_=>rfl
 | x::l,k+1,g,h=>by
  have h0:=h 0 x (by omega) rfl
  rw[Nat.add_zero] at h0;rw[reachesE,if_pos h0,List.drop_succ_cons,reachesE_drop n l k (g+1) fun i y hi hy=>by
   have:=h (i+1) y (by omega) (by simpa using hy)
   rwa [show g+(i+1)=g+1+i by omega] at this]
  rw[show g+1+k=g+(k+1) by omega]
structure Marks (base:Nat) (W:World) (ds:List Deferred):Prop where
 nd:ds.Pairwise (fun a b=>a.target≠b.target)
 each:∀d∈ds,∃D,d={ target:=.collected D,args:=#[] }/\base<=D/\W.heap[D]? = some (.deferred (some []))
theorem Marks.nil(base:Nat) (W:World):Marks base W []:=⟨List.Pairwise.nil,fun _ h=>by cases h⟩
theorem Marks.turned{base:Nat} {W W':World} {ds:List Deferred} (h:Marks base W ds) {C:Nat->Prop} (ht:Turned C W W') (hC:∀k o,C k->W.heap[k]? = some o->(∀x,o≠.deferred x)):Marks base W' ds :=
 ⟨h.nd,fun d hd=>by
  obtain⟨D,h1,h2,h3⟩:=h.each d hd;exact⟨D,h1,h2,(ht.block D (getElem?_lt h3) fun hc=>hC D _ hc h3 _ rfl).trans h3⟩⟩
theorem Marks.cons{base:Nat} {W:World} {ds:List Deferred} (h:Marks base W ds) {D:Nat} (hb:base<=D) (hD:W.heap[D]? = some (.deferred (some []))) (hn:∀d∈ds,∀D',d.target=.collected D'->D'≠D):Marks base W ({ target:=.collected D,args:=#[] }::ds) :=
 ⟨List.pairwise_cons.2 ⟨fun d hd he=>by
  obtain⟨D',h1,-,-⟩:=h.each d hd;rw[h1] at he;simp only[Target.collected.injEq] at he;exact hn d hd D' (by rw[h1]) he.symm,h.nd⟩,fun d hd=>by
  rcases List.mem_cons.1 hd with rfl | hd
  ·exact⟨D,rfl,hb,hD⟩
  ·exact h.each d hd⟩
theorem leave_marks{F:Fence} {n:Nat} {P:Program} {fn:Func} {tmps:Array Value} {R:Ending->World->Prop} {base:Nat} : ∀(ds:List Deferred) (W:World),Marks base W ds->(∀W',Turned (fun k=>base<=k/\∃x,W.heap[k]? = some (.deferred x)) W W'->LeavesIn F n P fn tmps R [] .returning W')->LeavesInM F n P fn tmps R ds .returning W
 | [],W,_,h=>h W (Turned.refl _ W)
 | d::ds,W,hm,h=>by
  obtain⟨D,rfl,hb,hD⟩:=hm.each d (by simp)
  refine⟨by simp,.inl ⟨D,_,rfl,run_takeDeferred hD,?_⟩⟩
  have ht:Turned (fun k=>k=D) W (W.putObj D (.deferred none)):=(Turned.refl (fun k=>k=D) W).putObj rfl _
  have hp:=List.pairwise_cons.1 hm.nd;refine leave_marks (base:=base) ds _ ⟨hp.2,fun d hd=>?_⟩ fun W' ht'=>h W' ?_
  ·obtain⟨D',h1,h2,h3⟩:=hm.each d (List.mem_cons_of_mem _ hd);have hne:D'≠D:=fun e=>hp.1 d hd (by rw[h1,e])
   exact⟨D',h1,h2,(ht.block D' (getElem?_lt h3) hne).trans h3⟩
  ·refine(ht.mono fun k hk=>?_).trans (ht'.mono fun k hk=>?_)
   ·subst hk;exact⟨hb,_,hD⟩
   ·obtain⟨h1,x,h2⟩:=hk;refine⟨h1,?_⟩;by_cases hkD:k=D
    ·subst hkD;exact⟨_,hD⟩
    ·rw[ht.block k (by have:=getElem?_lt h2;rwa [show(W.putObj D (.deferred none)).heap.size=W.heap.size by simp] at this) hkD] at h2
     exact⟨x,h2⟩
theorem reachBad_in{n g:Nat} {x:Rc} (h1:¬x.down < -1) (h2:¬(n:Int)<=x.down):reachBad n g x=if x.down=g\/(x.down < 0/\0 < x.ws.length)\/(0<=x.down/\kerE x.ws≠0) then 1 else 0:=by
 unfold reachBad;rw[if_neg (by omega)]
theorem Turned.freshC{W A B:World} {C D:Nat->Prop} (h:Turned C W A) (k:Turned D A B) (hD:∀g,D g->W.heap.size<=g):Turned C W B :=
 ⟨k.os.trans h.os,k.tape.trans h.tape,k.output.trans h.output,Nat.le_trans h.size k.size,fun i hi hn=>(k.block i (Nat.lt_of_lt_of_le hi h.size) (fun c=>by have:=hD i c;omega)).trans (h.block i hi hn)⟩
theorem way_short{d:List Int} {p:Int} (h:stepN d d.length p < 0):(way d p).length<=d.length:=by
 have h1:=way_drop (p:=p) (show d.length<=d.length+1 by omega)
 rw[show d.length+1-d.length=1 by omega,wayN,if_pos h] at h1
 exact List.drop_eq_nil_iff.1 h1
theorem results_cellE(tmps:Array Value) (w:World) (g:Nat) (v:Int) (hp:tmps.getD 2 undef=.pointer (some ⟨g,0,none⟩)) (hg:w.cell? ⟨g,0,none⟩=some (.int .i64 v)) :
  (results Tryz.f86 tmps).run Tryz.prog w=.ok (.int .i64 v) w:=by
 have hp':tmps[2]?.getD undef=.pointer (some ⟨g,0,none⟩):=by simpa using hp
 have hl:(loadVar 33 ⟨g,0,none⟩).run Tryz.prog w=.ok (.int .i64 v) w:=by
  have:=Tryz.underlying33;go_simp
 simp[results,hp',asAddr,hl]
theorem eCheck_any(rs:List Rc) (pp:Option Addr) (cc:Nat) (W:World) (hriv:RivAt W.heap.size W rs pp cc) :
  Calls Tryz.prog 86 #[.slice pp rs.length cc] W fun e w'=>e=.returned (.int .i64 (rivE rs))/\Turned (fun _=>False) W w':=by
 refine callsIn_wide (n:=0).1 ?_;refine callsIn_of_wp_marks Tryz.func86 rfl trivial ?_ rfl;simp only[Tryz.ntmps86,List.size_toArray,List.length_cons,List.length_nil,Nat.reduceAdd,Nat.reduceSub,Array.replicate_succ,Array.replicate_zero,List.push_toArray,List.append_toArray,List.nil_append,List.cons_append];have hmx:(rs.length:Int)<=9223372036854775807:=by have:=hriv.at_.len;unfold maxLen at this;omega
 obtain⟨n,hn⟩ : ∃n,rs.length=n:=⟨_,rfl⟩;have HN:=zh hn;have HE:Hid (rivE rs=if 40 < n then 2 else if reachesE n 0 rs≠0 then reachesE n 0 rs else if endsB (rs.map (·.down))=true then 0 else 4):=zh (by unfold rivE;rw[hn])
 have HR:=zh hriv;have LV:∀(tmps:Array Value) (v:Int) (ds:List Deferred) (A:World),tmps.getD 2 undef=.pointer (some ⟨W.heap.size+1,0,none⟩)->rivE rs=v->Marks (W.heap.size+2) A ds->A.cell? ⟨W.heap.size+1,0,none⟩=some (.int .i64 v)->Turned (fun _=>False) W A ->
   LeavesInM Fence.wide 0 Tryz.prog Tryz.f86 tmps (fun e w'=>e=.returned (.int .i64 (rivE rs))/\Turned (fun _=>False) W w') ds .returning A:=by
  intro tmps v ds A h1 h2 h3 h4 h5;refine leave_marks (base:=W.heap.size+2) ds A h3 fun W' ht=>?_
  have h6:=cellT ht (fun hc=>by have:=hc.1;omega) h4
  refine⟨_,results_cellE tmps W' _ v h1 h6,by rw[h2],?_⟩
  exact h5.fresh ht fun g hg=>by have:=hg.1;omega
 have HLV:=zh LV;clear LV;rw[hn] at hmx ⊢;clear hn hriv;by_cases h40:40 < n
 ·have HE2:Hid (rivE rs=2):=zh (by rw[HE.out,if_pos h40])
  have h40':(40:Int) < n:=by omega
  clear HE
  gi_wp2_with fail
  have n1:=new_second W (.cells #[.slice pp n cc] 22) (.cells #[.int .i64 2] 33);refine HLV.out _ 2 [] _ ?_ HE2.out (Marks.nil _ _) (cell_of_box n1) (((zr W).alloc _).alloc _);rfl
 have h40':¬(40:Int) < n:=by omega
 replace HE:=zh (HE.out.trans (if_neg h40))
 gi_wp2_with fail
 have T0:=((zr W).alloc (.cells #[.slice pp n cc] 22)).alloc (.cells #[.int .i64 0] 33);have n0:=new_first W (.cells #[.slice pp n cc] 22) (.cells #[.int .i64 0] 33);have n1:=new_second W (.cells #[.slice pp n cc] 22) (.cells #[.int .i64 0] 33);have hz0:((W.alloc (.cells #[.slice pp n cc] 22)).alloc (.cells #[.int .i64 0] 33)).heap.size=W.heap.size+2:=by simp
 obtain⟨w0,hw0⟩ : ∃w0,w0=(W.alloc (.cells #[.slice pp n cc] 22)).alloc (.cells #[.int .i64 0] 33):=⟨_,rfl⟩;rw[<- hw0] at T0 n0 n1 hz0 ⊢;clear hw0;have HT0:=zh T0;have HB0:=zh (And.intro n0 (And.intro n1 hz0));clear T0 n0 n1 hz0;have SET:∀(A:World) (v:Int),Turned (fun _=>False) w0 A->(A.setCell ⟨W.heap.size+1,0,none⟩ (.int .i64 v)).cell? ⟨W.heap.size+1,0,none⟩=some (.int .i64 v)/\Turned (fun k=>k=W.heap.size+1) A (A.setCell ⟨W.heap.size+1,0,none⟩ (.int .i64 v))/\Turned (fun _=>False) W (A.setCell ⟨W.heap.size+1,0,none⟩ (.int .i64 v)):=fun A v hA=>by
  have ht:Turned (fun k=>k=W.heap.size+1) A (A.setCell ⟨W.heap.size+1,0,none⟩ (.int .i64 v)):=(Turned.refl (fun k=>k=W.heap.size+1) _).setCell (p:=⟨W.heap.size+1,0,none⟩) rfl _
  exact⟨cell_of_box (box_setCell _ (keepB hA HB0.out.2.1)),ht,(HT0.out.trans hA).fresh ht fun g hg=>by omega⟩
 have HSET:=zh SET;clear SET
 gi_loopw [12] (fun i wr=>∃k:Nat,k<=n/\i=(.int .i64 k)/\Hid (Turned (fun _=>False) w0 wr/\∀i x,i < k->rs[i]? = some x->reachBad n i x=0)) (fun i _=>n-(intOf i).toNat)
 case atStart=>exact⟨0,Nat.zero_le _,rfl,zh ⟨Turned.refl _ _,fun i x h=>by omega⟩⟩
 case round =>
  obtain⟨k,hk,rfl,HH⟩:=hrel;have d1:=cell_of_box (keepB HH.out.1 HB0.out.1);have d2:=cell_of_box (keepB HH.out.1 HB0.out.2.1);have d3:=free_of_box (keepB HH.out.1 HB0.out.2.1) 0;by_cases hlt:k < n
  ·have hx:rs[k]? = some (rs[k]'(by rw[HN.out];exact hlt)):=List.getElem?_eq_getElem _
   obtain⟨⟨dn,ws,wp,wc⟩,hxe⟩ : ∃x,rs[k]'(by rw[HN.out];exact hlt)=x:=⟨_,rfl⟩
   rw[hxe] at hx;have HX:=zh hx;have hrw:=HR.out.turned (HT0.out.trans HH.out.1);have HWS:=zh (hrw.ws _ (List.mem_of_getElem? hx));obtain⟨b,a,rfl,hbN,e0,e1⟩:=hrw.at_.reaches hx;have hwl:(ws.length:Int)<=9223372036854775807:=by have:=HWS.out.len;unfold maxLen at this;simp at this;omega
   have TA:=(zr wr).alloc (.cells #[.int .i64 dn,.slice wp ws.length wc] 123);have nA:=World.alloc_heap_new wr (.cells #[.int .i64 dn,.slice wp ws.length wc] 123);have f1:=cellT TA id d1;have f2:=cellT TA id d2;have f3:=free_of_box (keepB TA (keepB HH.out.1 HB0.out.2.1)) 0;obtain⟨w1,hw1⟩ : ∃w1,w1=wr.alloc (.cells #[.int .i64 dn,.slice wp ws.length wc] 123):=⟨_,rfl⟩;rw[<- hw1] at TA nA;have HTA:=zh (HH.out.1.trans TA);have HF2:=zh (cellT TA id d2);have a0:w1.cell? ⟨wr.heap.size,0,none⟩=some (.int .i64 dn):=by simp[World.cell?,nA]
   have a1:w1.cell? ⟨wr.heap.size,1,none⟩=some (.slice wp ws.length wc):=by simp[World.cell?,nA]
   clear a0 a1;have HK:=zh (kCheck_any ws wp wc W.heap.size w1 (HWS.out.turned TA));have HRB:Hid (reachesE n 0 rs=if reachBad n k ⟨dn,ws,wp,wc⟩=0 then reachesE n (k+1) (rs.drop (k+1)) else reachBad n k ⟨dn,ws,wp,wc⟩):=zh (by
    have h1:=reachesE_drop n rs k 0 fun i x hi hxi=>by rw[Nat.zero_add];exact HH.out.2 i x hi hxi
    rw[Nat.zero_add] at h1;have h2:rs.drop k=⟨dn,ws,wp,wc⟩::rs.drop (k+1):=by
     have hlt2:k < rs.length:=by rw[HN.out];exact hlt
     rw[List.drop_eq_getElem_cons hlt2,hxe]
    rw[h1,h2,reachesE])
   have HST:=zh (HSET.out w1 · HTA.out);have HNX:Hid (reachBad n k ⟨dn,ws,wp,wc⟩=0->∀i x,i < k+1->rs[i]? = some x->reachBad n i x=0):=zh fun h0 i x hi hxi=>by
    rcases Nat.lt_or_ge i k with h1 | h1
    ·exact HH.out.2 i x h1 hxi
    ·obtain rfl:i=k:=by omega
     rw[HX.out] at hxi;cases hxi
     exact h0
   clear hx hxe hrw TA nA;have bad:∀v,reachBad n k ⟨dn,ws,wp,wc⟩=v->v≠0->rivE rs=v:=fun v h1 h2=>by
    rw[HE.out,if_pos (by rw[HRB.out,if_neg (by rw[h1];exact h2),h1];exact h2),HRB.out,if_neg (by rw[h1];exact h2),h1]
   have HBAD:=zh bad;clear bad;by_cases g1:dn < -1\/(n:Int)<=dn
   ·have HV:Hid (rivE rs=3):=zh (HBAD.out 3 (by unfold reachBad;rw[if_pos g1]) (by decide))
    rcases g1 with g1 | g1
    all_goals
     (try have g2:¬dn < -1:=by omega)
     gi_wp2_with (refine wide_skip (fun _=>trivial) rfl ?_)
     (try rw[<- hw1])
     refine HLV.out _ 3 [] _ ?_ HV.out (Marks.nil _ _) (HST.out 3).1 (HST.out 3).2.2;rfl
   have g2:¬dn < -1:=by omega
   have g3:¬(n:Int)<=dn:=by omega
   have HRI:=zh (reachBad_in (n:=n) (g:=k) (x:=⟨dn,ws,wp,wc⟩) g2 g3);clear g1;have HRF:=zh (HBAD.out 1);by_cases c1:dn=(k:Int)
   ·have HV:Hid (rivE rs=1):=zh (HRF.out (by rw[HRI.out,if_pos (.inl c1)]) (by decide))
    subst c1
    gi_wp2_with (refine wide_skip (fun _=>trivial) rfl ?_)
    (try rw[<- hw1])
    refine HLV.out _ 1 [] _ ?_ HV.out (Marks.nil _ _) (HST.out 1).1 (HST.out 1).2.2;rfl
   have c1':(dn == (k:Int))=false:=by simpa using c1
   by_cases c2:dn < 0
   ·have c2':¬(0:Int)<=dn:=by omega
    by_cases c3:0 < ws.length
    ·have HV:Hid (rivE rs=1):=zh (HRF.out (by rw[HRI.out,if_pos (.inr (.inl ⟨c2,c3⟩))]) (by decide))
     have c3':(0:Int) < ws.length:=by omega
     gi_wp2_with (refine wide_skip (fun _=>trivial) rfl ?_)
     (try rw[<- hw1])
     refine HLV.out _ 1 [] _ ?_ HV.out (Marks.nil _ _) (HST.out 1).1 (HST.out 1).2.2;rfl
    ·have c3':¬(0:Int) < ws.length:=by omega
     have HG:Hid (Turned (fun _=>False) w0 w1/\∀i x,i < k+1->rs[i]? = some x->reachBad n i x=0):=zh ⟨HTA.out,HNX.out (by rw[HRI.out,if_neg];rintro(h | h | h);exact c1 h;exact c3 h.2;exact c2' h.1)⟩
     gi_wp2_with (refine wide_skip (fun _=>trivial) rfl ?_)
     (try rw[<- hw1])
     go_roundw
     case rel=>exact⟨k+1,by omega,by go_num,HG⟩
     case measure=>simp[intOf];omega
   ·have c2':(0:Int)<=dn:=by omega
    have c4:¬((0:Int) < ws.length/\dn < 0):=fun h=>c2 h.2
    obtain⟨ke,hke⟩ : ∃ke,kerE ws=ke:=⟨_,rfl⟩;rw[hke] at HK;by_cases c3:ke=0
    ·have HG:∀A,Turned (fun _=>False) w1 A->Hid (Turned (fun _=>False) w0 A/\∀i x,i < k+1->rs[i]? = some x->reachBad n i x=0):=fun A hA=>zh ⟨HTA.out.trans hA,HNX.out (by rw[HRI.out,if_neg];rintro(h | h | h);exact c1 h;exact c2 h.1;exact h.2 (by rw[hke];exact c3))⟩
     have HGG:=zh HG;subst c3;clear HG hke
     gi_wp2_with (first | (refine wide_skip (fun _=>trivial) rfl ?_) | (rw[<- hw1];refine⟨trivial,rfl,(callsIn_wide.2 HK.out).mono ?_⟩;rintro e w2 ⟨rfl,t2⟩;have T2:=zh t2;clear t2))
     go_roundw
     case rel=>exact⟨k+1,by omega,by go_num,HGG.out _ T2.out⟩
     case measure=>simp[intOf];omega
    ·have HV:Hid (rivE rs=1):=zh (HRF.out (by rw[HRI.out,if_pos (.inr (.inr ⟨c2',by show kerE ws≠0;rw[hke];exact c3⟩))]) (by decide))
     have c3':(ke == 0)=false:=by simpa using c3
     clear hke c3
     gi_wp2_with (first | (refine wide_skip (fun _=>trivial) rfl ?_) | (rw[<- hw1];refine⟨trivial,rfl,(callsIn_wide.2 HK.out).mono ?_⟩;rintro e w2 ⟨rfl,t2⟩;have f2':=cellT t2 id HF2.out;have f3':=free_of_box (keepB t2 (keepB HTA.out HB0.out.2.1)) 0;have T2:=zh t2;clear t2))
     refine HLV.out _ 1 [] _ ?_ HV.out (Marks.nil _ _) (HSET.out w2 1 (HTA.out.trans T2.out)).1 (HSET.out w2 1 (HTA.out.trans T2.out)).2.2;rfl
  ·obtain rfl:k=n:=by omega
   have h00:reachesE k 0 rs=0:=by
    rw[reachesE_drop k rs k 0 fun i x hi hxi=>by rw[Nat.zero_add];exact HH.out.2 i x hi hxi,List.drop_eq_nil_of_le (by rw[HN.out];exact Nat.le_refl _)]
    rfl
   replace HE:=zh (HE.out.trans (if_neg (by rw[h00];simp)))
   have hdn:∀x:Int,x∈rs.map (·.down) -> -1<=x/\x < (rs.map (·.down)).length:=fun x hx=>by
    obtain⟨y,hy,rfl⟩:=List.mem_map.1 hx;obtain⟨i,hi⟩:=List.mem_iff_getElem?.1 hy;have hik:i < k:=by have:=(List.getElem?_eq_some_iff.1 hi).1;rw[HN.out] at this;exact this
    have h1:=HH.out.2 i y hik hi;rw[List.length_map,HN.out];unfold reachBad at h1;split at h1
    ·omega
    ·omega
   have HDN:=zh hdn;have HT:=zh HH.out.1;clear hdn h00 HH;obtain⟨dsn,hds⟩ : ∃d,rs.map (·.down)=d:=⟨_,rfl⟩;rw[hds] at HE HDN;have HDS:=zh hds.symm;have hdl:dsn.length=k:=by rw[<- hds,List.length_map,HN.out]
   have HDL:=zh hdl;clear hds hdl
   gi_wp2_with fail
   clear d1 d2 d3;refine wpIn_loop (fun a w'=>∃(g:Nat) (ds:List Deferred) (v5 v6 v58 v59 v60 v61 v62 v63 v64 v65 v66 v67 v68 v69 v70:Value),(g<=k/\Hid (Turned (fun _=>False) w0 w'/\Marks (W.heap.size+2) w' ds/\∀i:Nat,i < g->stepN dsn k i < 0))/\a={ tmps:=#[.slice pp k cc,.pointer (some ⟨W.heap.size,0,none⟩),.pointer (some ⟨W.heap.size+1,0,none⟩),u3,u4,v5,v6,.slice pp k cc,.int .i64 k,.bool false,.slice pp k cc,.int .i64 k,.int .i64 k,.bool false,u14,u15,u16,u17,u18,u19,u20,u21,u22,u23,u24,u25,u26,u27,u28,u29,u30,u31,u32,u33,u34,u35,u36,u37,u38,u39,u40,u41,u42,u43,u44,u45,u46,u47,u48,u49,u50,u51,u52,u53,u54,.slice pp k cc,.int .i64 k,.int .i64 g,v58,v59,v60,v61,v62,v63,v64,v65,v66,v67,v68,v69,v70],defers:=ds }) (fun a _=>k-(intOf (a.tmps.getD 57 undef)).toNat) ?_ ?_
   ·exact⟨0,[],_,_,_,_,_,_,_,_,_,_,_,_,_,_,_,⟨Nat.zero_le _,zh ⟨HT.out,Marks.nil _ _,fun i h=>by omega⟩⟩,rfl⟩
   ·clear HT;rintro a wr ⟨g,ds,v5,v6,v58,v59,v60,v61,v62,v63,v64,v65,v66,v67,v68,v69,v70,⟨hg,HH⟩,rfl⟩;have d1:=cell_of_box (keepB HH.out.1 HB0.out.1);have d2:=cell_of_box (keepB HH.out.1 HB0.out.2.1);have d3:=free_of_box (keepB HH.out.1 HB0.out.2.1) 0;by_cases hlt:g < k
    ·have TA:=(zr wr).alloc (.cells #[.int .i64 0] 3);have f1:=cellT TA id d1
     gi_wp2_with fail
     refine⟨trivial,rfl,(callsIn_wide.2 (eDown_any pp k cc g _)).mono ?_⟩;rintro e w2 ⟨rfl,rfl⟩
     gi_wp2_with fail
     have B3:=new3 wr (.cells #[.int .i64 0] 3) (.cells #[.slice pp k cc] 22) (.cells #[.int .i64 g] 3);have T3:=(((zr wr).alloc (.cells #[.int .i64 0] 3)).alloc (.cells #[.slice pp k cc] 22)).alloc (.cells #[.int .i64 g] 3);have hz3:((((wr.alloc (.cells #[.int .i64 0] 3)).alloc (.cells #[.slice pp k cc] 22)).alloc (.cells #[.int .i64 g] 3))).heap.size=wr.heap.size+3:=by simp
     obtain⟨w3,hw3⟩ : ∃w3,w3=(((wr.alloc (.cells #[.int .i64 0] 3)).alloc (.cells #[.slice pp k cc] 22)).alloc (.cells #[.int .i64 g] 3)):=⟨_,rfl⟩;rw[<- hw3] at B3 T3 hz3 ⊢;have z3:=Nat.le_of_eq hz3;have z3':=Nat.le_of_eq hz3.symm;clear hz3;clear hw3 TA f1 d1 d2 d3;have hwz:W.heap.size+2<=wr.heap.size:=by have:=HH.out.1.size;rw[HB0.out.2.2] at this;exact this
     have HT3:=zh (HH.out.1.trans T3);have HM3:=zh (HH.out.2.1.turned T3 fun _ _ h=>h.elim)
     have HB3:=zh B3;have hrv:=HR.out.turned (HT0.out.trans HT3.out);have hbs:∀x∈dsn,x < dsn.length:=fun x hx=>(HDN.out x hx).2
     have hgl:g < dsn.length:=by rw[HDL.out];exact hlt
     have hit:=eDown_iter rs dsn pp cc W.heap.size (wr.heap.size+1+1) (wr.heap.size+1) g w3 HDS.out hrv hgl hbs (cell_of_box B3.2.2) (by rw[HN.out];exact cell_of_box B3.2.1)
     have hwl:=way_len dsn g;have HWF:=zh (fun h=>way_full (d:=dsn) (p:=g) h)
     have HGL:=zh hgl;rw[HDL.out] at hwl HWF;clear hbs hrv B3 T3 hgl;have MK:∀A,Turned (fun i=>i=wr.heap.size\/i=W.heap.size+1) w3 A->A.heap[w3.heap.size]? = some (.deferred (some []))->Marks (W.heap.size+2) A ({ target:=.collected w3.heap.size,args:=#[] }::ds):=fun A ht hD=>by
      refine(HM3.out.turned ht fun i o hi ho x hx=>?_).cons (by omega) hD fun d hd D' hD'=>?_
      ·rcases hi with hi | hi
       ·rw[hi,HB3.out.1] at ho;cases ho;cases hx
       ·rw[hi,keepB HT3.out HB0.out.2.1] at ho;cases ho;cases hx
      ·obtain⟨D2,h1,h2,h3⟩:=HM3.out.each d hd;rw[h1] at hD';cases hD'
       exact Nat.ne_of_lt (getElem?_lt h3)
     have HMK:=zh MK;clear MK;refine range_lawE (rfl:_=Value.func (.func 141) #[] #[.pointer (some ⟨wr.heap.size+1+1,0,none⟩),.pointer (some ⟨wr.heap.size+1,0,none⟩)]) (enters_of Tryz.func141 (by kernel_rfl) rfl) hit (fun _=>rfl) (by
       intro j hj;rcases hj with(h | h | h) | h
       ·exact Nat.lt_of_lt_of_le h (by omega)
       ·rw[h];omega
       ·rw[h];omega
       ·exact h.elim)
      (fun j N A=>j<=k/\A.heap[wr.heap.size]? = some (.cells #[.int .i64 j] 3 (0,0))/\Turned (fun i=>i=wr.heap.size) w3 A/\w3.heap.size<=N) (fun c A=>c=.ret/\k < (way dsn g).length/\A.cell? ⟨W.heap.size+1,0,none⟩=some (.int .i64 4)/\Turned (fun i=>i=wr.heap.size\/i=W.heap.size+1) w3 A)
      (fun _ _ _ _ h hN=>⟨h.1,h.2.1,h.2.2.1,Nat.le_trans h.2.2.2 hN⟩) ?stab ?stabx ?hends ⟨Nat.zero_le _,HB3.out.1,Turned.refl _ _,Nat.le_refl _⟩
      (fun(x:Nat)=>#[.slice pp k cc,.pointer (some ⟨W.heap.size,0,none⟩),.pointer (some ⟨W.heap.size+1,0,none⟩),u3,u4,.int .i64 g,.pointer (some ⟨wr.heap.size,0,none⟩),.slice pp k cc,.int .i64 k,.bool false,.slice pp k cc,.int .i64 k,.int .i64 k,.bool false,u14,u15,u16,u17,u18,u19,u20,u21,u22,u23,u24,u25,u26,u27,u28,u29,u30,u31,u32,u33,u34,u35,u36,u37,u38,u39,u40,u41,u42,u43,u44,u45,u46,u47,u48,u49,u50,u51,u52,u53,u54,.slice pp k cc,.int .i64 k,.int .i64 g,.bool true,.int .i64 g,.slice pp k cc,.int .i64 g,.func (.func 141) #[] #[.pointer (some ⟨wr.heap.size+1+1,0,none⟩),.pointer (some ⟨wr.heap.size+1,0,none⟩)],.int .i64 x,v64,v65,v66,v67,v68,v69,v70]) (fun x=>by simp[gEncs])
      (fun j N _ x a' A=>w3.heap.size<=N/\a'={ tmps:=#[.slice pp k cc,.pointer (some ⟨W.heap.size,0,none⟩),.pointer (some ⟨W.heap.size+1,0,none⟩),u3,u4,.int .i64 g,.pointer (some ⟨wr.heap.size,0,none⟩),.slice pp k cc,.int .i64 k,.bool false,.slice pp k cc,.int .i64 k,.int .i64 k,.bool false,u14,u15,u16,u17,u18,u19,u20,u21,u22,u23,u24,u25,u26,u27,u28,u29,u30,u31,u32,u33,u34,u35,u36,u37,u38,u39,u40,u41,u42,u43,u44,u45,u46,u47,u48,u49,u50,u51,u52,u53,u54,.slice pp k cc,.int .i64 k,.int .i64 g,.bool true,.int .i64 g,.slice pp k cc,.int .i64 g,.func (.func 141) #[] #[.pointer (some ⟨wr.heap.size+1+1,0,none⟩),.pointer (some ⟨wr.heap.size+1,0,none⟩)],.int .i64 x,v64,v65,v66,v67,v68,v69,v70],defers:=[] }/\j<=k/\A.heap[wr.heap.size]? = some (.cells #[.int .i64 j] 3 (0,0))/\Turned (fun i=>i=wr.heap.size) w3 A)
      ?stabA ?assign ?body ?done ?stop
     case stab =>
      rintro j N A B ⟨h1,h2,h3,h4⟩ hN ht;refine⟨h1,(ht.block _ (getElem?_lt h2) (by rintro(h | h | h);exact h;omega;omega)).trans h2,h3.freshC ht (fun i hi=>?_),h4⟩
      rcases hi with hi | hi | hi
      ·exact hi.elim
      ·omega
      ·omega
     case stabx =>
      rintro c A B ⟨h0,h1,h2,h3⟩ ht;refine⟨h0,h1,cellT ht (by rintro(h | h | h);exact h;omega;omega) h2,h3.freshC ht (fun i hi=>?_)⟩
      rcases hi with hi | hi | hi
      ·exact hi.elim
      ·omega
      ·omega
     case hends =>
      rintro he N A ⟨h1,-⟩;have:=HWF.out (by rw[<- HDL.out];exact he)
      omega
     case stabA =>
      rintro j N M x a' A B ⟨h0,rfl,h1,h2,h3⟩ ht;exact⟨h0,rfl,h1,(ht.block _ (getElem?_lt h2) (by omega)).trans h2,h3.freshC ht fun i hi=>by omega⟩
     case assign =>
      rintro j N x A hx ⟨h1,h2,h3,h4⟩ hN hsz;have HQ:=zh (And.intro h1 (And.intro h2 (And.intro h3 h4)));clear h1 h2 h3 h4
      gi_wp2
      exact⟨⟨HQ.out.2.2.2,HQ.out.1,HQ.out.2.1,HQ.out.2.2.1⟩,Kept.refl _ _⟩
     case body =>
      rintro j N M x a' A hx ⟨h0,rfl,h1,h2,h3⟩ hNM hMA hsz hrec;have hjl:j < (way dsn g).length:=(List.getElem?_eq_some_iff.1 hx).1;have hb0:A.heap[W.heap.size]? = some (.cells #[.slice pp k cc] 22 (0,0)):=(h3.block _ (by omega) (by omega)).trans (keepB HT3.out HB0.out.1)
      have hb2:A.heap[W.heap.size+1]? = some (.cells #[.int .i64 0] 33 (0,0)):=(h3.block _ (by omega) (by omega)).trans (keepB HT3.out HB0.out.2.1)
      have d0:=cell_of_box hb0;have d2:=cell_of_box hb2;have d3:=free_of_box hb2 0;have e0:=cell_of_box h2;have e1:=free_of_box h2 0;have hs1:=box_setCell (.int .i64 (j+1)) h2;have ht1:Turned (fun i=>i=wr.heap.size) A (A.setCell ⟨wr.heap.size,0,none⟩ (.int .i64 (j+1))):=(Turned.refl (fun i=>i=wr.heap.size) _).setCell (p:=⟨wr.heap.size,0,none⟩) rfl _
      have hk40:(k:Int)<=40:=by omega
      have KEEP:∀B,Turned (fun i=>i=wr.heap.size\/i=W.heap.size+1) A B->Kept (fun i=>((i < W.heap.size\/i=wr.heap.size+1+1\/i=wr.heap.size+1)\/(N<=i/\i < M))\/i=w3.heap.size\/i=w3.heap.size+1) A B:=fun B hB=>hB.kept fun i hi=>by
       show i < A.heap.size/\¬(i=wr.heap.size\/i=W.heap.size+1);clear hx e0 e1 d0 d2 d3 hs1 ht1 hwl;omega
      have HKP:=zh KEEP;have HS1:=zh (And.intro hs1 (And.intro ht1 h3));have HB2:=zh (And.intro hb2 hjl);clear KEEP hs1 ht1 h3 h2 hb0 hb2;by_cases hjk:j < k
      ·have hj1:¬(k:Int) < (j:Int)+1:=by omega
       gi_wp2_with fail
       refine⟨HKP.out _ (HS1.out.2.1.mono fun i hi=>Or.inl hi),by omega,by simpa using HS1.out.1,?_,?_⟩
       ·exact HS1.out.2.2.trans HS1.out.2.1
       ·have:=HS1.out.2.1.size;omega
      ·obtain rfl:j=k:=by omega
       have hj1:(j:Int) < (j:Int)+1:=by omega
       gi_wp2_with fail
       have ht2:Turned (fun i=>i=W.heap.size+1) (A.setCell ⟨wr.heap.size,0,none⟩ (.int .i64 (j+1))) ((A.setCell ⟨wr.heap.size,0,none⟩ (.int .i64 (j+1))).setCell ⟨W.heap.size+1,0,none⟩ (.int .i64 4)):=(Turned.refl (fun i=>i=W.heap.size+1) _).setCell (p:=⟨W.heap.size+1,0,none⟩) rfl _
       have hc4:=cell_of_box (box_setCell (.int .i64 4) ((HS1.out.2.1.block (W.heap.size+1) (by have:=getElem?_lt HB2.out.1;exact this) (by omega)).trans HB2.out.1))
       have htt:=(HS1.out.2.1.mono (C':=fun i=>i=wr.heap.size\/i=W.heap.size+1) fun i hi=>Or.inl hi).trans (ht2.mono fun i hi=>Or.inr hi)
       exact⟨HKP.out _ htt,rfl,hc4,(HS1.out.2.2.mono fun i hi=>Or.inl hi).trans htt⟩
     case done =>
      rintro A ⟨h1,h2,h3,h4⟩ hD hsz;have hst:stepN dsn k (g:Int) < 0:=by
       by_cases h:stepN dsn k (g:Int) < 0
       ·exact h
       ·have:=(way_next (p:=g) (Nat.le_of_eq HDL.out.symm) h).2;omega
      have HMD:Hid (Turned (fun _=>False) w0 A/\Marks (W.heap.size+2) A ({ target:=.collected w3.heap.size,args:=#[] }::ds)/\∀i:Nat,i < g+1->stepN dsn k i < 0):=zh ⟨HT3.out.fresh h3 fun i hi=>by rw[hi];exact HH.out.1.size,HMK.out A (h3.mono fun i hi=>Or.inl hi) hD,fun i hi=>by
       rcases Nat.lt_or_ge i g with h | h
       ·exact HH.out.2.2 i h
       ·obtain rfl:i=g:=by omega
        exact hst⟩
      clear h1 h2 h3 h4 hst hD
      gi_wp2_with fail
      refine⟨⟨g+1,⟨by omega,HMD⟩,by simp⟩,?_⟩
      simp[intOf];omega
     case stop =>
      rintro c A ⟨rfl,h1,h2,h3⟩ hD hsz;have HV:Hid (rivE rs=4):=zh (by
       rw[HE.out,if_neg];unfold endsB;rw[List.all_eq_true];intro h;have:=of_decide_eq_true (h g (List.mem_range.2 (by rw[HDL.out];exact hlt)))
       have:=way_short this;rw[HDL.out] at this;omega)
      gi_wp2_with fail
      refine HLV.out _ 4 _ _ ?_ HV.out (HMK.out A h3 hD) h2 ((HT0.out.trans HT3.out).fresh h3 fun i hi=>by omega)
      rfl
    ·obtain rfl:g=k:=by omega
     have HV:Hid (rivE rs=0):=zh (by
      rw[HE.out,if_pos];unfold endsB;rw[List.all_eq_true];intro i hi;rw[HDL.out] at hi ⊢;exact decide_eq_true (HH.out.2.2 i (List.mem_range.1 hi)))
     gi_wp2_with fail
     refine HLV.out _ 0 ds _ ?_ HV.out (HH.out.2.1.turned (HSET.out wr 0 HH.out.1).2.1 ?_) (HSET.out wr 0 HH.out.1).1 (HSET.out wr 0 HH.out.1).2.2
     ·rfl
     ·intro i o hi ho x hx;subst hi;rw[keepB HH.out.1 HB0.out.2.1] at ho;cases ho
      cases hx
end Go.Proofs.YtanhhdndgkhcfaaGreatDoor
