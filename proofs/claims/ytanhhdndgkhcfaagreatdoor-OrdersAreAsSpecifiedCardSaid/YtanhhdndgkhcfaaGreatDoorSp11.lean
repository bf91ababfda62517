/- Part 11 of the proof of lawSpec.card: OrdIterB. Conditions: those of each theorem. -/
import Derived.Stop.RegionWithIn
import Derived.Test.YtanhhdndgkhcfaaGreatDoorSp01
import Derived.Test.YtanhhdndgkhcfaaGreatDoorSp09
set_option maxHeartbeats 4000000
namespace Go.Proofs.YtanhhdndgkhcfaaGreatDoor
open Go Go.Proofs Go.RowKit
attribute [local go_sem] Oper.semAt_some
def aEncs (us:List Rv) (k:Nat):Array Value:=#[.int .i64 k,ratV (us.getD k zeroR)]
theorem allRat_iter(us:List Rv) (pp:Option Addr) (cc N c1:Nat) (w:World) (hl:At N w 3 ratCells us pp cc) (h1:w.cell? ⟨c1,0,none⟩=some (.slice pp us.length cc)) (hc1:c1 < N) (hNw:N<=w.heap.size) :
  IterE True Tryz.prog 125 #[.pointer (some ⟨c1,0,none⟩)] (aEncs us) (List.range us.length) (fun _=>False) (fun k=>k < N) w:=by
 intro r J Jx W hsz hkeep hJm hJ hJx hY hends hJ0;refine callsIn_of_wp Tryz.func125 rfl trivial ?_ rfl;simp only[Tryz.ntmps125,List.size_toArray,List.length_cons,List.length_nil,Nat.reduceAdd,Nat.reduceSub,Array.replicate_succ,Array.replicate_zero,List.push_toArray,List.append_toArray,List.nil_append,List.cons_append];have hS:Same N w W:=fun k hk=>hkeep k (.inl hk)
 have HNW:=zh (Nat.le_trans hNw hsz);have g1:W.cell? ⟨c1,0,none⟩=some (.slice pp us.length cc):=(hS.cell hc1).trans h1;have HL:=zh (hl.same hS);have hmx:(us.length:Int)<=9223372036854775807:=by have:=hl.len;unfold maxLen at this;omega
 have HJ2:Hid (∀k A B,J k A.heap.size A->Turned (fun _=>False) A B->J k A.heap.size B):=zh fun k A B h ht=>hJ k _ A B h (Nat.le_refl _) ht
 have HY:=zh hY;have HJ0:=zh hJ0;obtain⟨n,hn⟩ : ∃n,us.length=n:=⟨_,rfl⟩;have HN:=zh hn;have HLL:Hid ((List.range n).length=n):=zh List.length_range;rw[hn] at hmx g1 HY ⊢;clear hkeep h1 hS hJm hJ hJx hY hends hl hc1 hn hJ0 hsz hNw
 gi_wp2
 gi_loopw [7] (fun i wr=>∃k:Nat,k<=n/\i=(.int .i64 k)/\Hid (J k wr.heap.size wr/\Same N W wr/\N<=wr.heap.size)) (fun i wr=>n-(intOf i).toNat)
 case atStart=>exact⟨0,Nat.zero_le _,rfl,zh ⟨HJ0.out,fun _ _=>rfl,HNW.out⟩⟩
 case round =>
  obtain⟨k,hk,rfl,HH⟩:=hrel;by_cases hlt:k < n
  ·have hu:us[k]? = some (us.getD k zeroR):=by rw[List.getD_eq_getElem?_getD,List.getElem?_eq_getElem (by rw[HN.out];exact hlt)];rfl
   have hx:(List.range n)[k]? = some k:=by simp[hlt]
   have HYk:=zh (fun W1 (h:J k wr.heap.size W1) hN=>HY.out k wr.heap.size k W1 h hN hx)
   unfold aEncs at HYk;obtain⟨⟨un,ux,ud⟩,hur⟩ : ∃u,us.getD k zeroR=u:=⟨_,rfl⟩;rw[hur] at hu HYk;obtain⟨b,a,rfl,-,e0,e1,e2⟩:=(HL.out.same HH.out.2.1).rats hu;have hJw:=HJ2.out k wr _ HH.out.1 ((zr wr).alloc (.cells #[.bool un,.string ux,.string ud] 68));obtain⟨fn,tmps,assign,body,hy,hR⟩:=HYk.out _ hJw (by simp)
   have HR2:=zh hR;have HSA:Hid (∀A,(∀i,i < N->A.heap[i]? = (wr.alloc (.cells #[.bool un,.string ux,.string ud] 68)).heap[i]?)->Same N W A):=zh fun A hA i hi=>by
    rw[hA i hi,Below.heap_alloc _ _ _ (Nat.lt_of_lt_of_le hi HH.out.2.2)];exact HH.out.2.1 i hi
   clear hu hx hur hR hJw HYk
   gi_wp2
   refine⟨rfl,HR2.out.mono ?_⟩;rintro e W4 (⟨rfl,hj4,hk4⟩ | ⟨rfl,hjx4⟩)
   ·have HH2:Hid (J (k+1) W4.heap.size W4/\Same N W W4/\N<=W4.heap.size):=zh ⟨hj4,HSA.out W4 fun i hi=>hk4.block i (.inl (.inl hi)),by have h1:=hk4.size;have h2:=HH.out.2.2;simp only[World.size_alloc] at h1;omega⟩
    clear hk4 hj4
    gi_wp2
    go_roundw
    case rel=>exact⟨k+1,by omega,by go_num,HH2⟩
    case measure=>simp[intOf];omega
   ·gi_wp2
    refine bodyPost_ret (results_none rfl _ _ _) rfl ?_;exact⟨⟨_,rfl⟩,.inr hjx4⟩
  ·obtain rfl:k=n:=by omega
   have HF:Hid (J (List.range k).length wr.heap.size wr):=zh (by rw[HLL.out];exact HH.out.1)
   gi_wp2
   go_end0
   exact⟨⟨_,rfl⟩,.inl HF.out⟩
theorem filt_at(op:Nat->Bool) {m i:Nat} (hi:i < m) (ho:op i=true):((List.range m).filter op)[((List.range i).filter op).length]? = some i:=by
 obtain⟨c,rfl⟩ : ∃c,m=i+(c+1):=⟨m-i-1,by omega⟩
 rw[List.range_add,List.filter_append,List.getElem?_append_right (Nat.le_refl _),Nat.sub_self,List.range_succ_eq_map,List.map_cons,List.filter_cons_of_pos (by simpa using ho)]
 simp
theorem filt_succ(op:Nat->Bool) (i:Nat):((List.range (i+1)).filter op).length=((List.range i).filter op).length+(if op i=true then 1 else 0):=by
 rw[List.range_succ,List.filter_append,List.length_append]
 congr 1
 rw[List.filter_cons];split <;> simp
theorem yield_two{A B:Prop} {e:Ending} (h:(e=.returned (.bool true)/\A)\/(e=.returned (.bool false)/\B)):∃bb,e=.returned (.bool bb)/\Hid ((bb=true->A)/\(bb=false->B)):=by
 rcases h with⟨h3,h4⟩ | ⟨h3,h4⟩
 ·exact⟨true,h3,zh ⟨fun _=>h4,fun h=>(by cases h)⟩⟩
 ·exact⟨false,h3,zh ⟨fun h=>(by cases h),fun _=>h4⟩⟩
def cEncs (pl:Nat->Int) (am:Nat->Rv) (k:Nat):Array Value:=#[(.int .i64 (pl k)),ratV (am k)]
theorem at_iter(cs:List Cl) (pp:Option Addr) (cc N c1 c2 c3 fI fN:Nat) (kI kN:Array Value) (op:Nat->Bool) (am:Nat->Rv) (w:World) (hl:At N w 5 claimCells cs pp cc) (h1:w.cell? ⟨c1,0,none⟩=some (.slice pp cs.length cc)) (hc1:c1 < N)
  (h2:w.cell? ⟨c2,0,none⟩=some (.func (.func fI) #[] kI)) (hc2:c2 < N) (h3:w.cell? ⟨c3,0,none⟩=some (.func (.func fN) #[] kN)) (hc3:c3 < N) (hNw:N<=w.heap.size)
  (eI:∀args w,(callFunc fI args).run Tryz.prog w=.ok (.enter fI args) w) (eN:∀args w,(callFunc fN args).run Tryz.prog w=.ok (.enter fN args) w)
  (HI:∀(k:Nat) (W:World),k < cs.length->Same N w W->N<=W.heap.size->Calls Tryz.prog fI (#[.int .i64 k]++kI) W fun e w'=>e=.returned (.bool (op k))/\w'=W)
  (HN:∀(k:Nat) (W:World),k < cs.length->Same N w W->N<=W.heap.size->Calls Tryz.prog fN (#[.int .i64 k]++kN) W fun e w'=>e=.returned (ratV (am k))/\Turned (fun _=>False) W w') :
  IterE True Tryz.prog 101 #[.pointer (some ⟨c1,0,none⟩),.pointer (some ⟨c2,0,none⟩),.pointer (some ⟨c3,0,none⟩)] (cEncs (fun k=>(cs.map (·.place)).getD k 0) am) ((List.range cs.length).filter op) (fun _=>False) (fun k=>k < N) w:=by
 intro r J Jx W hsz hkeep hJm hJ hJx hY hends hJ0;refine callsIn_of_wp Tryz.func101 rfl trivial ?_ rfl;simp only[Tryz.ntmps101,List.size_toArray,List.length_cons,List.length_nil,Nat.reduceAdd,Nat.reduceSub,Array.replicate_succ,Array.replicate_zero,List.push_toArray,List.append_toArray,List.nil_append,List.cons_append];have hS:Same N w W:=fun k hk=>hkeep k (.inl hk)
 have HNW:=zh (Nat.le_trans hNw hsz);have HST:=zh hS;have HC:=zh (And.intro ((hS.cell hc1).trans h1) (And.intro ((hS.cell hc2).trans h2) ((hS.cell hc3).trans h3)));have HCN:=zh (And.intro hc1 (And.intro hc2 hc3));have HL:=zh (hl.same hS);have hmx:(cs.length:Int)<=9223372036854775807:=by have:=hl.len;unfold maxLen at this;omega
 have HJ2:Hid (∀k A B,J k A.heap.size A->Turned (fun _=>False) A B->J k B.heap.size B):=zh fun k A B h ht=>hJm _ _ _ _ (hJ k _ A B h (Nat.le_refl _) ht) ht.size
 have HJ3:Hid (∀k A B,J k A.heap.size A->Turned (fun _=>False) A B->J k A.heap.size B):=zh fun k A B h ht=>hJ k _ A B h (Nat.le_refl _) ht
 have HY:=zh hY;have HJ0:=zh hJ0;replace HI:=zh HI;replace HN:=zh HN;obtain⟨n,hn⟩ : ∃n,cs.length=n:=⟨_,rfl⟩;have HNN:=zh hn;rw[hn] at hmx HC HY HI HN ⊢;have g1:=HC.out.1;clear hkeep h1 h2 h3 hS hJm hJ hJx hY hends hl hc1 hc2 hc3 hn hJ0 hsz hNw
 gi_wp2
 gi_loopw [9] (fun i wr=>∃k:Nat,k<=n/\i=(.int .i64 k)/\Hid (J ((List.range k).filter op).length wr.heap.size wr/\Same N W wr/\N<=wr.heap.size)) (fun i wr=>n-(intOf i).toNat)
 case atStart=>exact⟨0,Nat.zero_le _,rfl,zh ⟨HJ0.out,fun _ _=>rfl,HNW.out⟩⟩
 case round =>
  clear g1;obtain⟨k,hk,rfl,HH⟩:=hrel;by_cases hlt:k < n
  ·have hu:cs[k]? = some (cs[k]'(by rw[HNN.out];exact hlt)):=List.getElem?_eq_getElem _
   obtain⟨⟨pl,rk,⟨un,ux,ud⟩⟩,hur⟩ : ∃u,cs[k]'(by rw[HNN.out];exact hlt)=u:=⟨_,rfl⟩
   rw[hur] at hu;have hpl:(cs.map (·.place)).getD k 0=pl:=by rw[List.getD_eq_getElem?_getD,List.getElem?_map,hu];rfl
   obtain⟨b,a,rfl,-,e0,e1,e2,e3,e4⟩:=(HL.out.same HH.out.2.1).claims hu;have HPL:=zh hpl;have HSU:=zh (filt_succ op k);have HB:Hid (∀A,Turned (fun _=>False) wr A->Same N W A/\N<=A.heap.size/\Same N w A):=zh fun A ht=>by
    have h1:Same N W A:=HH.out.2.1.trans (ht.same HH.out.2.2 fun _ _ h=>h)
    exact⟨h1,Nat.le_trans HH.out.2.2 ht.size,HST.out.trans h1⟩
   have t1:=(zr wr).alloc (.cells #[.int .i64 pl,.int .i64 rk,.bool un,.string ux,.string ud] 75);have hcs:=fun A (ht:Turned (fun _=>False) wr A)=>((HB.out A ht).1.cell (o:=0) HCN.out.2.1).trans HC.out.2.1
   have hcn:=fun A (ht:Turned (fun _=>False) wr A)=>((HB.out A ht).1.cell (o:=0) HCN.out.2.2).trans HC.out.2.2
   have HCS:=zh hcs;have HCNF:=zh hcn;clear hu hur hpl hcs hcn;have z1:=World.alloc_heap_new wr (.cells #[.int .i64 pl,.int .i64 rk,.bool un,.string ux,.string ud] 75);obtain⟨w1,hw1⟩ : ∃w1,w1=wr.alloc (.cells #[.int .i64 pl,.int .i64 rk,.bool un,.string ux,.string ud] 75):=⟨_,rfl⟩;have HT1:Hid (Turned (fun _=>False) wr w1):=zh (by rw[hw1];exact t1)
   rw[<- hw1] at z1;have d2:=HCS.out w1.drew HT1.out.drew;have d3:=HCNF.out w1.drew HT1.out.drew;have d4:=(by simp[World.cell?,keepB ((zr w1).drew) z1]:w1.drew.cell? ⟨wr.heap.size,0,none⟩=some (.int .i64 pl))
   have HIk:=zh (fun W h1 h2=>HI.out k W hlt h1 h2)
   have HNk:=zh (fun W h1 h2=>HN.out k W hlt h1 h2)
   clear t1 z1;by_cases ho:op k=true
   ·rw[ho] at HIk;have HYk:=zh (fun W1 (ht:Turned (fun _=>False) wr W1)=>HY.out _ wr.heap.size k W1 (HJ3.out _ _ _ HH.out.1 ht) ht.size (filt_at op hlt ho))
    simp only[cEncs,HPL.out] at HYk
    gi_wp2
    rw[<- hw1];clear hw1
    gi_region_with (first
     | (refine⟨trivial,rfl,(callsIn_wide.2 (HIk.out _ (HB.out _ HT1.out.drew).2.2 (HB.out _ HT1.out.drew).2.1)).mono ?_⟩;rintro e w' ⟨rfl,rfl⟩)
     | (refine⟨rfl,HR2.out.mono ?_⟩;rintro e W4 ⟨bb,rfl,HQ⟩)
     | (refine⟨trivial,rfl,(callsIn_wide.2 (HNk.out _ (HB.out _ HT1.out.drew).2.2 (HB.out _ HT1.out.drew).2.1)).mono ?_⟩;rintro e w2 ⟨rfl,t2⟩;have d5:=cellT t2 id d4;have T2:=zh (HT1.out.drew.trans t2);obtain⟨fn,tmps,assign,body,hy,hR⟩:=HYk.out w2 T2.out;have HR2:=zh (hR.mono fun e W4 h=>yield_two h);clear hR t2))
    all_goals
     clear HIk HNk HYk HR2 HPL d2 d3 d4 d5 hy;cases bb
     ·have hq:=HQ.out.2 rfl;have HQ2:=zh hq;clear HQ hq
      gi_wp2
      refine bodyPost_ret (results_none rfl _ _ _) rfl ?_;exact⟨⟨_,rfl⟩,.inr HQ2.out⟩
     ·have HH2:Hid (J ((List.range (k+1)).filter op).length W4.heap.size W4/\Same N W W4/\N<=W4.heap.size):=zh (by
       obtain⟨hj4,hk4⟩:=HQ.out.1 rfl;have hb2:=HB.out w2 T2.out;rw[HSU.out,if_pos ho];exact⟨hj4,hb2.1.trans fun i hi=>hk4.block i (.inl (.inl hi)),Nat.le_trans hb2.2.1 hk4.size⟩)
      clear HQ
      gi_wp2
      go_roundw
      case rel=>exact⟨k+1,by omega,by go_num,HH2⟩
      case measure=>simp[intOf];omega
   ·have ho2:op k=false:=by simpa using ho
    rw[ho2] at HIk
    gi_wp2
    rw[<- hw1];clear hw1
    first
    | (gi_region_with (first
     | (refine⟨trivial,rfl,(callsIn_wide.2 (HIk.out _ (HB.out _ HT1.out.drew).2.2 (HB.out _ HT1.out.drew).2.1)).mono ?_⟩;rintro e w' ⟨rfl,rfl⟩)
     | (refine⟨fun _ h=>(by cases h),?_⟩)))
    | fail
    all_goals
     have HH2:Hid (J ((List.range (k+1)).filter op).length w1.drew.heap.size w1.drew/\Same N W w1.drew/\N<=w1.drew.heap.size):=zh (by
      have hb2:=HB.out _ HT1.out.drew;rw[HSU.out,if_neg ho,Nat.add_zero];exact⟨HJ2.out _ _ _ HH.out.1 HT1.out.drew,hb2.1,hb2.2.1⟩)
     gi_wp2
     go_roundw
     case rel=>exact⟨k+1,by omega,by go_num,HH2⟩
     case measure=>simp[intOf];omega
  ·obtain rfl:k=n:=by omega
   have HF:Hid (J ((List.range k).filter op).length wr.heap.size wr):=zh HH.out.1
   gi_wp2
   go_end0
   exact⟨⟨_,rfl⟩,.inl HF.out⟩
end Go.Proofs.YtanhhdndgkhcfaaGreatDoor
