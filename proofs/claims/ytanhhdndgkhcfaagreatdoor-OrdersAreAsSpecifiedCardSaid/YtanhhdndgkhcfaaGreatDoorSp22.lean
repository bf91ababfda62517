/- Part 22 of the proof of lawSpec.card: NatRefD, NatRefE, NatRefF, RatRefA. Conditions: those of each theorem. -/
import Derived.Test.YtanhhdndgkhcfaaGreatDoorSp01
import Derived.Test.YtanhhdndgkhcfaaGreatDoorSp21
set_option maxRecDepth 20000
set_option maxHeartbeats 4000000
namespace Go.Proofs.YtanhhdndgkhcfaaGreatDoor
open Go Go.Proofs Go.RowKit
attribute [local go_sem] Oper.semAt_some
theorem dgL_part(s:ByteArray) (k:Nat):∃H,natB s=vL 256 (dgL s k)+256 ^ k*H:=by
 have h1:∀j,∃H,vL 256 (dgL s (k+j))=vL 256 (dgL s k)+256 ^ k*H:=fun j=>by
  induction j with
  | zero=>exact⟨0,by simp⟩
  | succ j ih =>
   obtain⟨H,h⟩:=ih;refine⟨H+256 ^ j*dgt s (k+j),?_⟩;rw[<- Nat.add_assoc,dgL_succ,vL_snoc,h,dgL_len,Nat.pow_add,Nat.mul_add,Nat.mul_assoc,Nat.add_assoc]
 obtain⟨H,h⟩:=h1 s.size;exact⟨H,by rw[<- h,dgL_val (by omega)]⟩
theorem dgL_small{s:ByteArray} {k:Nat} (h:natB s < 256 ^ k):vL 256 (dgL s k)=natB s:=by
 obtain⟨H,h1⟩:=dgL_part s k;rcases Nat.eq_zero_or_pos H with h2 | h2
 ·rw[h2] at h1;omega
 ·have:256 ^ k*1<=256 ^ k*H:=Nat.mul_le_mul_left _ h2;omega
structure SubR (a b:ByteArray) (k:Nat) (L:List Nat) (c:Nat):Prop where
 len:L.length=k
 lt:∀d∈L,d < 256
 car:c<=1
 val:vL 256 L+vL 256 (dgL b k)=vL 256 (dgL a k)+256 ^ k*c
theorem SubR.start(a b:ByteArray):SubR a b 0 [] 0:=⟨rfl,fun _ h=>(by cases h),by omega,rfl⟩
theorem SubR.step{a b:ByteArray} {k:Nat} {L:List Nat} {c d e:Nat} (h:SubR a b k L c) (hd:d < 256) (he:e<=1) (hv:d+dgt b k+c=dgt a k+256*e):SubR a b (k+1) (L++[d]) e:=by
 refine⟨by rw[List.length_append,h.len];rfl,snoc_lt h.lt hd,he,?_⟩
 have h4:=h.val;rw[dgL_succ,dgL_succ,vL_snoc,vL_snoc,vL_snoc,h.len,dgL_len,dgL_len,Nat.pow_succ,Nat.mul_assoc];have e2:256 ^ k*(d+dgt b k+c)=256 ^ k*(dgt a k+256*e):=by rw[hv]
 rw[Nat.mul_add,Nat.mul_add,Nat.mul_add] at e2;omega
theorem SubR.done{a b:ByteArray} {L:List Nat} {c:Nat} (h:SubR a b a.size L c) (hle:natB b<=natB a):vL 256 L=natB a-natB b:=by
 have h1:=h.val;have h2:=natB_lt a;rw[dgL_all,dgL_small (by omega)] at h1
 have h3:vL 256 L < 256 ^ a.size:=by have:=vL_lt (b:=256) (by decide) h.lt;rwa [h.len] at this
 rcases Nat.eq_zero_or_pos c with h4 | h4
 ·rw[h4] at h1;omega
 ·have:256 ^ a.size*1<=256 ^ a.size*c:=Nat.mul_le_mul_left _ h4;omega
theorem box2'{w:World} {b t:Nat} {x y:Value} (h:w.heap[b]? = some (.cells #[x,y] t (0,0))):w.cell? ⟨b,0,none⟩=some x/\w.cell? ⟨b,1,none⟩=some y/\w.frozen? ⟨b,0,none⟩=false/\w.frozen? ⟨b,1,none⟩=false:=by
 simp[World.cell?,World.frozen?,h]
theorem set2'{w:World} {b t:Nat} {x y:Value} (h:w.heap[b]? = some (.cells #[x,y] t (0,0))) (u v:Value):((w.setCell ⟨b,0,none⟩ u).setCell ⟨b,1,none⟩ v).heap[b]? = some (.cells #[u,v] t (0,0))/\Turned (fun k=>k=b) w ((w.setCell ⟨b,0,none⟩ u).setCell ⟨b,1,none⟩ v):=by
 refine⟨?_,((Turned.refl (fun k=>k=b) w).setCell (p:=⟨b,0,none⟩) rfl u).setCell (p:=⟨b,1,none⟩) rfl v⟩
 rw[set_block (set_block h 0 u) 1 v];rfl
theorem mSub_any(a b:ByteArray) (W:World) (ha:a.size<=400000000) (hb:b.size<=400000000) (hle:natB b<=natB a):Calls Tryz.prog 83 #[.string a,.string b] W fun e w'=>e=.returned (.agg #[.string (encB (natB a-natB b)),.int .i64 0])/\Turned (fun _=>False) W w':=by
 have HC:=zh (fun W=>mCmp_any a b W (by omega) (by omega))
 obtain⟨z,hz⟩ : ∃z,cmpZ (natB a) (natB b)=z:=⟨_,rfl⟩;have hz0:0<=z:=by rw[<- hz];unfold cmpZ;rw[if_neg (by omega)];split <;> omega
 have hz1:decide (z < 0)=false:=decide_eq_false (by omega)
 rw[hz] at HC;have HLE:=zh hle;clear hz hz0 hle;have T0:=(zr W).alloc (.cells #[.string ⟨#[]⟩,.int .i64 0] 133);have N0:=World.alloc_heap_new W (.cells #[.string ⟨#[]⟩,.int .i64 0] 133);go_enter Tryz.func83,Tryz.ntmps83
 go_upto_region 1 with fail
 obtain⟨w0,hw0⟩ : ∃w,w=W.alloc (.cells #[.string ⟨#[]⟩,.int .i64 0] 133):=⟨_,rfl⟩;rw[<- hw0] at T0 N0 ⊢;obtain⟨B,hB⟩ : ∃o,W.heap.size=o:=⟨_,rfl⟩;rw[hB] at N0 ⊢;have H0:=zh (And.intro T0 (And.intro N0 hB));clear hw0 T0 N0 hB;go_wp2_with fail;refine(HC.out _).mono ?_;rintro e w1 ⟨rfl,rfl⟩;go_wp2_with fail
 go_loopw [5,6,7] (fun v x i wr=>∃(k:Nat) (L:List Nat) (q:Option Addr) (d c:Nat),k<=a.size/\i=(.int .i64 k)/\x=(.int .i64 c)/\v=.slice q k d/\Hid (SubR a b k L c/\Grown wr w1.heap.size 3 1 intCells (.slice q k d) (natsI L)/\Turned (fun _=>False) w1 wr)) (fun _ _ i _=>a.size-(intOf i).toNat)
 case atStart=>exact⟨0,[],none,0,0,Nat.zero_le _,rfl,rfl,rfl,zh ⟨SubR.start a b,Grown.nil _ _ _ _ _,Turned.refl _ _⟩⟩
 case round =>
  obtain⟨k,L,q,d,c,hk,rfl,rfl,rfl,HI⟩:=hrel;by_cases hlt:k < a.size
  ·have hk0:(k:Int) < a.size:=by omega
   have hlL:=HI.out.1.len;have hcar:=HI.out.1.car;obtain⟨x,hx⟩ : ∃x,dgt a k=x:=⟨_,rfl⟩;obtain⟨y,hy⟩ : ∃y,dgt b k=y:=⟨_,rfl⟩;have hx2:x < 256:=by rw[<- hx];exact dgt_lt a k
   have hy2:y < 256:=by rw[<- hy];exact dgt_lt b k
   have HDA:=zh (fun W=>mDigit_any a k W (by omega))
   have HDB:=zh (fun W=>mDigit_any b k W (by omega))
   rw[hx] at HDA;rw[hy] at HDB;obtain⟨s1,hs1⟩ : ∃s1:Int,(x:Int)-y=s1:=⟨_,rfl⟩;have e1:IntKind.i64.wrap ((x:Int)-y)=s1:=by rw[<- hs1];exact IntWalk.i64_in _ (by omega)
   obtain⟨s2,hs2⟩ : ∃s2:Int,s1-(c:Int)=s2:=⟨_,rfl⟩;have e2:IntKind.i64.wrap (s1-(c:Int))=s2:=by rw[hs2];exact IntWalk.i64_in _ (by omega)
   by_cases hn:s2 < 0
   ·obtain⟨r,hr⟩ : ∃r:Nat,s2+256=(r:Int):=⟨(s2+256).toNat,by omega⟩
    have e3:IntKind.i64.wrap (s2+256)=(r:Int):=by rw[hr];exact IntWalk.i64_in _ (by omega)
    have HST:=zh (HI.out.1.step (d:=r) (e:=1) (by omega) (by omega) (by omega))
    clear hx hy hs1 hs2 hr;go_wp2_with fail;refine(HDA.out _).mono ?_;rintro e w2 ⟨rfl,rfl⟩;go_wp2_with fail;refine(HDB.out _).mono ?_;rintro e w2 ⟨rfl,rfl⟩;go_wp2_with (at_builtin;(refine app_nat w2 rfl _ _ rfl w1.heap.size k (.slice q k d) r L hlL rfl rfl HI.out.2.1 HI.out.2.2.size (by omega) ?_);intro q' d' w4 ho4 ht4;have HS:=zh (And.intro ho4 ht4);clear ho4 ht4)
    go_roundw
    case rel=>exact⟨k+1,L++[r],q',d',1,by omega,by go_num,rfl,rfl,zh ⟨HST.out,HS.out.1,HI.out.2.2.fresh HS.out.2 fun _=>id⟩⟩
    case measure=>simp[intOf];omega
   ·obtain⟨r,hr⟩ : ∃r:Nat,s2=(r:Int):=⟨s2.toNat,by omega⟩
    subst hr;have HST:=zh (HI.out.1.step (d:=r) (e:=0) (by omega) (by omega) (by omega))
    clear hx hy hs1 hs2;go_wp2_with fail;refine(HDA.out _).mono ?_;rintro e w2 ⟨rfl,rfl⟩;go_wp2_with fail;refine(HDB.out _).mono ?_;rintro e w2 ⟨rfl,rfl⟩;go_wp2_with (at_builtin;(refine app_nat w2 rfl _ _ rfl w1.heap.size k (.slice q k d) r L hlL rfl rfl HI.out.2.1 HI.out.2.2.size (by omega) ?_);intro q' d' w4 ho4 ht4;have HS:=zh (And.intro ho4 ht4);clear ho4 ht4)
    go_roundw
    case rel=>exact⟨k+1,L++[r],q',d',0,by omega,by go_num,rfl,rfl,zh ⟨HST.out,HS.out.1,HI.out.2.2.fresh HS.out.2 fun _=>id⟩⟩
    case measure=>simp[intOf];omega
  ·have hk0:¬(k:Int) < a.size:=by omega
   obtain rfl:a.size=k:=by omega
   have hv:=HI.out.1.done HLE.out;have hn:=mNumber_any L q d wr.heap.size wr (HI.out.2.1.at' (fun _=>rfl) (Nat.le_refl _)) HI.out.1.lt (by rw[HI.out.1.len];omega)
   rw[hv,HI.out.1.len] at hn;have HNN:=zh hn;clear hn hv;go_wp2_with fail;refine HNN.out.mono ?_;rintro e w5 ⟨rfl,t5⟩;have HT:=zh (HI.out.2.2.trans t5);have hb5:=keepB HT.out H0.out.2.1;obtain⟨k0,k1,k2,k3⟩:=box2' hb5;obtain⟨v,hv⟩ : ∃v,encB (natB a-natB b)=v:=⟨_,rfl⟩;rw[hv];have HZ:=zh (set2' hb5 (.string v) (.int .i64 0));have HV:=zh hv;clear t5 hb5 hv;go_wp2_with fail;refine bodyPost_ret (results_cell_row (fn:=Tryz.f83) rfl _ _ B 133 #[.string v,.int .i64 0] (0,0) _ rfl HZ.out.1 Tryz.underlying133 rfl (by kernel_rfl)) rfl ?_
   exact⟨by rw[HV.out],(H0.out.1.trans HT.out).fresh HZ.out.2 fun g hg=>by rw[hg,H0.out.2.2];exact Nat.le_refl _⟩
theorem conv_one(W:World) (r:Nat) (hr:r < 256):(convert 178 9 (.slice (some ⟨W.heap.size,0,none⟩) 1 1)).run Tryz.prog (W.alloc (.cells #[.int .u8 (r:Int)] 5))=.ok (.string ⟨#[UInt8.ofNat r]⟩) (W.alloc (.cells #[.int .u8 (r:Int)] 5)):=by
 have h0:=World.alloc_heap_new W (.cells #[.int .u8 (r:Int)] 5);exact run_convert_bytes_back (P:=Tryz.prog) _ 178 9 5 ⟨W.heap.size,0,none⟩ 1 [UInt8.ofNat r] Tryz.underlying178 Tryz.underlying5 Tryz.underlying9 fun j hj=>by
  have hj0:j=0:=by simpa using hj
  subst hj0;have e:(⟨W.heap.size,0,none⟩ : Addr).add 0=⟨W.heap.size,0,none⟩:=by simp[Addr.add]
  rw[e];simp only[World.cell?,h0,zz1,byte_nat r hr];rfl
theorem mInt_any(n:Nat) (W:World) (hn:n<=999999999999999):Calls Tryz.prog 139 #[.int .i64 n] W fun e w'=>e=.returned (.agg #[.string (encB n),.int .i64 0])/\Turned (fun _=>False) W w':=by
 have T0:=(zr W).alloc (.cells #[.string ⟨#[]⟩,.int .i64 0] 133);have N0:=World.alloc_heap_new W (.cells #[.string ⟨#[]⟩,.int .i64 0] 133);have hl8:(encN n).length<=8:=encN_len_le (by omega)
 have HL8:=zh hl8;have hn0:¬(n:Int) < 0:=by omega
 clear hl8;go_enter Tryz.func139,Tryz.ntmps139
 go_upto_region 1 with fail
 obtain⟨w0,hw0⟩ : ∃w,w=W.alloc (.cells #[.string ⟨#[]⟩,.int .i64 0] 133):=⟨_,rfl⟩;rw[<- hw0] at T0 N0 ⊢;obtain⟨B,hB⟩ : ∃o,W.heap.size=o:=⟨_,rfl⟩;rw[hB] at N0 ⊢;have H0:=zh (And.intro T0 (And.intro N0 hB));clear hw0 T0 N0 hB;go_wp2_with fail
 go_loopw [0,3] (fun v s wr=>∃(m:Nat) (acc:ByteArray),m<=999999999999999/\v=(.int .i64 m)/\s=.string acc/\Hid (encN n=encN m++acc.data.toList/\Turned (fun _=>False) w0 wr)) (fun v _ _=>(intOf v).toNat)
 case atStart=>exact⟨n,⟨#[]⟩,hn,rfl,rfl,zh ⟨by simp,Turned.refl _ _⟩⟩
 case round =>
  obtain⟨m,acc,hm,rfl,rfl,HI⟩:=hrel;have hacc:acc.size<=8:=by
   have h1:=congrArg List.length HI.out.1;rw[List.length_append] at h1;have h2:acc.data.toList.length=acc.size:=by simp
   have:=HL8.out;omega
  by_cases hm0:m=0
  ·subst hm0;have hb0:=keepB HI.out.2 H0.out.2.1;obtain⟨k0,k1,k2,k3⟩:=box2' hb0;have HZ:=zh (set2' hb0 (.string acc) (.int .i64 0));have HV:Hid (acc=encB n):=zh (bytes_of (by
    have h1:=HI.out.1;rw[encN_zero,List.nil_append] at h1;exact h1.symm))
   clear hb0;go_wp2_with fail;refine bodyPost_ret (results_cell_row (fn:=Tryz.f139) rfl _ _ B 133 #[.string acc,.int .i64 0] (0,0) _ rfl HZ.out.1 Tryz.underlying133 rfl (by kernel_rfl)) rfl ?_
   exact⟨by rw[HV.out],(H0.out.1.trans HI.out.2).fresh HZ.out.2 fun g hg=>by rw[hg,H0.out.2.2];exact Nat.le_refl _⟩
  ·have hmp:(0:Int) < m:=by omega
   obtain⟨r,hr⟩ : ∃r,m % 256=r:=⟨_,rfl⟩;obtain⟨u,hu⟩ : ∃u,m / 256=u:=⟨_,rfl⟩;have hr2:r < 256:=by omega
   have e3:(m:Int).tmod 256=(r:Int):=by rw[Int.tmod_eq_emod_of_nonneg (by omega)];omega
   have e4:(m:Int).tdiv 256=(u:Int):=by rw[Int.tdiv_eq_ediv_of_nonneg (by omega)];omega
   have e5:IntKind.u8.wrap (r:Int)=(r:Int):=by show(r:Int) % 256=r;omega
   have hcv:=conv_one wr r hr2;have ad:∀W:World,(Op.stringOp .add ⟨#[UInt8.ofNat r]⟩ acc).run Tryz.prog W=.ok (.string (⟨#[UInt8.ofNat r]⟩++acc)) W:=fun W=>run_string_add_sum W _ acc (by show 1+acc.size<=_;omega)
   have HN:Hid (encN n=encN u++(⟨#[UInt8.ofNat r]⟩++acc:ByteArray).data.toList):=zh (by
    rw[HI.out.1,encN_pos hm0,hr,hu];simp)
   have hum:u < m:=by omega
   clear hr hu;go_wp2_with fail
   go_roundw
   case rel=>exact⟨u,_,by omega,rfl,rfl,zh ⟨HN.out,HI.out.2.alloc _⟩⟩
   case measure=>simp[intOf];omega
def intRow (L:List Nat):Array Value:=(L.map fun n:Nat=>((.int .i64 n):Value)).toArray
def OwnI (W:World) (g:Nat) (L:List Nat):Prop:=W.heap[g]? = some (.cells (intRow L) 3 (0,0))
theorem OwnI.lt{W:World} {g:Nat} {L:List Nat} (h:OwnI W g L):g < W.heap.size:=getElem?_lt h
theorem OwnI.cell{W:World} {g:Nat} {L:List Nat} (h:OwnI W g L) {i:Nat} {x:Nat} (hi:L[i]? = some x):W.cell? ⟨g,i,none⟩=some (.int .i64 x):=by
 simp only[World.cell?,show W.heap[g]? = _ from h];simp[intRow,hi]
theorem OwnI.free{W:World} {g:Nat} {L:List Nat} (h:OwnI W g L) (o:Nat):W.frozen? ⟨g,o,none⟩=false:=by simp[World.frozen?,show W.heap[g]? = _ from h]
theorem OwnI.turned{W W':World} {g:Nat} {L:List Nat} (h:OwnI W g L) {C:Nat->Prop} (ht:Turned C W W') (hC:¬C g):OwnI W' g L:=(ht.block g h.lt hC).trans h
theorem OwnI.set{W:World} {g:Nat} {L:List Nat} (h:OwnI W g L) (i d:Nat):OwnI (W.setCell ⟨g,i,none⟩ (.int .i64 d)) g (L.set i d):=by
 unfold OwnI;rw[set_block h i (.int .i64 d)];unfold intRow;rw[List.map_set];simp
theorem OwnI.at_{W:World} {g:Nat} {L:List Nat} (h:OwnI W g L) (hm:L.length<=maxLen):At W.heap.size W 1 intCells (natsI L) (some ⟨g,0,none⟩) L.length :=
 ⟨by rw[natsI_len];exact Nat.le_refl _,hm,fun i x hi=>⟨g,0,rfl,h.lt,fun j v hj=>by
  unfold natsI at hi;rw[List.getElem?_map] at hi;obtain⟨y,hy,rfl⟩:=Option.map_eq_some_iff.1 hi;have hj0:j=0:=by
   have:=(List.getElem?_eq_some_iff.1 hj).1;simpa using this
  subst hj0;cases hj
  have:=h.cell hy;simpa using this⟩⟩
structure MulR (a b:ByteArray) (i:Nat) (L:List Nat):Prop where
 len:L.length=a.size+b.size+1
 lt:∀d∈L,d < 256
 val:vL 256 L=vL 256 (dgL a i)*natB b
structure RowR (a b:ByteArray) (i k:Nat) (L:List Nat) (c:Nat):Prop where
 len:L.length=a.size+b.size+1
 lt:∀d∈L,d < 256
 car:c<=255
 val:vL 256 L+256 ^ (i+k)*c=vL 256 (dgL a i)*natB b+256 ^ i*(dgt a i*vL 256 (dgL b k))
theorem MulR.start(a b:ByteArray):MulR a b 0 (List.replicate (a.size+b.size+1) 0) :=
 ⟨by simp,fun d hd=>by rw[(List.mem_replicate.1 hd).2];decide,by rw[vL_zeros];show 0=0*natB b;omega⟩
theorem MulR.row{a b:ByteArray} {i:Nat} {L:List Nat} (h:MulR a b i L):RowR a b i 0 L 0:=⟨h.len,h.lt,by omega,by rw[h.val];show _+_*0=_+_*(_*0);omega⟩
theorem RowR.step{a b:ByteArray} {i k:Nat} {L:List Nat} {c x:Nat} (h:RowR a b i k L c) (hx:L[i+k]? = some x) :
  RowR a b i (k+1) (L.set (i+k) ((x+dgt a i*dgt b k+c) % 256)) ((x+dgt a i*dgt b k+c) / 256)/\x+dgt a i*dgt b k+c<=65535:=by
 have h1:x < 256:=h.lt _ (List.mem_of_getElem? hx);have h2:dgt a i*dgt b k<=255*255:=Nat.mul_le_mul (by have:=dgt_lt a i;omega) (by have:=dgt_lt b k;omega)
 have h3:=h.car;have h4:x+dgt a i*dgt b k+c<=65535:=by omega
 obtain⟨n,hn⟩ : ∃n,x+dgt a i*dgt b k+c=n:=⟨_,rfl⟩;refine⟨⟨by rw[List.length_set];exact h.len,fun d hd=>?_,by omega,?_⟩,h4⟩
 ·rcases List.mem_or_eq_of_mem_set hd with hd | rfl
  ·exact h.lt d hd
  ·exact Nat.mod_lt _ (by decide)
 ·have h5:=vL_set 256 L (i+k) (n % 256) (List.getElem?_eq_some_iff.1 hx).1;rw[digAt_some hx] at h5;have h6:=h.val;rw[hn,dgL_succ,vL_snoc,dgL_len];have e1:256 ^ (i+k)*(n % 256)+256 ^ (i+(k+1))*(n / 256)=256 ^ (i+k)*n:=by
   rw[<- Nat.add_assoc,Nat.pow_succ,Nat.mul_assoc,<- Nat.mul_add]
   congr 1
   omega
  have e2:256 ^ (i+k)*n=256 ^ (i+k)*x+256 ^ (i+k)*(dgt a i*dgt b k)+256 ^ (i+k)*c:=by rw[<- hn,Nat.mul_add,Nat.mul_add]
  have e3:256 ^ i*(dgt a i*(vL 256 (dgL b k)+256 ^ k*dgt b k))=256 ^ i*(dgt a i*vL 256 (dgL b k))+256 ^ (i+k)*(dgt a i*dgt b k):=by
   rw[Nat.mul_add,Nat.mul_add,Nat.pow_add]
   congr 1
   rw[<- Nat.mul_assoc (dgt a i),Nat.mul_comm (dgt a i) (256 ^ k),Nat.mul_assoc,<- Nat.mul_assoc]
  rw[e3];omega
theorem RowR.done{a b:ByteArray} {i:Nat} {L:List Nat} {c:Nat} (h:RowR a b i (b.size+1) L c):MulR a b (i+1) L:=by
 refine⟨h.len,h.lt,?_⟩;have h1:=h.val;rw[dgL_val (show b.size<=b.size+1 by omega)] at h1
 have e1:vL 256 (dgL a (i+1))*natB b=vL 256 (dgL a i)*natB b+256 ^ i*(dgt a i*natB b):=by
  rw[dgL_succ,vL_snoc,dgL_len,Nat.add_mul,Nat.mul_assoc]
 rw[<- e1] at h1;rcases Nat.eq_zero_or_pos c with h2 | h2
 ·rw[h2] at h1;omega
 ·exfalso;have h3:vL 256 (dgL a (i+1)) < 256 ^ (i+1):=by have:=vL_lt (b:=256) (by decide) (dgL_lt a (i+1));rwa [dgL_len] at this
  have h4:=natB_lt b;have h5:vL 256 (dgL a (i+1))*natB b < 256 ^ (i+1)*256 ^ b.size:=Nat.mul_lt_mul'' h3 h4;have h6:256 ^ (i+(b.size+1))*1<=256 ^ (i+(b.size+1))*c:=Nat.mul_le_mul_left _ h2;rw[show i+(b.size+1)=(i+1)+b.size by omega,Nat.pow_add] at h1 h6
  omega
theorem MulR.done{a b:ByteArray} {L:List Nat} (h:MulR a b a.size L):vL 256 L=natB a*natB b:=by rw[h.val,dgL_all]
theorem mMul_any(a b:ByteArray) (W:World) (ha:a.size<=400000000) (hb:b.size<=400000000):Calls Tryz.prog 79 #[.string a,.string b] W fun e w'=>e=.returned (.string (encB (natB a*natB b)))/\Turned (fun _=>False) W w':=by
 obtain⟨n,hn⟩ : ∃n,a.size+b.size+1=n:=⟨_,rfl⟩;obtain⟨s1,hs1⟩ : ∃s1:Int,(a.size:Int)+b.size=s1:=⟨_,rfl⟩;have e1:IntKind.i64.wrap ((a.size:Int)+b.size)=s1:=by rw[hs1];exact IntWalk.i64_in _ (by omega)
 have e2:IntKind.i64.wrap (s1+1)=(n:Int):=by rw[show s1+1=(n:Int) by omega];exact IntWalk.i64_in _ (by omega)
 have HN:=zh hn;have hn8:n<=900000000:=by omega
 clear hn hs1;have hmk:∀w:World,(Instr.makeSlice 44 (.int .i64 n) (.int .i64 n)).run Tryz.prog w=.ok (.slice (some ⟨w.heap.size,0,none⟩) n n) (w.alloc (.cells (intRow (List.replicate n 0)) 3)):=fun w=>by
  obtain⟨i0,hif,hz0,hz1,hz2⟩:=info_parts infoInt;have h:=run_make (P:=Tryz.prog) w 44 3 i0 (.int .i64 0) Tryz.underlying44 hif hz0 .i64 .i64 n n (by omega) (Int.le_refl _) (by rw[hz2];omega) (by omega)
  have e:madeCells #[.int .i64 0] (n*1)=intRow (List.replicate n 0):=by
   unfold intRow;apply Array.ext
   ·rw[size_madeCells];simp
   ·intro i h1 h2;rw[size_madeCells] at h1;simp[madeCells,Nat.mod_one]
  rw[<- e];simpa [hz1,Value.cells] using h
 go_enter Tryz.func79,Tryz.ntmps79;go_wp2_with fail;obtain⟨w0,hw0⟩ : ∃w,w=W.alloc (.cells (intRow (List.replicate n 0)) 3):=⟨_,rfl⟩;have T0:=(zr W).alloc (.cells (intRow (List.replicate n 0)) 3);have N0:OwnI (W.alloc (.cells (intRow (List.replicate n 0)) 3)) W.heap.size (List.replicate n 0):=World.alloc_heap_new W _;rw[<- hw0] at T0 N0 ⊢;obtain⟨g,hg⟩ : ∃o,W.heap.size=o:=⟨_,rfl⟩;rw[hg] at N0 ⊢;have H0:=zh (And.intro T0 (And.intro N0 hg));clear hw0 T0 N0 hg hmk e1 e2
 go_loopw [6] (fun i wr=>∃(i':Nat) (L:List Nat),i'<=a.size/\i=(.int .i64 i')/\Hid (MulR a b i' L/\OwnI wr g L/\Turned (fun k=>k=g) w0 wr)) (fun i _=>a.size-(intOf i).toNat)
 case atStart=>exact⟨0,List.replicate n 0,Nat.zero_le _,rfl,zh ⟨by rw[<- HN.out];exact MulR.start a b,H0.out.2.1,Turned.refl _ _⟩⟩
 case round =>
  obtain⟨i,L,hi,rfl,HI⟩:=hrel;by_cases hlt:i < a.size
  ·have hi0:(i:Int) < a.size:=by omega
   have HDA:=zh (fun W=>(mDigit_any a i W (by omega)).mono fun e w' h=>(⟨h.1,h.2.symm⟩ : e=.returned (.int .i64 (dgt a i))/\W=w'))
   obtain⟨x,hx⟩ : ∃x,dgt a i=x:=⟨_,rfl⟩;have hx2:x < 256:=by rw[<- hx];exact dgt_lt a i
   rw[hx] at HDA;have HX:=zh hx;clear hx;obtain⟨wo,rfl⟩ : ∃wo,wo=wr:=⟨_,rfl⟩;go_wp2_with fail
   go_loopw [7,8] (fun c k wr=>∃(k' c':Nat) (M:List Nat),k'<=b.size+1/\k=(.int .i64 k')/\c=(.int .i64 c')/\Hid (RowR a b i k' M c'/\OwnI wr g M/\Turned (fun k=>k=g) w0 wr)) (fun _ k _=>b.size+1-(intOf k).toNat)
   case atStart=>exact⟨0,0,L,Nat.zero_le _,rfl,rfl,zh ⟨HI.out.1.row,HI.out.2.1,HI.out.2.2⟩⟩
   case round =>
    obtain⟨k,c,M,hk,rfl,rfl,HJ⟩:=hrel;by_cases hkl:k<=b.size
    ·have hk0:(k:Int)<=b.size:=by omega
     have hml:=HJ.out.1.len;have hm:M[i+k]? = some (M[i+k]'(by omega)):=List.getElem?_eq_getElem _
     obtain⟨z,hz⟩ : ∃z,M[i+k]'(by omega)=z:=⟨_,rfl⟩
     rw[hz] at hm;obtain⟨hst,hbd⟩:=HJ.out.1.step hm;have HDB:=zh (fun W=>(mDigit_any b k W (by omega)).mono fun e w' h=>(⟨h.1,h.2.symm⟩ : e=.returned (.int .i64 (dgt b k))/\W=w'))
     have hz2:=HJ.out.1.lt _ (List.mem_of_getElem? hm);have hy2:=dgt_lt b k;have hcar:=HJ.out.1.car;rw[HX.out] at hst hbd;obtain⟨y,hy⟩ : ∃y,dgt b k=y:=⟨_,rfl⟩;rw[hy] at hst hbd HDB hy2;obtain⟨p,hp⟩ : ∃p,x*y=p:=⟨_,rfl⟩;have hpi:(x:Int)*(y:Int)=(p:Int):=by rw[<- hp,Int.natCast_mul]
     rw[hp] at hst hbd;obtain⟨j,hj⟩ : ∃j,i+k=j:=⟨_,rfl⟩;rw[hj] at hm hst;have hjn:j < n:=by have:=HN.out;omega
     obtain⟨t,ht⟩ : ∃t,z+p+c=t:=⟨_,rfl⟩;rw[ht] at hst hbd;obtain⟨r,hr⟩ : ∃r,t % 256=r:=⟨_,rfl⟩;obtain⟨u,hu⟩ : ∃u,t / 256=u:=⟨_,rfl⟩;rw[hr,hu] at hst;obtain⟨s2,hs2⟩ : ∃s2:Int,(z:Int)+p=s2:=⟨_,rfl⟩;have e1:IntKind.i64.wrap ((i:Int)+k)=(j:Int):=by rw[show(i:Int)+k=(j:Int) by omega];exact IntWalk.i64_in _ (by omega)
     have EJ:=zh e1;have e2:IntKind.i64.wrap ((x:Int)*y)=(p:Int):=by rw[hpi];exact IntWalk.i64_in _ (by omega)
     have e3:IntKind.i64.wrap ((z:Int)+p)=s2:=by rw[hs2];exact IntWalk.i64_in _ (by omega)
     have e4:IntKind.i64.wrap (s2+(c:Int))=(t:Int):=by rw[show s2+(c:Int)=(t:Int) by omega];exact IntWalk.i64_in _ (by omega)
     have e5:(t:Int).tmod 256=(r:Int):=by rw[Int.tmod_eq_emod_of_nonneg (by omega)];omega
     have e6:(t:Int).tdiv 256=(u:Int):=by rw[Int.tdiv_eq_ediv_of_nonneg (by omega)];omega
     have hu2:u<=255:=by omega
     have hj0:(0:Int)<=j:=by omega
     have hj1:(j:Int) < n:=by omega
     have HST:=zh hst;have HD:=HJ.out.2.1.turned (zr wr).drew id;have HK0:=zh (HD.cell hm);have HOW:=zh HD;have HFZ:=zh (And.intro (HD.free j) (HD.cell hm));have HE5:=zh (And.intro e5 e6);clear hm hst hbd hz hy hp hpi hj ht hr hu hs2 HD e5 e6
     go_upto_region 9 with fail
     go_region_held3 (fun V=>V.cell? ⟨g,j,none⟩=some (.int .i64 z))
      (first | exact HK0.out | go_keep)
      (first
       | (have hq:=HM1;clear hq;go_at_call 110;refine(HDB.out _).mono ?_;rintro e w2 ⟨rfl,rfl⟩)
       | (go_at_call 110;refine(HDA.out _).mono ?_;rintro e w2 ⟨rfl,rfl⟩;have HM1:=zh True.intro))
     obtain⟨wd,hwd⟩ : ∃w,w=wr.drew:=⟨_,rfl⟩;obtain⟨hfz,hcz⟩:=HFZ.out;obtain⟨e5,e6⟩:=HE5.out;rw[<- hwd] at hfz hcz ⊢;have HWD:Hid (OwnI wd g M/\Turned (fun k=>k=g) w0 wd):=zh (by rw[hwd];exact⟨HOW.out,HJ.out.2.2.drew⟩)
     clear hwd e1 e2 e3 e4 HK0;have e1:IntKind.i64.wrap ((i:Int)+k)=(j:Int):=EJ.out;go_wp2_with fail;exact⟨⟨k+1,u,M.set j r,by omega,by go_num,rfl,zh ⟨HST.out,HWD.out.1.set j r,HWD.out.2.setCell (p:=⟨g,j,none⟩) rfl _⟩⟩,by simp[intOf];omega⟩
    ·obtain rfl:k=b.size+1:=by omega
     have HM:=zh HJ.out.1.done;have hk0:¬((b.size+1:Nat):Int)<=b.size:=by omega
     go_wp2_with fail;exact⟨⟨i+1,M,by omega,by go_num,zh ⟨HM.out,HJ.out.2.1,HJ.out.2.2⟩⟩,by simp[intOf];omega⟩
  ·have hi0:¬(i:Int) < a.size:=by omega
   obtain rfl:a.size=i:=by omega
   have hv:=HI.out.1.done;have hlL:L.length=n:=by rw[HI.out.1.len,HN.out]
   have hn:=mNumber_any L (some ⟨g,0,none⟩) L.length wr.heap.size wr (HI.out.2.1.at_ (by rw[hlL];unfold maxLen;omega)) HI.out.1.lt (by omega)
   rw[hv,hlL] at hn;have HNN:=zh hn;clear hn hv hlL;go_wp2_with fail;refine HNN.out.mono ?_;rintro e w5 ⟨rfl,t5⟩;have HT:=zh ((H0.out.1.fresh HI.out.2.2 fun k hk=>by rw[hk,H0.out.2.2];exact Nat.le_refl _).trans t5)
   clear t5;go_wp2_with fail;go_ret;exact⟨rfl,HT.out⟩
theorem run_field_made(a b:Value) (w:World):(Instr.field 133 (.agg #[a,b]) 0).run Tryz.prog w=.ok a w:=by kernel_rfl
theorem run_field_rem(a b c:Value) (w:World):(Instr.field 156 (.agg #[a,b,c]) 1).run Tryz.prog w=.ok b w:=by kernel_rfl
theorem natB_snoc(r:ByteArray) (x:UInt8):natB (r++⟨#[x]⟩)=natB r*256+x.toNat:=by
 unfold natB;have:(r++⟨#[x]⟩ : ByteArray).data.toList=r.data.toList++[x]:=by simp
 rw[this,valB_snoc]
theorem extract_one{s:ByteArray} {k:Nat} (h:k < s.size):s.extract k (k+1)=⟨#[s[k]]⟩:=bytes_of (by
 have hl:k < s.data.toList.length:=by simpa using h
 simp only[ByteArray.data_extract,Array.toList_extract,List.extract_eq_take_drop];rw[List.drop_eq_getElem_cons hl,show k+1-k=1 by omega]
 rfl)
theorem encB_small{n k:Nat} (h:n < 256 ^ k):(encB n).size<=k:=encB_size h
def preV (s:ByteArray) (k:Nat):Nat:=valB (s.data.toList.take k)
theorem preV_succ{s:ByteArray} {k:Nat} (h:k < s.size):preV s (k+1)=preV s k*256+(s[k]).toNat:=by
 have hl:s.data.toList[k]? = some s[k]:=by
  rw[List.getElem?_eq_getElem (by simpa using h)]
  rfl
 exact take_byte hl
theorem preV_all(s:ByteArray):preV s s.size=natB s:=by
 unfold preV natB;rw[List.take_of_length_le (by simp)]
structure DivR (a:ByteArray) (d k:Nat) (q r:ByteArray):Prop where
 len:q.size=k
 quo:natB q=preV a k / d
 rem:r=encB (preV a k % d)
theorem div_next{P x d n v:Nat} (hd:0 < d) (h:v+n*d=P % d*256+x) (hv:v < d):(P*256+x) / d=P / d*256+n/\(P*256+x) % d=v:=by
 have e:P*256+x=v+(P / d*256+n)*d:=by
  have h1:=Nat.div_add_mod P d;rw[Nat.add_mul,Nat.mul_assoc,Nat.mul_comm 256 d,<- Nat.mul_assoc,Nat.mul_comm (P / d) d];omega
 rw[e];refine⟨?_,?_⟩
 ·rw[Nat.add_mul_div_right _ _ hd,Nat.div_eq_of_lt hv];omega
 ·rw[Nat.add_mul_mod_self_right,Nat.mod_eq_of_lt hv]
theorem mDivMod_any(a b:ByteArray) (W:World) (ha:a.size<=300000000) (hb:b.size<=300000000) (h0:natB b≠0):Calls Tryz.prog 113 #[.string a,.string b] W fun e w'=>e=.returned (.agg #[.string (encB (natB a / natB b)),.string (encB (natB a % natB b)),.int .i64 0])/\Turned (fun _=>False) W w':=by
 have HCB:=zh (fun W=>mClean_any b W (by omega))
 obtain⟨d,hd⟩ : ∃d,natB b=d:=⟨_,rfl⟩;have hdl:=natB_lt b;rw[hd] at HCB h0 hdl ⊢;have hne:¬(encB d).toList=[]:=by
  rw[encB_list];intro h;exact h0 (encN_inj (h.trans encN_zero.symm))
 have hne2:(encB d).toList.isEmpty=false:=by simpa using hne
 have HD:=zh (And.intro hd (And.intro hdl (Nat.pos_of_ne_zero h0)));obtain⟨eb,heb⟩ : ∃e,encB d=e:=⟨_,rfl⟩;rw[heb] at HCB hne hne2;clear hd hdl h0 heb;have T0:=(zr W).alloc (.cells #[.string ⟨#[]⟩,.string ⟨#[]⟩,.int .i64 0] 156);have N0:=World.alloc_heap_new W (.cells #[.string ⟨#[]⟩,.string ⟨#[]⟩,.int .i64 0] 156);go_enter Tryz.func113,Tryz.ntmps113
 go_upto_region 1 with fail
 obtain⟨w0,hw0⟩ : ∃w,w=W.alloc (.cells #[.string ⟨#[]⟩,.string ⟨#[]⟩,.int .i64 0] 156):=⟨_,rfl⟩;rw[<- hw0] at T0 N0 ⊢;obtain⟨B,hB⟩ : ∃o,W.heap.size=o:=⟨_,rfl⟩;rw[hB] at N0 ⊢;have H0:=zh (And.intro T0 (And.intro N0 hB));clear hw0 T0 N0 hB;go_wp2_with fail;refine(HCB.out _).mono ?_;rintro e w1 ⟨rfl,rfl⟩;go_wp2_with fail;clear hne hne2
 go_loopw [5,6,7] (fun u v i wr=>∃(k:Nat) (q r:ByteArray),k<=a.size/\i=(.int .i64 k)/\u=.string q/\v=.string r/\Hid (DivR a d k q r/\Turned (fun _=>False) w1 wr)) (fun _ _ i _=>a.size-(intOf i).toNat)
 case atStart=>exact⟨0,⟨#[]⟩,⟨#[]⟩,Nat.zero_le _,rfl,rfl,rfl,zh ⟨⟨rfl,by show 0=0 / d;simp,by show _=encB (0 % d);rw[Nat.zero_mod,encB_zero]⟩,Turned.refl _ _⟩⟩
 case round =>
  obtain⟨k,q,r,hk,rfl,rfl,rfl,HI⟩:=hrel;by_cases hlt:k < a.size
  ·have hk0:(k:Int) < a.size:=by omega
   have hk00:(0:Int)<=k:=by omega
   obtain⟨k1,hkk⟩ : ∃k1,k+1=k1:=⟨_,rfl⟩;have hk1:(k:Int)<=k1:=by omega
   have hk2:(k1:Int)<=a.size:=by omega
   have ek:IntKind.i64.wrap ((k:Int)+1)=(k1:Int):=by rw[show(k:Int)+1=(k1:Int) by omega];exact IntWalk.i64_in _ (by omega)
   obtain⟨x,hx⟩ : ∃x,a[k]=x:=⟨_,rfl⟩;have hex:=extract_one hlt;rw[hx,hkk] at hex;obtain⟨m,hm⟩ : ∃m,preV a k % d*256+x.toNat=m:=⟨_,rfl⟩;have hrd:preV a k % d < d:=Nat.mod_lt _ HD.out.2.2;have hrs:r.size<=b.size:=by rw[HI.out.1.rem];exact encB_small (Nat.lt_trans hrd HD.out.2.1)
   have hxl:=x.toNat_lt;have hmd:m < d*256:=by have h1:preV a k % d*256<=(d-1)*256:=Nat.mul_le_mul_right _ (by omega);rw[Nat.sub_mul] at h1;omega
   have HMD:=zh (And.intro hm (And.intro hmd hx));have hrc:natB (r++⟨#[x]⟩)=m:=by rw[natB_snoc,HI.out.1.rem,natB_encB,hm]
   have hsz:(r++⟨#[x]⟩ : ByteArray).size<=1000000000:=by rw[ByteArray.size_append];show r.size+1<=_;omega
   have HCR:=zh (fun W=>mClean_any (r++⟨#[x]⟩) W hsz)
   rw[hrc] at HCR;have ad:∀W:World,(Op.stringOp .add r ⟨#[x]⟩).run Tryz.prog W=.ok (.string (r++⟨#[x]⟩)) W:=fun W=>run_string_add_sum W r ⟨#[x]⟩ (by show r.size+1<=_;omega)
   clear hx hm hrd hmd hrc hsz hxl hkk;go_wp2_with fail;refine(HCR.out _).mono ?_;rintro e w2 ⟨rfl,rfl⟩;go_wp2_with fail;clear ek ad hex hk1 hk2
   go_loopw [6,8] (fun v n wv=>∃(n' v':Nat),n=(.int .i64 n')/\v=.string (encB v')/\Hid (v'+n'*d=m/\Turned (fun _=>False) w1 wv)) (fun v _ _=>match v with | .string s=>natB s | _=>0)
   case atStart=>exact⟨0,m,rfl,rfl,zh ⟨by omega,HI.out.2⟩⟩
   case round =>
    obtain⟨n,v,rfl,rfl,HJ⟩:=hrel;have hvm:v<=m:=by have:=HJ.out.1;omega
    have hn256:n < 256:=by
     have h1:=HJ.out.1;have h2:n*d < 256*d:=by have:=HMD.out.2.1;omega
     exact Nat.lt_of_mul_lt_mul_right h2
    have hvs:(encB v).size<=b.size+1:=by
     refine encB_small ?_;have h1:=HMD.out.2.1;have h2:d*256<=256 ^ b.size*256:=Nat.mul_le_mul_right _ (Nat.le_of_lt HD.out.2.1);rw[Nat.pow_succ];omega
    have HCM:=zh (fun W=>mCmp_any (encB v) b W (by omega) (by omega))
    rw[natB_encB,HD.out.1] at HCM;by_cases hvd:d<=v
    ·have HSB:=zh (fun W=>mSub_any (encB v) b W (by omega) (by omega) (by rw[natB_encB,HD.out.1];exact hvd))
     rw[natB_encB,HD.out.1] at HSB;have hz:(0:Int)<=cmpZ v d:=by unfold cmpZ;rw[if_neg (by omega)];split <;> omega
     obtain⟨z,hzz⟩ : ∃z,cmpZ v d=z:=⟨_,rfl⟩;rw[hzz] at hz HCM;have HV:=zh hvd;have HNS:Hid ((v-d)+(n+1)*d=m):=zh (by have h1:=HJ.out.1;rw[Nat.add_mul];omega)
     have hfd:=fun w=>run_field_made (.string (encB (v-d))) (.int .i64 0) w
     clear hzz hvd hvm;go_wp2_with fail;refine(HCM.out _).mono ?_;rintro e w3 ⟨rfl,rfl⟩;go_wp2_with fail;refine(HSB.out _).mono ?_;rintro e w4 ⟨rfl,t4⟩;have HT4:=zh (HJ.out.2.trans t4);clear t4;go_wp2_with fail
     go_roundw
     case rel=>exact⟨n+1,v-d,by go_num,rfl,zh ⟨HNS.out,HT4.out⟩⟩
     case measure=>show natB (encB (v-d)) < natB (encB v);rw[natB_encB,natB_encB];have:=HV.out;have:=HD.out.2.2;omega
    ·have hz:¬(0:Int)<=cmpZ v d:=by unfold cmpZ;rw[if_pos (by omega)];decide
     obtain⟨z,hzz⟩ : ∃z,cmpZ v d=z:=⟨_,rfl⟩;rw[hzz] at hz HCM;have e5:IntKind.u8.wrap (n:Int)=(n:Int):=by show(n:Int) % 256=n;omega
     have hcv:=conv_one wr n hn256;have hqs:=HI.out.1.len;have ad:∀W:World,(Op.stringOp .add q ⟨#[UInt8.ofNat n]⟩).run Tryz.prog W=.ok (.string (q++⟨#[UInt8.ofNat n]⟩)) W:=fun W=>run_string_add_sum W q _ (by show q.size+1<=_;omega)
     have HDN:Hid (DivR a d (k+1) (q++⟨#[UInt8.ofNat n]⟩) (encB v)):=zh (by
      have hnx:=div_next (P:=preV a k) (x:=x.toNat) HD.out.2.2 (HJ.out.1.trans HMD.out.1.symm) (by omega)
      have hps:preV a (k+1)=preV a k*256+x.toNat:=by rw[preV_succ hlt,HMD.out.2.2]
      refine⟨by rw[ByteArray.size_append,hqs];rfl,?_,?_⟩
      ·rw[natB_snoc,HI.out.1.quo,byte_nat n hn256,hps,hnx.1]
      ·rw[hps,hnx.2])
     clear hzz hvd hvm hqs;go_wp2_with fail;refine(HCM.out _).mono ?_;rintro e w3 ⟨rfl,rfl⟩;go_wp2_with fail
     go_roundw
     case rel=>exact⟨k+1,_,_,by omega,by go_num,rfl,rfl,zh ⟨HDN.out,HJ.out.2.alloc _⟩⟩
     case measure=>simp[intOf];omega
  ·have hk0:¬(k:Int) < a.size:=by omega
   obtain rfl:a.size=k:=by omega
   have hqv:=HI.out.1.quo;have hrv:=HI.out.1.rem;rw[preV_all] at hqv hrv;have HCQ:=zh (fun W=>mClean_any q W (by rw[HI.out.1.len];omega))
   rw[hqv] at HCQ;have hb0:=keepB HI.out.2 H0.out.2.1;obtain⟨c0,c1,c2,c3,c4,c5⟩:=box3 hb0;obtain⟨y,hy⟩ : ∃y,encB (natB a / d)=y:=⟨_,rfl⟩;rw[hy] at HCQ;have HZ:=zh (set3 hb0 (.string y) (.string r) (.int .i64 0));have HV:=zh (And.intro hy hrv);clear hb0 hy hqv hrv;go_wp2_with fail;refine(HCQ.out _).mono ?_;rintro e w3 ⟨rfl,rfl⟩;go_wp2_with fail;refine bodyPost_ret (results_cell_row (fn:=Tryz.f113) rfl _ _ B 156 #[.string y,.string r,.int .i64 0] (0,0) _ rfl HZ.out.1 Tryz.underlying156 rfl (by kernel_rfl)) rfl ?_
   exact⟨by rw[HV.out.1,<- HV.out.2],(H0.out.1.trans HI.out.2).fresh HZ.out.2 fun g hg=>by rw[hg,H0.out.2.2];exact Nat.le_refl _⟩
theorem encB_not_nil{n:Nat} (h:n≠0):¬(encB n).toList=[]/\(encB n).toList.isEmpty=false:=by
 have hne:¬(encB n).toList=[]:=by
  rw[encB_list];intro h1;exact h (encN_inj (h1.trans encN_zero.symm))
 exact⟨hne,by simpa using hne⟩
theorem mGcd_any(a b:ByteArray) (W:World) (ha:a.size<=300000000) (hb:b.size<=300000000):Calls Tryz.prog 95 #[.string a,.string b] W fun e w'=>e=.returned (.string (encB (Nat.gcd (natB a) (natB b))))/\Turned (fun _=>False) W w':=by
 have HCA:=zh (fun W=>mClean_any a W (by omega))
 have HCB:=zh (fun W=>mClean_any b W (by omega))
 obtain⟨A,hA⟩ : ∃A,natB a=A:=⟨_,rfl⟩;obtain⟨D,hD⟩ : ∃D,natB b=D:=⟨_,rfl⟩;have hsa:(encB A).size<=300000000:=Nat.le_trans (encB_small (by rw[<- hA];exact natB_lt a)) ha
 have hsb:(encB D).size<=300000000:=Nat.le_trans (encB_small (by rw[<- hD];exact natB_lt b)) hb
 rw[hA] at HCA ⊢;rw[hD] at HCB ⊢;have HS:=zh (And.intro hsa hsb);clear hA hD ha hb hsa hsb;go_enter Tryz.func95,Tryz.ntmps95;go_wp2_with fail;refine(HCA.out _).mono ?_;rintro e w1 ⟨rfl,rfl⟩;go_wp2_with fail;refine(HCB.out _).mono ?_;rintro e w2 ⟨rfl,rfl⟩;go_wp2_with fail
 go_loopw [5,6] (fun x y wr=>∃m n:Nat,x=.string (encB m)/\y=.string (encB n)/\Hid ((Nat.gcd m n=Nat.gcd A D/\(encB m).size<=300000000/\(encB n).size<=300000000)/\Turned (fun _=>False) w2 wr)) (fun _ y _=>match y with | .string s=>natB s | _=>0)
 case atStart=>exact⟨A,D,rfl,rfl,zh ⟨⟨rfl,HS.out.1,HS.out.2⟩,Turned.refl _ _⟩⟩
 case round =>
  obtain⟨m,n,rfl,rfl,HI⟩:=hrel;by_cases hn:n=0
  ·subst hn;have HV:Hid (m=Nat.gcd A D):=zh (by rw[<- HI.out.1.1,Nat.gcd_zero_right])
   rw[encB_zero];go_wp2_with fail;go_ret;exact⟨by rw[<- HV.out];rfl,HI.out.2⟩
  ·obtain⟨f1,f2⟩:=encB_not_nil hn;have HDM:=zh (fun W=>mDivMod_any (encB m) (encB n) W HI.out.1.2.1 HI.out.1.2.2 (by rw[natB_encB];exact hn))
   rw[natB_encB,natB_encB] at HDM;have hlt:m % n < n:=Nat.mod_lt _ (by omega)
   have HN:=zh (And.intro hlt (show Nat.gcd n (m % n)=Nat.gcd A D by rw[<- HI.out.1.1,Nat.gcd_comm m n,Nat.gcd_rec n m,Nat.gcd_comm]))
   have hfd:=fun w=>run_field_rem (.string (encB (m / n))) (.string (encB (m % n))) (.int .i64 0) w
   have HSZ:Hid ((encB (m % n)).size<=300000000):=zh (Nat.le_trans (encB_small (Nat.lt_trans hlt (by have:=natB_lt (encB n);rwa [natB_encB] at this))) HI.out.1.2.2)
   clear hn hlt;go_wp2_with fail;refine(HDM.out _).mono ?_;rintro e w3 ⟨rfl,t3⟩;have HT3:=zh (HI.out.2.trans t3);clear t3;go_wp2_with fail
   go_roundw
   case rel=>exact⟨n,m % n,rfl,rfl,zh ⟨⟨HN.out.2,HI.out.1.2.2,HSZ.out⟩,HT3.out⟩⟩
   case measure=>show natB (encB (m % n)) < natB (encB n);rw[natB_encB,natB_encB];exact HN.out.1
attribute [local go_sem ↓] run_eql_rat' run_neq_rat'
theorem encB_one':encB 1=⟨#[1]⟩:=by unfold encB;rw[encN_pos (by decide),show 1 / 256=0 from rfl,encN_zero];rfl
theorem pValid_any(u:Rv) (W:World) (hn:u.num.size<=300000000) (hd:u.den.size<=300000000):Calls Tryz.prog 52 #[ratV u] W fun e w'=>e=.returned (.bool (decide (validR u)))/\Turned (fun _=>False) W w':=by
 obtain⟨neg,num,den⟩:=u;have T0:=zh ((zr W).alloc (.cells #[.bool neg,.string num,.string den] 68));have N0:=zh (World.alloc_heap_new W (.cells #[.bool neg,.string num,.string den] 68));have hg:=rat_guard;by_cases h1:num=⟨#[]⟩
 ·have hv:Hid (decide (validR ⟨neg,num,den⟩)=sameR ⟨neg,num,den⟩ ⟨false,⟨#[]⟩,⟨#[]⟩⟩):=zh (by simp[validR,goodR,sameR,zeroR,h1])
  subst h1;go_enter Tryz.func52,Tryz.ntmps52;go_wp2_with fail;go_ret;exact⟨by rw[hv.out];rfl,T0.out⟩
 obtain⟨l1,l2⟩:=bytes_ne h1;by_cases h2:den=⟨#[]⟩
 ·have hv:Hid (decide (validR ⟨neg,num,den⟩)=sameR ⟨neg,num,den⟩ ⟨false,⟨#[]⟩,⟨#[]⟩⟩):=zh (by simp[validR,goodR,sameR,zeroR,h2])
  subst h2;clear h1;go_enter Tryz.func52,Tryz.ntmps52;go_wp2_with fail;go_ret;exact⟨by rw[hv.out];rfl,T0.out⟩
 obtain⟨l3,l4⟩:=bytes_ne h2;have hz:(⟨neg,num,den⟩ : Rv)≠zeroR:=fun h=>h1 (congrArg Rv.num h)
 have hvg:decide (validR ⟨neg,num,den⟩)=decide (goodR ⟨neg,num,den⟩):=by simp[validR,hz]
 rw[hvg];have HV1:=zh (fun W=>mValid_any num W (Nat.le_trans hn (by decide)))
 have HV2:=zh (fun W=>mValid_any den W (Nat.le_trans hd (by decide)))
 have HG:=zh (fun W=>mGcd_any num den W hn hd)
 obtain⟨g,hg1⟩ : ∃g,Nat.gcd (natB num) (natB den)=g:=⟨_,rfl⟩;rw[hg1] at HG;obtain⟨b1,hb1⟩ : ∃b,decide (encB (natB num)=num)=b:=⟨_,rfl⟩;obtain⟨b2,hb2⟩ : ∃b,decide (encB (natB den)=den)=b:=⟨_,rfl⟩;rw[hb1] at HV1;rw[hb2] at HV2;have HGD:Hid (decide (goodR ⟨neg,num,den⟩)=(b1 && b2 && decide (g=1))):=zh (by
  rw[<- hb1,<- hb2,<- hg1];simp[goodR,h1,h2];rw[Bool.and_assoc])
 obtain⟨G,hG⟩ : ∃G,encB g=G:=⟨_,rfl⟩;have hg3:(G.toList == [1])=decide (g=1):=by
  have e2:(⟨#[1]⟩ : ByteArray).toList=[1]:=by rw[ByteArray.toList_eq]
  rw[<- e2,Bool.eq_iff_iff,beq_iff_eq,toList_inj',decide_eq_true_eq,<- hG,<- encB_one'];exact⟨encB_inj,congrArg _⟩
 rw[hG] at HG;obtain⟨v,hv4⟩ : ∃v,decide (g=1)=v:=⟨_,rfl⟩;rw[hv4] at hg3 HGD;obtain⟨d0,d1,d2,-,-,-⟩:=box3 N0.out;clear hz hvg h1 h2 hg1 hG hv4 hb1 hb2 hn hd;go_enter Tryz.func52,Tryz.ntmps52
 go_upto_region 3 with fail
 obtain⟨w0,hw0⟩ : ∃w,w=W.alloc (.cells #[.bool neg,.string num,.string den] 68):=⟨_,rfl⟩;have T1:Hid (Turned (fun _=>False) W w0):=by rw[hw0];exact T0
 rw[<- hw0] at d0 d1 d2 ⊢;clear T0 N0 hw0;go_wp2_with fail;refine(HV1.out _).mono ?_;rintro e w1 ⟨rfl,rfl⟩;go_wp2_with fail;refine(HV2.out _).mono ?_;rintro e w2 ⟨rfl,rfl⟩;cases b1 with
 | false =>
  go_wp2_with fail;go_ret;exact⟨by rw[HGD.out];rfl,T1.out⟩
 | true =>
  cases b2 with
  | false =>
   go_wp2_with fail;go_ret;exact⟨by rw[HGD.out];rfl,T1.out⟩
  | true =>
   go_wp2_with fail;refine(HG.out _).mono ?_;rintro e w3 ⟨rfl,t3⟩;have HT:=zh (T1.out.trans t3);clear t3;go_wp2_with fail;go_ret;exact⟨by rw[HGD.out];simp,HT.out⟩
theorem clean_rep(u:Rv):repR (qR u)=if validR u then u else zeroR:=by
 split
 ·rename_i h;exact repR_qR h
 ·rename_i h
  rw[qR_invalid fun g=>h (Or.inr g),repR_zero]
theorem pClean_any(u:Rv) (W:World) (hn:u.num.size<=300000000) (hd:u.den.size<=300000000):Calls Tryz.prog 77 #[ratV u] W fun e w'=>e=.returned (ratV (repR (qR u)))/\Turned (fun _=>False) W w':=by
 have HV:=zh (fun W=>pValid_any u W hn hd)
 have HC:=zh (clean_rep u);obtain⟨neg,num,den⟩:=u;obtain⟨v,hv⟩ : ∃v,decide (validR ⟨neg,num,den⟩)=v:=⟨_,rfl⟩;rw[hv] at HV;have HD:=zh hv;clear hn hd hv;have T0:=((zr W).alloc (.cells #[.bool neg,.string num,.string den] 68)).alloc (.cells #[.bool false,.string ⟨#[]⟩,.string ⟨#[]⟩] 68);have n0:=new_first W (.cells #[.bool neg,.string num,.string den] 68) (.cells #[.bool false,.string ⟨#[]⟩,.string ⟨#[]⟩] 68);have n1:=new_second W (.cells #[.bool neg,.string num,.string den] 68) (.cells #[.bool false,.string ⟨#[]⟩,.string ⟨#[]⟩] 68);go_enter Tryz.func77,Tryz.ntmps77
 go_upto_region 1 with fail
 obtain⟨w0,hw0⟩ : ∃w,w=(W.alloc (.cells #[.bool neg,.string num,.string den] 68)).alloc (.cells #[.bool false,.string ⟨#[]⟩,.string ⟨#[]⟩] 68):=⟨_,rfl⟩;rw[<- hw0] at T0 n0 n1 ⊢;obtain⟨B,hB⟩ : ∃o,W.heap.size=o:=⟨_,rfl⟩;rw[hB] at n0 n1 ⊢;have H0:=zh (And.intro T0 (And.intro n0 (And.intro n1 hB)));obtain⟨c0,c1,c2,-,-,-⟩:=box3 n0;clear hw0 T0 n0 n1 hB;go_wp2_with fail;refine(HV.out _).mono ?_;rintro e w1 ⟨rfl,t1⟩;have HT:=zh t1;have hb0:=keepB t1 H0.out.2.1;have hb1:=keepB t1 H0.out.2.2.1;clear c0 c1 c2 t1;obtain⟨c0,c1,c2,-,-,-⟩:=box3 hb0;obtain⟨k0,k1,k2,k3,k4,k5⟩:=box3 hb1;cases v with
 | true =>
  have HZ:=zh (set3 hb1 (.bool neg) (.string num) (.string den));clear hb0 hb1;go_wp2_with fail;refine bodyPost_ret (results_cell_row (fn:=Tryz.f77) rfl _ _ (B+1) 68 #[.bool neg,.string num,.string den] (0,0) _ rfl HZ.out.1 Tryz.underlying68 rfl (by kernel_rfl)) rfl ?_
  exact⟨by rw[HC.out,if_pos (of_decide_eq_true HD.out)],(H0.out.1.trans HT.out).fresh HZ.out.2 fun g hg=>by have h1:=H0.out.2.2.2;omega⟩
 | false =>
  have HZ:=zh (set3 hb1 (.bool false) (.string ⟨#[]⟩) (.string ⟨#[]⟩));clear hb0 hb1;go_wp2_with fail;refine bodyPost_ret (results_cell_row (fn:=Tryz.f77) rfl _ _ (B+1) 68 #[.bool false,.string ⟨#[]⟩,.string ⟨#[]⟩] (0,0) _ rfl HZ.out.1 Tryz.underlying68 rfl (by kernel_rfl)) rfl ?_
  exact⟨by rw[HC.out,if_neg (of_decide_eq_false HD.out)];rfl,(H0.out.1.trans HT.out).fresh HZ.out.2 fun g hg=>by have h1:=H0.out.2.2.2;omega⟩
theorem repR_parts(q:Rat):(q=0/\repR q=zeroR)\/(q≠0/\repR q=⟨decide (q.num < 0),encB q.num.natAbs,encB q.den⟩/\encB q.num.natAbs≠⟨#[]⟩):=by
 by_cases h:q=0
 ·exact .inl ⟨h,by rw[h,repR_zero]⟩
 ·have h1:q.num.natAbs≠0:=by
   intro h2;exact h (Rat.num_eq_zero.1 (Int.natAbs_eq_zero.1 h2))
  refine .inr ⟨h,?_,fun h2=>h1 (encB_nil.1 h2)⟩
  unfold repR lowR;rw[if_neg h1,q.reduced];simp
theorem pParts_any(q:Rat) (W:World):Calls Tryz.prog 78 #[ratV (repR q)] W fun e w'=>e=.returned (.tuple #[.string (encB q.num.natAbs),.string (encB q.den)])/\Turned (fun _=>False) W w':=by
 rcases repR_parts q with⟨rfl,h2⟩ | ⟨h1,h2,h3⟩
 ·rw[h2,show(0:Rat).num.natAbs=0 from rfl,show(0:Rat).den=1 from rfl,encB_zero,encB_one'];show Calls Tryz.prog 78 #[.agg #[.bool false,.string ⟨#[]⟩,.string ⟨#[]⟩]] W _;go_enter Tryz.func78,Tryz.ntmps78;go_wp2_with fail
  go_ret2
  exact⟨rfl,(Turned.refl _ W).alloc _⟩
 ·rw[h2];obtain⟨l1,l2⟩:=bytes_ne h3;obtain⟨n,hn⟩ : ∃n,encB q.num.natAbs=n:=⟨_,rfl⟩;obtain⟨d,hd⟩ : ∃d,encB q.den=d:=⟨_,rfl⟩;obtain⟨s,hs⟩ : ∃s,decide (q.num < 0)=s:=⟨_,rfl⟩;rw[hn] at l1 l2 ⊢;rw[hd,hs];clear h1 h2 h3 hn hd hs;show Calls Tryz.prog 78 #[.agg #[.bool s,.string n,.string d]] W _;go_enter Tryz.func78,Tryz.ntmps78;go_wp2_with fail
  go_quiet (fail)
  go_wp2_with fail
  go_ret2
  exact⟨rfl,((zr W).alloc _).trans (drewN_turned _ _ nq)⟩
theorem run_field_quo(a b c:Value) (w:World):(Instr.field 156 (.agg #[a,b,c]) 0).run Tryz.prog w=.ok a w:=by kernel_rfl
theorem pLowest_any(neg:Bool) (num den:ByteArray) (W:World) (hn:num.size<=200000000) (hd:den.size<=200000000) (h0:natB den≠0):Calls Tryz.prog 80 #[.bool neg,.string num,.string den] W fun e w'=>e=.returned (ratV (lowR neg (natB num) (natB den)))/\Turned (fun _=>False) W w':=by
 have HC:=zh (fun W=>mClean_any num W (by omega))
 obtain⟨n,hnn⟩ : ∃n,natB num=n:=⟨_,rfl⟩;have hns:(encB n).size<=200000000:=Nat.le_trans (encB_small (by rw[<- hnn];exact natB_lt num)) hn
 rw[hnn] at HC ⊢;have T0:=(zr W).alloc (.cells #[.bool false,.string ⟨#[]⟩,.string ⟨#[]⟩] 68);have N0:=World.alloc_heap_new W (.cells #[.bool false,.string ⟨#[]⟩,.string ⟨#[]⟩] 68);by_cases hz:n=0
 ·subst hz;have hv:lowR neg 0 (natB den)=zeroR:=by unfold lowR;rw[if_pos rfl]
  rw[hv];rw[encB_zero] at HC;have H0:=zh (And.intro T0 N0);clear hv hnn hns hn hd h0 T0 N0;go_enter Tryz.func80,Tryz.ntmps80
  go_upto_region 1 with fail
  obtain⟨w0,hw0⟩ : ∃w,w=W.alloc (.cells #[.bool false,.string ⟨#[]⟩,.string ⟨#[]⟩] 68):=⟨_,rfl⟩;have H1:Hid (Turned (fun _=>False) W w0/\w0.heap[W.heap.size]? = some (.cells #[.bool false,.string ⟨#[]⟩,.string ⟨#[]⟩] 68 (0,0))):=by rw[hw0];exact H0
  rw[<- hw0];clear H0 hw0;go_wp2_with fail;refine(HC.out _).mono ?_;rintro e w1 ⟨rfl,rfl⟩;obtain⟨k0,k1,k2,k3,k4,k5⟩:=box3 H1.out.2;have HZ:=zh (set3 H1.out.2 (.bool false) (.string ⟨#[]⟩) (.string ⟨#[]⟩));go_wp2_with fail;refine bodyPost_ret (results_cell_row (fn:=Tryz.f80) rfl _ _ W.heap.size 68 #[.bool false,.string ⟨#[]⟩,.string ⟨#[]⟩] (0,0) _ rfl HZ.out.1 Tryz.underlying68 rfl (by kernel_rfl)) rfl ?_
  exact⟨rfl,H1.out.1.fresh HZ.out.2 fun g hg=>by omega⟩
 ·obtain⟨l1,l2⟩:=encB_not_nil hz;have HG:=zh (fun W=>mGcd_any (encB n) den W (by omega) (by omega))
  obtain⟨d,hdd⟩ : ∃d,natB den=d:=⟨_,rfl⟩;rw[natB_encB,hdd] at HG;rw[hdd] at h0 ⊢;obtain⟨g,hg⟩ : ∃g,Nat.gcd n d=g:=⟨_,rfl⟩;have hg0:g≠0:=by rw[<- hg];exact fun h=>hz (Nat.eq_zero_of_gcd_eq_zero_left h)
  have hgs:(encB g).size<=200000000:=by
   refine Nat.le_trans (encB_small (n:=g) (k:=den.size) ?_) hd;have h1:g<=d:=by rw[<- hg];exact Nat.gcd_le_right _ (Nat.pos_of_ne_zero h0)
   have h2:=natB_lt den;omega
  have HD1:=zh (fun W=>mDivMod_any (encB n) (encB g) W (by omega) (by omega) (by rw[natB_encB];exact hg0))
  have HD2:=zh (fun W=>mDivMod_any den (encB g) W (by omega) (by omega) (by rw[natB_encB];exact hg0))
  rw[natB_encB,natB_encB] at HD1;rw[hdd,natB_encB] at HD2;rw[hg] at HG;have hv:lowR neg n d=⟨neg,encB (n / g),encB (d / g)⟩:=by unfold lowR;rw[if_neg hz,hg]
  rw[hv];have hf1:=fun w=>run_field_quo (.string (encB (n / g))) (.string (encB (n % g))) (.int .i64 0) w
  have hf2:=fun w=>run_field_quo (.string (encB (d / g))) (.string (encB (d % g))) (.int .i64 0) w
  obtain⟨y,hy⟩ : ∃y,encB (n / g)=y:=⟨_,rfl⟩;obtain⟨z,hzz⟩ : ∃z,encB (d / g)=z:=⟨_,rfl⟩;rw[hy] at HD1 hf1 ⊢;rw[hzz] at HD2 hf2 ⊢;have H0:=zh (And.intro T0 N0);clear hv hnn hns hn hd h0 T0 N0 hg hg0 hgs hdd hy hzz hz;go_enter Tryz.func80,Tryz.ntmps80
  go_upto_region 1 with fail
  obtain⟨w0,hw0⟩ : ∃w,w=W.alloc (.cells #[.bool false,.string ⟨#[]⟩,.string ⟨#[]⟩] 68):=⟨_,rfl⟩;have H1:Hid (Turned (fun _=>False) W w0/\w0.heap[W.heap.size]? = some (.cells #[.bool false,.string ⟨#[]⟩,.string ⟨#[]⟩] 68 (0,0))):=by rw[hw0];exact H0
  rw[<- hw0];clear H0 hw0;go_wp2_with fail;refine(HC.out _).mono ?_;rintro e w1 ⟨rfl,rfl⟩;go_wp2_with fail;refine(HG.out _).mono ?_;rintro e w2 ⟨rfl,t2⟩;have HT2:=zh t2;clear t2;go_wp2_with fail;refine(HD1.out _).mono ?_;rintro e w3 ⟨rfl,t3⟩;have HT3:=zh (HT2.out.trans t3);clear t3;go_wp2_with fail;refine(HD2.out _).mono ?_;rintro e w4 ⟨rfl,t4⟩;have HT4:=zh (HT3.out.trans t4);have hb:=keepB HT4.out H1.out.2;obtain⟨k0,k1,k2,k3,k4,k5⟩:=box3 hb;have HZ:=zh (set3 hb (.bool neg) (.string y) (.string z));clear t4 hb;go_wp2_with fail;refine bodyPost_ret (results_cell_row (fn:=Tryz.f80) rfl _ _ W.heap.size 68 #[.bool neg,.string y,.string z] (0,0) _ rfl HZ.out.1 Tryz.underlying68 rfl (by kernel_rfl)) rfl ?_
  exact⟨rfl,(H1.out.1.trans HT4.out).fresh HZ.out.2 fun g hg=>by omega⟩
end Go.Proofs.YtanhhdndgkhcfaaGreatDoor
