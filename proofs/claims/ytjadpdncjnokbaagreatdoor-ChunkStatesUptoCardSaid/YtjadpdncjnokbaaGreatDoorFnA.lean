/- Words of bits counted; the blocks of an allocator. -/
import Derived.Test.YtjadpdncjnokbaaGreatDoorSgC
set_option linter.all false
open List renaming length_map→Zc,length_append→Zd,length_cons→Zf,getElem_mem→Zz,length_nil→Zo,take_of_length_le→Z8,getElem?_eq_getElem→Zn,length_take→Zq,replicate→Z7,flatMap_cons→Zx,length_drop→Z5,map_append→Zp,Perm→Yn,flatMap_append→Yd,take_append_drop→Ym,length_eq_zero_iff→Yh,map_cons→Zr,length→Yi,mem_cons_of_mem→Zs,append_nil→Z9,append_assoc→Zu,mem_map→Zl,take_add_one→Jw,any_eq_false→V1,sum_append→J0,mem_cons→Zg,map_drop→V7,drop_zero→U7,drop_eq_getElem_cons→X7,map_set→Kn,length_set→Vk,flatMap_nil→Kq,flatten_append→Kr,take_length→Ul,drop_of_length_le→Vl,getElem?_map→Zy,mem_of_mem_take→V3,take_left→Kt,drop_left→Jy,mem_append→Zk,findIdx?_eq_some_iff_getElem→Zod,findIdx?_eq_none_iff→Kd,take_succ_eq_append_getElem→Xb,getElem_map→Yw,getElem?_eq_none→Xr,map_take→J2,sum_cons→Uo,cons_append→Y0
open Nat renaming zero_le→Zj,le_refl→Ze,le_of_not_lt→Xk,shiftRight_le→V2,shiftRight_eq_div_pow→Xe,and_le_right→Uk,le_trans→Ye,lt_succ_iff_lt_or_eq→Jz,lt_of_le_of_lt→V0,ble_eq_true_of_le→Z0,sub_zero→Yl,or_lt_two_pow→Jv,beq→Za,lt_or_ge→Zt,zero_add→Zw,pow_lt_pow_right→Ju,testBit_or→Jp,mul_le_mul_right→Yo,eq_zero_or_pos→Xi
open Bool renaming and_eq_true→Zi,or_eq_true→Yq,not_eq_true'→Xd,or_false→V6,true_and→X4,false_or→Vb,eq_false_iff→Zpu,or_true→Jd,not_false→U9,and_false→Vq,or_eq_false_iff→Vu,false_and→Xp
open Int renaming natCast_nonneg→Yk,toNat_natCast→Yp,ofNat_lt→Km,ofNat_inj→Zpv
open UInt8 renaming toNat_ofNat'→Jc,lt_irrefl→Zps,not_lt→Zpt
open Option renaming toList_some→Kp
namespace Go.Cis
open Go Go.Ax Go.Lx Go.Proofs
set_option maxRecDepth 100000
variable (L P:List Asn)
theorem Zcf :mk 8 85=6148914691236517205:=by decide
theorem Zcg :mk 8 51=3689348814741910323:=by decide
theorem Zch :mk 8 15=1085102592571150095:=by decide
theorem BB(n:Nat):n&&&127=n%128:=Nat.and_two_pow_sub_one_eq_mod n 7
theorem Zci{x a b c y:Nat}(hx:x<18446744073709551616)(ha:a=(x>>>1&&&6148914691236517205)+(x&&&6148914691236517205))(hb:b=(a>>>2&&&3689348814741910323)+(a&&&3689348814741910323))(hc:c=(b>>>4+b)&&&1085102592571150095)
  (hy:y=(c+c>>>8)+(c+c>>>8)>>>16+((c+c>>>8)+(c+c>>>8)>>>16)>>>32):y&&&127=pop 64 x:=by
 obtain⟨z,h1,h2,h3⟩:=Zle x hx;have e:z=c:=by
  rw[h1,hc,hb,ha];unfold Lx.st3 Lx.st2 Lx.st1;rw[Zcf,Zcg,Zch]
 rw[←h3,BB,hy,←e];simp only[Xe]
theorem Zcj(x:Nat)(hx:x<18446744073709551616):Sp SET 191 [.int .u64 (x:Nat)] L P (fun r L' P'=>r=.int .i64 (pop 64 x:Nat)∧L'=L∧P'=P):=by
 obtain⟨a,ha⟩:∃a,a=(x>>>1&&&6148914691236517205)+(x&&&6148914691236517205):=⟨_,rfl⟩;obtain⟨b,hb⟩:∃b,b=(a>>>2&&&3689348814741910323)+(a&&&3689348814741910323):=⟨_,rfl⟩;obtain⟨c,hc⟩:∃c,c=(b>>>4+b)&&&1085102592571150095:=⟨_,rfl⟩;obtain⟨y,hy⟩:∃y,y=(c+c>>>8)+(c+c>>>8)>>>16+((c+c>>>8)+(c+c>>>8)>>>16)>>>32:=⟨_,rfl⟩;have k1:x>>>1≤x:=V2 ..;have k2:x>>>1&&&6148914691236517205≤6148914691236517205:=Uk;have k3:x&&&6148914691236517205≤6148914691236517205:=Uk;have k4:a>>>2≤a:=V2 ..;have k5:a>>>2&&&3689348814741910323≤3689348814741910323:=Uk;have k6:a&&&3689348814741910323≤3689348814741910323:=Uk;have k7:b>>>4≤b:=V2 ..;have k7':b>>>4=b/16:=Xe ..
 have k8:c≤1085102592571150095:=by rw[hc];exact Uk
 have k9:c>>>8≤c:=V2 ..;have k10:(c+c>>>8)>>>16≤(c+c>>>8):=V2 ..;have m1:x>>>1<18446744073709551616:=V0 k1 hx;have m2:a<18446744073709551616:=by omega
 have m3:a>>>2<18446744073709551616:=V0 k4 m2;have m4:b≤7378697629483820646:=by omega
 have m5:b>>>4+b<18446744073709551616:=by omega
 have k11:((c+c>>>8)+(c+c>>>8)>>>16)>>>32≤((c+c>>>8)+(c+c>>>8)>>>16):=V2 ..;refine .bo (fn:=Tryz.f191) (N:=34) ?_;refine .seq (.region (.pu .as (.nil (.seq (.region (.pu .mv (.pu .shrN (.pu .andU (.pu .mv (.pu .andU (.pu .addN ?_)))))))))));rw[←ha];refine .pu .as (.nil (.seq (.region (.pu .mv (.pu .shrN (.pu .andU (.pu .mv (.pu .andU (.pu .addN ?_)))))))));rw[←hb];refine .pu .as (.nil (.seq (.region (.pu .mv (.pu .shrN (.pu .mv ?_))))));refine .pu (.addN (hr:=by simp only[InR];exact⟨Yk _,Km.2 m5⟩)) ?_;refine .pu .andU ?_;rw[←hc];refine .pu .as (.nil (.seq (.region (.pu .mv (.pu .mv (.pu .shrN (.pu .addN (.pu .as (.nil (.seq (.region (.pu .mv (.pu .mv (.pu .shrN (.pu .addN (.pu .as (.nil (.seq (.region (.pu .mv (.pu .mv (.pu .shrN (.pu .addN ?_)))))))))))))))))))))));rw[←hy];refine .pu .as (.nil (.seq (.region (.pu .mv (.pu .ci ?_)))))
 refine .pu (.i_and (hr:=by have e:Nat.land y 127=y&&&127:=rfl;rw[e,BB];simp only[InR];omega)) ?_;refine .pu .as (.nil (.ret ?_));exact⟨_,.tmp rfl .nil,_,_,.refl _ _,congrArg (fun n:Nat=>Value.int .i64 (n:Int)) (Zci hx ha hb hc hy),rfl,rfl⟩
def G5 :List Value:=Lib.deBruijn64tab.map fun n=>Value.int .u8 (n:Nat)
theorem e58 :(2:Nat)^58=288230376151711744:=by decide
theorem Zck{x k:Nat}(hl:x&&&(18446744073709551616-x)=2^k):((x&&&(18446744073709551616-x))*285870213051353865%18446744073709551616)>>>58=2^k*285870213051353865%18446744073709551616/288230376151711744:=by
 rw[hl,Xe,e58]
theorem Zcl{i k:Nat}(hi:i<64)(h:Lib.deBruijn64tab.getD i 0=k):G5[i]? =some (.int .u8 (k:Nat)):=by
 have h3:Lib.deBruijn64tab.length=64:=by decide
 have h4:=Zn (l:=Lib.deBruijn64tab) (i:=i) (by omega);rw[List.getD_eq_getElem?_getD,h4]at h;unfold G5;rw[Zy,h4];have h:Lib.deBruijn64tab[i]=k:=h;subst h;rfl
theorem Zcm(x:Nat)(hx:x<18446744073709551616)(h0:x≠0)(hT:Ro 0 G5∈P):Sp SET 142 [.int .u64 (x:Nat)] L P (fun r L' P'=>r=.int .i64 (Lib.ctz 64 x:Nat)∧L'=L∧P'=P):=by
 obtain⟨hl,hk⟩:=Lib.lowest_bit 64 x h0 hx;have hl:x&&&(18446744073709551616-x)=2^Lib.ctz 64 x:=hl;have hi:=(Lib.deBruijn64_at _ hk).1;refine .bo (fn:=Tryz.f142) (N:=13) ?_;refine .seq (.region (.pu .as (.nil (.seq (.seq (.region (.pu .mv (.pu .cn (.nil ?_)))))))));refine .no rfl (.skip (.seq (.region (.pu .mv (.pu .mv (.pu .negU (.pu .andU (.pu .mulU (.pu .shrN ?_)))))))));rw[Zck hl];refine .pu (.iaA (hn:=⟨Yk _,Km.2 hi⟩)) ?_;rw[Yp,Nat.mul_one,Zw];refine .lo .ro ⟨_,.p hT,Zcl hi (Lib.deBruijn64_at _ hk).2⟩ ?_;refine .pu (.ci (hv:=by simp only[InR];omega)) ?_;refine .pu .as (.nil (.ret ?_));exact⟨_,.tmp rfl .nil,_,_,.refl _ _,rfl,rfl,rfl⟩
def Hc(u:Nat):List Value:=[.int .u64 (u:Nat)]
theorem Zcn(u k:Nat)(hk:k<64):((u>>>k)&&&1=1)↔u.testBit k=true:=by
 rw[Nat.testBit];simp[Nat.and_comm,Xe,bne_iff_ne]
theorem Zco(v:Value)(us:List Nat)(b:Nat)(hv:Gn 1 v (us.map Hc) L P)(hb:b<64*us.length)(hw:∀u∈us,u<18446744073709551616)(hl:us.length≤1099511627776):Sp SET 135 [v,.int .i64 (b:Nat)] L P (fun r L' P'=>r=.bool (mem us b)∧L'=L∧P'=P):=by
 have hi:b/64<us.length:=by omega
 have hu:us[b/64]<18446744073709551616:=hw _ (Zz hi);have hu1:us[b/64]>>>(b%64)<18446744073709551616:=V0 (V2 ..) hu;have he:(us.map Hc)[b/64]? =some [.int .u64 (us[b/64]:Nat)]:=by simp[hi,Hc]
 refine .bo (fn:=Tryz.f135) (N:=14) ?_;refine .seq (.region (.pu .as (.nil (.seq (.region (.pu .mv (.pu .mv (.pu (.i_quo (b:=64)) ?_))))))));refine .lk (.ia (hn:=⟨Yk _,by rw[Zc];omega⟩)) ?_;refine .le he ?_;refine .pu .mv (.pu (.i_rem (b:=64)) ?_);refine .pu (.shrN (hn:=show b%64≤64 by omega)) ?_;refine .pu .andU (.pu .cmp (.pu .as (.nil (.ret ?_))));refine⟨_,.tmp rfl .nil,_,_,.refl _ _,?_,rfl,rfl⟩;refine congrArg Value.bool ?_;unfold mem;rw[Zn hi,Option.getD_some];have:=Zcn us[b/64] (b%64) (by omega);cases ht:us[b/64].testBit (b%64)with
 |true=>rw[this.2 ht];rfl
 |false=>
  refine decide_eq_false (fun e=>?_);rw[this.1 (Zpv.1 e)]at ht;cases ht
theorem BC(v:Value)(us:List Nat)(b:Nat)(hb:b<64*us.length)(hw:∀u∈us,u<18446744073709551616)(hl:us.length≤1099511627776):Sp SET 136 [v,.int .i64 (b:Nat)] (Ow 1 v (us.map Hc)::L) P (fun r L' P'=>r=.tuple ⟨[]⟩∧L'=Ow 1 v ((Gp us b).map Hc)::L∧P'=P):=by
 have hi:b/64<us.length:=by omega
 have hu:us[b/64]<18446744073709551616:=hw _ (Zz hi);have h2:2^(b%64)<18446744073709551616:=Ju (a:=2) (by decide) (show b%64<64 by omega);have he:(us.map Hc)[b/64]? =some [.int .u64 (us[b/64]:Nat)]:=by simp[hi,Hc]
 refine .bo (fn:=Tryz.f136) (N:=13) ?_;refine .drawn fun _=>?_;refine .pu .mv (.pu .mv (.pu (.i_quo (b:=64)) ?_));refine .lk (.ia (hn:=⟨Yk _,by rw[Zc];omega⟩)) ?_;refine .lo 0 0 .le (.mk he) ?_;refine .pu .mv (.pu (.i_rem (b:=64)) ?_);refine .pu (.bitU (hn:=by omega)) ?_;refine .pu .orU ?_;refine .lk (.ia (hn:=⟨Yk _,by rw[Zc];omega⟩)) ?_;refine .se he ?_;refine .nil (.cons (.yes (.mk he) (.skip .nil)) .nil) ?_;refine⟨_,.nil,_,_,.refl _ _,rfl,?_,rfl⟩;unfold Gp;rw[Kn,Zn hi];rfl
theorem Zcp(v:Value)(us:List Nat)(b:Nat)(hb:b<64*us.length)(hw:∀u∈us,u<18446744073709551616)(hl:us.length≤1099511627776):Sp SET 163 [v,.int .i64 (b:Nat)] (Ow 1 v (us.map Hc)::L) P (fun r L' P'=>r=.tuple ⟨[]⟩∧L'=Ow 1 v ((My us b).map Hc)::L∧P'=P):=by
 have hi:b/64<us.length:=by omega
 have hu:us[b/64]<18446744073709551616:=hw _ (Zz hi);have h2:2^(b%64)<18446744073709551616:=Ju (a:=2) (by decide) (show b%64<64 by omega);have he:(us.map Hc)[b/64]? =some [.int .u64 (us[b/64]:Nat)]:=by simp[hi,Hc]
 refine .bo (fn:=Tryz.f163) (N:=13) ?_;refine .drawn fun _=>?_;refine .pu .mv (.pu .mv (.pu (.i_quo (b:=64)) ?_));refine .lk (.ia (hn:=⟨Yk _,by rw[Zc];omega⟩)) ?_;refine .lo 0 0 .le (.mk he) ?_;refine .pu .mv (.pu (.i_rem (b:=64)) ?_);refine .pu (.bitU (hn:=by omega)) ?_;refine .pu .andNotU ?_;refine .lk (.ia (hn:=⟨Yk _,by rw[Zc];omega⟩)) ?_;refine .se he ?_;refine .nil (.cons (.yes (.mk he) (.skip .nil)) .nil) ?_;refine⟨_,.nil,_,_,.refl _ _,rfl,?_,rfl⟩;unfold My;rw[Kn,Zn hi];rfl
theorem XJ(v:Value)(us:List Nat)(hv:Gn 1 v (us.map Hc) L P)(hw:∀u∈us,u<18446744073709551616)(hl:us.length≤1099511627776):Sp SET 137 [v] L P (fun r L' P'=>r=.int .i64 (Ht us:Nat)∧L'=L∧P'=P):=by
 refine .bo (fn:=Tryz.f137) (N:=17) ?_;refine .seq (.region (.pu .as (.nil (.seq (.region (.pu .as (.nil (.seq (.seq (.region (.pu .mv (.lk .ln ?_))))))))))));refine .pu .mv (.nil ?_);refine .block (W.loop (fun i:Nat=>i≤us.length) (fun i=>us.length-i) (fun i=>[(8,.int .i64 (i:Nat)),(7,.int .i64 (us.map Hc).length),(6,v),(3,.int .i64 (Ht (us.take i):Nat))]) (fun _=>L) (fun _=>P) 0 (Zj _) ⟨rfl,rfl,rfl,rfl,trivial⟩ (.refl _ _) (fun i hi=>?_));have hlen:(us.map Hc).length=us.length:=Zc ..;by_cases hlt:i<us.length
 ·refine .seq (.region (.pu .cy (.nil (.seq (.yes rfl (.skip (.seq (.block (.seq (.region ?_))))))))));have hg:(us.map Hc)[((i:Nat):Int).toNat]? =some (Hc us[i]):=by simp[hlt]
  have hc:=LK hlt;have hb:=KP (us.take (i+1));have hb2:(us.take (i+1)).length≤us.length:=by rw[Zq];omega
  refine .lk .ia ?_;refine .le hg ?_;refine .pu .as (.nil (.region (.pu .mv (.pu .mv ?_))));refine .call (Zcj _ _ _ (hw _ (Zz hlt))) ?_;rintro _ L P ⟨rfl,rfl,rfl⟩;refine .pu .addN (.pu .as (.nil (.region (.pu .add (.pu .mv (.nil ?_))))));refine⟨i+1,hlt,by show us.length-(i+1)<us.length-i;omega,⟨rfl,rfl,rfl,?_,trivial⟩,.refl _ _⟩;show some (Value.int .i64 _)=some (Value.int .i64 _);rw[hc]
 ·refine .seq (.region (.pu .cn (.nil (.seq (.no rfl (.exit (.seq (.region (.pu .mv (.pu .as (.nil (.ret ?_))))))))))));refine⟨_,.tmp rfl .nil,_,_,.refl _ _,?_,rfl,rfl⟩;have e:us.take i=us:=Z8 (by omega);rw[e];rfl
structure AS0 where
 n:Nat
 us:List Nat
 ls:List Nat
 back:Nat
structure AS0.Ok(a:AS0):Prop where
 n0:1≤a.n
 n1:a.n≤4096
 ul:a.us.length=(a.n+63)/64
 ll:a.ls.length=(a.n+63)/64
 uw:∀u∈a.us,u<18446744073709551616
 lw:∀u∈a.ls,u<18446744073709551616
 uo:∀b,mem a.us b=true→b<a.n
 lo:∀b,mem a.ls b=true→b<a.n
 dj:∀b,mem a.us b=true→mem a.ls b=false
def Nt(p:Nat)(a:AS0)(x:Value×Value):List Asn:=[Pt p [.int .i64 (a.n:Nat),x.1,x.2,.int .i64 (a.back:Nat)] (tz 0 214),Ow 1 x.1 (a.us.map Hc),Ow 1 x.2 (a.ls.map Hc)]
def Alc(p:Nat)(a:AS0):Asn:=Bx (fun _=>a.Ok) (Nt p a)
def AS0.free(a:AS0):Int:=(a.n:Int)-Ht a.us-Ht a.ls-a.back
theorem AS0.Ok.small{a:AS0}(h:a.Ok):Ht a.us≤4096+64∧Ht a.ls≤4096+64∧a.us.length≤64∧a.ls.length≤64:=by
 have h1:=KP a.us;have h2:=KP a.ls;have:=h.n1;have:=h.ul;have:=h.ll;omega
theorem Zcq(p:Nat)(a:AS0)(x:Value×Value)(ha:a.Ok)(hb:a.back≤1000000):Sp SET 73 [.pointer (some ⟨p,0,none⟩)] (Nt p a x++L) P (fun r L' P'=>r=.int .i64 a.free∧L'=Nt p a x++L∧P'=P):=by
 have hs:=ha.small;have hn1:=ha.n1;refine .bo (fn:=Tryz.f73) (N:=25) ?_;refine .seq (.region (.pu .as (.nil (.seq (.seq (.region (.pu .mv (.pu .peq (.nil ?_)))))))));refine .no rfl (.skip ?_);refine .seq (.drawn fun _=>?_);refine .pu .mv (.pu .nc (.pu .fa (.lo 0 2 .ld .mk ?_)));refine .pu .mv (.pu .nc (.pu .fa (.lo 0 0 .ld .mk ?_)));refine .call (XJ _ _ _ _ (.o .l1) ha.uw (by omega)) ?_;rintro _ L P ⟨rfl,rfl,rfl⟩;refine .pu .sub (.pu .mv (.pu .nc (.pu .fa (.lo 0 1 .ld .mk ?_))));refine .call (XJ _ _ _ _ (.o .l2) ha.lw (by omega)) ?_;rintro _ L P ⟨rfl,rfl,rfl⟩;refine .pu .sub (.pu .mv (.pu .nc (.pu .fa (.lo 0 2 .ld .mk ?_))));refine .pu .sub (.pu .as (.nil (.cons (.yes .mk (.yes .mk (.yes .mk .nil))) (.cons (.yes .mk (.yes .mk (.skip .nil))) (.cons (.yes .mk (.skip (.skip .nil))) (.cons (.yes .mk (.yes .mk (.yes .mk .nil))) .nil)))) (.ret ?_)));exact⟨_,.tmp rfl .nil,_,_,.refl _ _,rfl,rfl,rfl⟩
theorem AS0.Ok.some_free{a:AS0}(h:a.Ok)(hf:0<a.free):∃b,b<a.n∧mem a.us b=false∧mem a.ls b=false:=by
 refine Classical.byContradiction (fun hn=>?_);have h1:=LU (f:=mem a.us) (g:=mem a.ls) a.n (fun j hj=>by
  cases hu:mem a.us j with
  |true=>exact .inl rfl
  |false=>cases hl:mem a.ls j with
   |true=>exact .inr rfl
   |false=>exact absurd ⟨j,hj,hu,hl⟩ hn)
 have hul:=h.ul;have hll:=h.ll;have h2:=KW (mem a.us) a.n (64*a.us.length-a.n);have h3:=KW (mem a.ls) a.n (64*a.ls.length-a.n);rw[show a.n+(64*a.us.length-a.n)=64*a.us.length by omega,←B0]at h2;rw[show a.n+(64*a.ls.length-a.n)=64*a.ls.length by omega,←B0]at h3;unfold AS0.free at hf;omega
theorem AS0.Ok.add{a:AS0}(h:a.Ok){b:Nat}(hb:b<a.n)(hl:mem a.ls b=false):({a with us:=Gp a.us b}:AS0).Ok:=by
 have hul:=h.ul;have hm:=Ii a.us b (by omega);refine⟨h.n0,h.n1,?_,h.ll,LN h.uw,h.lw,fun j hj=>?_,h.lo,fun j hj=>?_⟩
 ·show(Gp a.us b).length=_;unfold Gp;rw[Vk];exact hul
 ·have hj:mem (Gp a.us b) j=true:=hj;rw[hm,Yq,decide_eq_true_eq]at hj;rcases hj with hj|hj
  ·exact h.uo j hj
  ·rw[hj];exact hb
 ·have hj:mem (Gp a.us b) j=true:=hj;rw[hm,Yq,decide_eq_true_eq]at hj;rcases hj with hj|hj
  ·exact h.dj j hj
  ·rw[hj];exact hl
def v6(a a':AS0)(r:Value):Prop:=(a.free≤0∧a'=a∧r=.tuple ⟨[.int .i64 0,.int .i64 5]⟩)∨(0<a.free∧∃b:Nat,b<a.n∧mem a.us b=false∧mem a.ls b=false∧(∀j,j<b→mem a.us j=true∨mem a.ls j=true)∧a'= {a with us:=Gp a.us b}∧a'.Ok∧r=.tuple ⟨[.int .i64 (b:Nat),.int .i64 0]⟩)
theorem Zcr{u l:Nat}(hu:u<18446744073709551616)(hl:l<18446744073709551616)(h:18446744073709551615-(u|||l)=0)(j:Nat)(hj:j<64):u.testBit j=true∨l.testBit j=true:=by
 have h1:u|||l<2^64:=Jv hu hl;have h2:u|||l=2^64-1:=by omega
 have h3:(u|||l).testBit j=true:=by rw[h2,Nat.testBit_two_pow_sub_one,decide_eq_true hj]
 rw[Jp,Yq]at h3;exact h3
theorem BD{u l k:Nat}(hu:u<18446744073709551616)(hl:l<18446744073709551616)(hk:k<64):(18446744073709551615-(u|||l)).testBit k=(!u.testBit k&& !l.testBit k):=by
 have h1:u|||l<2^64:=Jv hu hl;rw[show 18446744073709551615-(u|||l)=2^64-((u|||l)+1) by omega,Nat.testBit_two_pow_sub_succ h1,decide_eq_true hk,X4,Jp,Bool.not_or]
theorem bg{us:List Nat}{i k:Nat}(hi:i<us.length)(hk:k<64):mem us (64*i+k)=us[i].testBit k:=by
 unfold mem;rw[show(64*i+k)/64=i by omega,show(64*i+k)%64=k by omega,Zn hi];rfl
theorem Zcs(p:Nat)(a:AS0)(x:Value×Value)(ha:a.Ok)(hb:a.back≤1000000)(hT:Ro 0 G5∈P):Sp SET 76 [.pointer (some ⟨p,0,none⟩)] (Nt p a x++L) P (fun r L' P'=>∃a',v6 a a' r∧L'=Nt p a' x++L∧P'=P):=by
 have hs:=ha.small;have hn1:=ha.n1;refine .bo (fn:=Tryz.f76) (N:=52) ?_;refine .seq (.region (.pu .as (.pu .as (.nil (.seq (.block (.seq (.region (.pu .mv (.pu .peq (.pu .as (.nil ?_))))))))))));refine .no rfl (.seq (.region (.pu .mv ?_)));refine .call (Zcq _ _ _ _ _ ha hb) ?_;rintro _ L P ⟨rfl,rfl,rfl⟩;refine .pu .cmp (.pu .as (.nil ?_));refine .ite rfl (fun hf=>?_) (fun hf=>?_)
 ·refine .seq (.region (.pu .as (.pu .as (.nil (.ret ?_)))));exact⟨_,.tmp rfl (.tmp rfl .nil),_,_,.refl _ _,a,.inl ⟨of_decide_eq_true hf,rfl,rfl⟩,rfl,rfl⟩
 refine .skip (.seq (.seq (.region (.pu .mv (.pu .nc (.pu .fa (.ld ?_)))))));refine .lk .ln ?_;refine .pu .mv (.nil ?_);refine .block (W.loop (fun i:Nat=>i≤a.us.length∧∀j,j<64*i→mem a.us j=true∨mem a.ls j=true) (fun i=>a.us.length-i) (fun i=>[(19,.int .i64 (i:Nat)),(18,.int .i64 (a.us.map Hc).length),(0,.pointer (some ⟨p,0,none⟩))]) (fun _=>Nt p a x++L) (fun _=>P) 0 ⟨Zj _,fun j hj=>by omega⟩ ⟨rfl,rfl,rfl,trivial⟩ (.refl _ _) (fun i hi=>?_));have hlen:(a.us.map Hc).length=a.us.length:=Zc ..;have hlen2:(a.ls.map Hc).length=a.ls.length:=Zc ..;have hul:=ha.ul;have hll:=ha.ll;have hf:0<a.free:=by have:=of_decide_eq_false hf;omega
 obtain⟨hi,hfull⟩:=hi;by_cases hlt:i<a.us.length
 ·refine .seq (.region ?_);have hlt2:i<a.ls.length:=by omega
  have hg:(a.us.map Hc)[((i:Nat):Int).toNat]? =some [.int .u64 (a.us[i]:Nat)]:=by simp[hlt,Hc]
  have hg2:(a.ls.map Hc)[((i:Nat):Int).toNat]? =some [.int .u64 (a.ls[i]:Nat)]:=by simp[hlt2,Hc]
  have w1:a.us[i]<18446744073709551616:=ha.uw _ (Zz hlt);have w2:a.ls[i]<18446744073709551616:=ha.lw _ (Zz hlt2);have w3:a.us[i]|||a.ls[i]<18446744073709551616:=Jv (n:=64) w1 w2;refine .pu .cy (.nil (.seq (.yes rfl (.skip (.seq (.block (.seq (.region (.pu .mv (.pu .as (.nil ?_)))))))))));refine .seq (.quiet (by kernel_rfl) ?_);refine .pu .mv (.pu .nc (.pu .fa (.ld ?_)));refine .pu .mv (.lk .ia ?_);refine .le hg ?_;refine .pu .mv (.pu .nc (.pu .fa (.ld ?_)));refine .pu .mv (.lk .ia ?_);refine .le hg2 ?_;refine .pu .orU (.pu .notU (.pu .as (.nil (.seq (.region (.pu .mv (.pu .cmp (.nil ?_))))))));refine .ite rfl (fun hz=>?_) (fun hz=>?_)
  ·refine .seq (.region (.pu .mv ?_));have w4:18446744073709551615-(a.us[i]|||a.ls[i])<18446744073709551616:=by omega
   have w5:18446744073709551615-(a.us[i]|||a.ls[i])≠0:=fun e=>(of_decide_eq_true hz) (by rw[e];rfl);obtain⟨c1,c2,c3⟩:=Zlj w5 w4;have hi63:i<64:=by omega
   refine .pu (.mulN (a:=64)) (.pu .mv ?_);refine .call (Zcm _ _ _ w4 w5 hT) ?_;rintro _ L P ⟨rfl,rfl,rfl⟩;refine .pu .addN (.pu .as (.nil (.seq (.region (.pu .mv (.pu .nc (.pu .fa (.ld ?_))))))));refine .pu .mv ?_;refine .call (Sp.up (.s .z) (fun L=>BC L _ _ a.us (64*i+Lib.ctz 64 (18446744073709551615-(a.us[i]|||a.ls[i]))) (by omega) ha.uw (by omega))) ?_;rintro _ L P ⟨rfl,rfl,rfl⟩;refine .nil (.seq (.region (.pu .mv (.pu .as (.pu .as (.nil (.ret ?_)))))));refine⟨_,.tmp rfl (.tmp rfl .nil),_,_,.refl _ _,{a with us:=Gp a.us (64*i+Lib.ctz 64 (18446744073709551615-(a.us[i]|||a.ls[i])))},.inr ⟨hf,64*i+Lib.ctz 64 (18446744073709551615-(a.us[i]|||a.ls[i])),?_⟩,rfl,rfl⟩
   rw[BD w1 w2 c1,Zi,Xd,Xd]at c2;have hleast:∀j,j<64*i+Lib.ctz 64 (18446744073709551615-(a.us[i]|||a.ls[i]))→mem a.us j=true∨mem a.ls j=true:=fun j hj=>by
    by_cases hj2:j<64*i
    ·exact hfull j hj2
    ·obtain⟨k,rfl⟩:∃k,j=64*i+k:=⟨j-64*i,by omega⟩;have hk:=c3 k (by omega);rw[BD w1 w2 (by omega)]at hk;rw[bg hlt (by omega),bg hlt2 (by omega)]
     revert hk
     cases a.us[i].testBit k<;>cases a.ls[i].testBit k<;>simp
   have hlt3:64*i+Lib.ctz 64 (18446744073709551615-(a.us[i]|||a.ls[i]))<a.n:=by
    obtain⟨b0,g1,g2,g3⟩:=ha.some_free hf;refine V0 (Xk (fun hlt4=>?_)) g1;rcases hleast b0 hlt4 with e|e
    ·rw[g2]at e;cases e
    ·rw[g3]at e;cases e
   have hm1:mem a.us (64*i+Lib.ctz 64 (18446744073709551615-(a.us[i]|||a.ls[i])))=false:=by rw[bg hlt c1];exact c2.1
   have hm2:mem a.ls (64*i+Lib.ctz 64 (18446744073709551615-(a.us[i]|||a.ls[i])))=false:=by rw[bg hlt2 c1];exact c2.2
   exact⟨hlt3,hm1,hm2,hleast,rfl,ha.add hlt3 hm2,rfl⟩
  refine .skip (.region (.pu .add (.pu .mv (.nil ?_))));refine⟨i+1,⟨hlt,fun j hj=>?_⟩,by show a.us.length-(i+1)<a.us.length-i;omega,⟨rfl,rfl,rfl,trivial⟩,.refl _ _⟩;by_cases hj2:j<64*i
  ·exact hfull j hj2
  ·obtain⟨k,rfl⟩:∃k,j=64*i+k:=⟨j-64*i,by omega⟩;rw[bg hlt (by omega),bg hlt2 (by omega)];have hz0:=of_decide_eq_false hz;exact Zcr w1 w2 (by omega) k (by omega)
 ·refine .seq (.region (.pu .cn (.nil (.seq (.no rfl (.exit (.seq (.region (.pu .as (.pu .as (.nil (.ret ?_))))))))))));refine⟨_,.tmp rfl (.tmp rfl .nil),_,_,.refl _ _,a,?_,rfl,rfl⟩;obtain⟨b0,g1,g2,g3⟩:=ha.some_free hf;rcases hfull b0 (by omega)with e|e
  ·rw[g2]at e;cases e
  ·rw[g3]at e;cases e
theorem AS0.Ok.drop{a:AS0}(h:a.Ok){b:Nat}(hb:mem a.us b=true):({a with us:=My a.us b,ls:=Gp a.ls b}:AS0).Ok:=by
 have hul:=h.ul;have hll:=h.ll;have hlt:=h.uo b hb;have hm:=y6 a.us b (by omega);have hm2:=Ii a.ls b (by omega);refine⟨h.n0,h.n1,?_,?_,Zli h.uw,LN h.lw,fun j hj=>?_,fun j hj=>?_,fun j hj=>?_⟩
 ·show(My a.us b).length=_;unfold My;rw[Vk];exact hul
 ·show(Gp a.ls b).length=_;unfold Gp;rw[Vk];exact hll
 ·have hj:mem (My a.us b) j=true:=hj;rw[hm,Zi]at hj;exact h.uo j hj.1
 ·have hj:mem (Gp a.ls b) j=true:=hj;rw[hm2,Yq,decide_eq_true_eq]at hj;rcases hj with hj|hj
  ·exact h.lo j hj
  ·rw[hj];exact hlt
 ·have hj:mem (My a.us b) j=true:=hj;show mem (Gp a.ls b) j=false;rw[hm,Zi,Xd,decide_eq_false_iff_not]at hj;rw[hm2,h.dj j hj.1,decide_eq_false hj.2];rfl
theorem Zct(p:Nat)(a:AS0)(x:Value×Value)(ha:a.Ok)(b:Nat)(hb:mem a.us b=true):Sp SET 94 [.pointer (some ⟨p,0,none⟩),.int .i64 (b:Nat)] (Nt p a x++L) P (fun r L' P'=>r=.int .i64 0∧L'=Nt p {a with us:=My a.us b,ls:=Gp a.ls b} x++L∧P'=P):=by
 have hlt:=ha.uo b hb;have hul:=ha.ul;have hll:=ha.ll;have hn1:=ha.n1;refine .bo (fn:=Tryz.f94) (N:=39) ?_;refine .seq (.region (.pu .as (.nil (.seq (.block (.seq (.region (.pu .mv (.pu .peq (.pu .mv (.on (.pu .mv (.on (.pu .cn (.pu .pk (.pu .mv (.on (.pu .mv (.on (.pu .mv (.on (.pu .nc (.on (.pu .fa (.on (.ld ?_))))))))))))))))))))))))));refine .on (.pu .cn (.pu .pk (.pu .as (.nil ?_))));refine .no rfl (.seq (.region (.pu .mv (.pu .nc (.pu .fa (.ld ?_))))));refine .pu .mv ?_;refine .call (Zco _ _ _ _ b (.o .l1) (by omega) ha.uw (by omega)) ?_;rintro _ L P ⟨rfl,rfl,rfl⟩;rw[hb];refine .pu .nt (.pu .as (.nil ?_));refine .no rfl (.skip (.seq (.region (.pu .mv (.pu .nc (.pu .fa (.ld ?_)))))));refine .pu .mv ?_;refine .call (Sp.up (.s .z) (fun L=>Zcp L _ _ a.us b (by omega) ha.uw (by omega))) ?_;rintro _ L P ⟨rfl,rfl,rfl⟩;refine .nil (.seq (.region (.pu .mv (.pu .nc (.pu .fa (.ld ?_))))))
 refine .pu .mv ?_;refine .call (Sp.up (.s (.s .z)) (fun L=>BC L _ _ a.ls b (by omega) ha.lw (by omega))) ?_;rintro _ L P ⟨rfl,rfl,rfl⟩;refine .nil (.seq (.region (.pu .as (.nil (.ret ?_)))));exact⟨_,.tmp rfl .nil,_,_,.refl _ _,rfl,rfl,rfl⟩
theorem v9(n b:Nat):mem (Z7 n 0) b=false:=by
 unfold mem;rw[List.getElem?_replicate];split<;>simp
theorem AS0.Ok.settle{a:AS0}(h:a.Ok):({a with ls:=Z7 a.ls.length 0}:AS0).Ok where
 n0:=h.n0
 n1:=h.n1
 ul:=h.ul
 ll:=by show(Z7 _ _).length=_;rw[List.length_replicate];exact h.ll
 uw:=h.uw
 lw:=fun u hu=>by
  have:=List.eq_of_mem_replicate hu;omega
 uo:=h.uo
 lo:=fun b hb=>by
  have hb:mem (Z7 _ 0) b=true:=hb;rw[v9]at hb;cases hb
 dj:=fun b _=>v9 ..
theorem BF :∀ls:List Nat,(ls.map Hc).map (fun _=>[Value.int .u64 0])=(Z7 ls.length 0).map Hc
 |[]=>rfl
 |u::ls=>by
  rw[Zr,Zr,BF ls,Zf,List.replicate_succ];rfl
theorem Zcu(p:Nat)(a:AS0)(x:Value×Value)(ha:a.Ok):Sp SET 97 [.pointer (some ⟨p,0,none⟩)] (Nt p a x++L) P (fun r L' P'=>r=.int .i64 (Ht a.ls:Nat)∧L'=Nt p {a with ls:=Z7 a.ls.length 0} x++L∧P'=P):=by
 have hll:=ha.ll;have hn1:=ha.n1;refine .bo (fn:=Tryz.f97) (N:=15) ?_;refine .seq (.region (.pu .as (.nil (.seq (.seq (.region (.pu .mv (.pu .peq (.nil ?_)))))))));refine .no rfl (.skip (.seq (.region (.pu .mv (.pu .nc (.pu .fa (.ld ?_)))))));refine .call (XJ _ _ _ _ (.o .l2) ha.lw (by omega)) ?_;rintro _ L P ⟨rfl,rfl,rfl⟩;refine .pu .as (.nil (.seq (.region (.pu .mv (.pu .nc (.pu .fa (.ld ?_)))))));refine .clearO (.nil (.seq (.region (.pu .mv (.pu .as (.nil (.ret ?_)))))));refine⟨_,.tmp rfl .nil,_,_,.refl _ _,rfl,?_,rfl⟩;rw[BF];rfl
theorem BR(us:List Nat):∀f∈us.map Hc,ones f=true:=fun f hf=>by
 obtain⟨u,_,rfl⟩:=Zl.1 hf;rfl
theorem Zcv{A B C:Asn}{R:List Asn}:(A::B::C::R).Perm (C::B::A::R):=
 (Yn.swap B A _).trans (((Yn.swap C A _).cons B).trans (Yn.swap C B _))
theorem Zcw(p:Nat)(a:AS0)(x:Value×Value)(ha:a.Ok):Sp SET 192 [.pointer (some ⟨p,0,none⟩)] (Nt p a x++L) P (fun r L' P'=>∃p' x',r=.pointer (some ⟨p',0,none⟩)∧L'=Nt p' a x'++(Nt p a x++L)∧P'=P):=by
 have hll:=ha.ll;have hul:=ha.ul;have hn1:=ha.n1;obtain⟨x1,x2⟩:=x;refine .bo (fn:=Tryz.f192) (N:=20) ?_;refine .seq (.region (.pu .as (.nil (.seq (.seq (.region (.pu .mv (.pu .peq (.nil ?_)))))))));refine .no rfl (.skip (.seq (.region (.pu .mv ?_))));refine .fact (Hr .l1) fun⟨a1,c1,(hx1:x1=_)⟩=>?_;refine .fact (Hr .l2) fun⟨a2,c2,(hx2:x2=_)⟩=>?_;subst hx1 hx2;refine .pu .nc (.lda (vs:=[_,_,_,_]) ?_);refine .nw (cs:=[.int .i64 0,.slice none 0 0,.slice none 0 0,.int .i64 0]) fun b3=>?_;refine .st (vs:=[_,_,_,_]) ?_;refine .ent (Ent.none (k:=1)) ?_;refine .ent (Ent.none (k:=1)) ?_;refine .nil ?_;refine .seq (.drawn fun _=>?_);refine .pu .mv (.pu .nc (.pu .fa (.lo 0 0 .ld .mk ?_)));refine .ap (.o .l4) .z (fun v13=>?_) (hn:=by rw[Zc,Zo];show(0+a.us.length)*8≤_;omega) (ho:=BR a.us);refine .fact (Hr .l0) fun⟨a13,c13,h13⟩=>?_
 subst h13;refine .pu .mv (.pu .nc (.pu .fa (.lo 0 1 .ld .mk ?_)));refine .ap (.o .l5) (.s .z) (fun v18=>?_) (hn:=by rw[Zc,Zo];show(0+a.ls.length)*8≤_;omega) (ho:=BR a.ls);refine .fact (Hr .l0) fun⟨a18,c18,h18⟩=>?_;subst h18;refine .pu .fa (.st (vs:=[_]) ?_);refine .pu .fa (.st (vs:=[_]) ?_);refine .nil (.cons (.yes .mk (.yes .mk (.skip (.skip (.skip .nil))))) (.cons (.yes .mk (.skip (.skip (.skip (.skip .nil))))) .nil)) (.seq (.region (.pu .as (.nil (.ret ?_)))));exact⟨_,.tmp rfl .nil,_,_,.perm Zcv,b3,(_,_),rfl,rfl,rfl⟩
structure PSt where
 d:Nat
 lg:Nat
 logs:Nat
 n:Nat
 gen:Int
 ep:Int
 ls:List (Int×Bs)
 w:List (Int×Bs)
 turn:Int
def pgL(p:Nat)(σ:PSt)(b:Nat×Nat):List Asn:=[Pt p [.pointer (some ⟨σ.d,0,none⟩),.pointer (some ⟨σ.lg,0,none⟩),.int .i64 (σ.logs:Nat),.int .i64 (σ.n:Nat),.int .i64 σ.gen,.int .i64 σ.ep,.map (some b.1),.map (some b.2),.int .i64 σ.turn] (tz 0 146),Mp b.1 (D9 σ.ls),Mp b.2 (D9 σ.w)]
def PgS(p:Nat)(σ:PSt):Asn:=Bx (fun _=>True) (pgL p σ)
def PSt.get(σ:PSt)(k:Int):Option Bs:=match Nm σ.w k with
 |some s=>some s
 |none=>Nm σ.ls k
theorem BQ(p:Nat)(σ:PSt)(b:Nat×Nat)(k:Int)(h0:0≤k)(h1:k<σ.n):Sp SET 130 [.pointer (some ⟨p,0,none⟩),.int .i64 k] (pgL p σ b++L) P (fun r L' P'=>r=.bool true∧L'=pgL p σ b++L∧P'=P):=by
 refine .bo (fn:=Tryz.f130) (N:=18) ?_;refine .seq (.region (.pu .as (.nil (.seq (.region (.pu .mv (.pu .pne (.pu .mv (.on (.pu .mv (.on (.pu .cy (.pu .pk (.pu .mv (.on (.pu .mv (.on (.pu .mv (.on (.pu .nc (.on (.pu .fa (.on (.ld ?_))))))))))))))))))))))));refine .on (.pu .cy (.pu .pk (.pu .as (.nil (.ret ?_)))));exact⟨_,.tmp rfl .nil,_,_,.refl _ _,rfl,rfl,rfl⟩
theorem Zcx(p:Nat)(σ:PSt)(b:Nat×Nat)(k:Int)(s:Bs)(h0:0≤k)(h1:k<σ.n)(hs:σ.get k=some s):Sp SET 70 [.pointer (some ⟨p,0,none⟩),.int .i64 k] (pgL p σ b++L) P (fun r L' P'=>r=.tuple ⟨[S s,.int .i64 0]⟩∧L'=pgL p σ b++L∧P'=P):=by
 unfold PSt.get at hs;refine .bo (fn:=Tryz.f70) (N:=40) ?_;refine .seq (.region (.pu .as (.pu .as (.nil (.seq (.seq (.region (.pu .mv (.pu .mv ?_)))))))));refine .call (BQ _ _ _ _ _ _ h0 h1) ?_;rintro _ L P ⟨rfl,rfl,rfl⟩;refine .pu .nt (.nil ?_);refine .no rfl (.skip ?_);by_cases hw:Nm σ.w k=some s
 ·refine .seq (.seq (.region (.pu .mv (.pu .nc (.pu .fa (.ld ?_))))));refine .pu .mv ?_;refine .lo (.lu2 (o:=some (S s)) ((yt k σ.w).trans (by rw[hw];rfl))) .l2 ?_;refine .pu .mv (.pu .ex (.pu .ex (.pu .as (.pu .as (.nil (.seq (.region (.pu .mv (.nil ?_)))))))));refine .yes rfl (.seq (.region (.pu .mv (.pu .as (.pu .as (.nil (.ret ?_)))))));exact⟨_,.tmp rfl (.tmp rfl .nil),_,_,.refl _ _,rfl,rfl,rfl⟩
 ·refine .seq (.seq (.region (.pu .mv ?_)));obtain⟨hn,hl⟩:Nm σ.w k=none∧Nm σ.ls k=some s:=by
   cases hq:Nm σ.w k with
   |none=>rw[hq]at hs;exact⟨rfl,hs⟩
   |some u=>rw[hq]at hs hw;exact absurd hs hw
  refine .pu .nc (.pu .fa (.ld ?_));refine .pu .mv ?_;refine .lo (.lu2 (o:=none) ((yt k σ.w).trans (by rw[hn];rfl))) .l2 ?_;refine .pu .mv (.pu .ex (.pu .ex (.pu .as (.pu .as (.nil (.seq (.region (.pu .mv (.nil ?_)))))))));refine .no rfl (.skip (.seq (.seq (.region (.pu .mv (.pu .nc (.pu .fa (.ld ?_))))))));refine .pu .mv ?_;refine .lo (.lu2 (o:=some (S s)) ((yt k σ.ls).trans (by rw[hl];rfl))) .l1 ?_;refine .pu .mv (.pu .ex (.pu .ex (.pu .as (.pu .as (.nil (.seq (.region (.pu .mv (.nil ?_)))))))));refine .yes rfl (.seq (.region (.pu .mv (.pu .as (.pu .as (.nil (.ret ?_)))))));exact⟨_,.tmp rfl (.tmp rfl .nil),_,_,.refl _ _,rfl,rfl,rfl⟩
theorem Zcy(p:Nat)(σ:PSt)(b:Nat×Nat)(k:Int)(s:Bs)(h0:0≤k)(h1:k<σ.n)(hl:s.length≤160):Sp SET 139 [.pointer (some ⟨p,0,none⟩),.int .i64 k,S s] (pgL p σ b++L) P (fun r L' P'=>r=.int .i64 0∧L'=pgL p {σ with w:=De σ.w k s} b++L∧P'=P):=by
 refine .bo (fn:=Tryz.f139) (N:=21) ?_;refine .seq (.region (.pu .as (.nil (.seq (.block (.seq (.region (.pu .mv (.pu .mv ?_)))))))));refine .call (BQ _ _ _ _ _ _ h0 h1) ?_;rintro _ L P ⟨rfl,rfl,rfl⟩;refine .pu .nt (.pu .as (.nil ?_));refine .no rfl (.seq (.region (.pu .mv (.pu .ls (.pu .cn (.pu .as (.nil ?_)))))));refine .no rfl (.skip (.seq (.region (.pu .mv (.pu .nc (.pu .fa (.ld ?_)))))));refine .pu .mv (.pu .mv (.mu (EM k s σ.w) (.nil (.seq (.region (.pu .as (.nil (.ret ?_))))))));exact⟨_,.tmp rfl .nil,_,_,.refl _ _,rfl,rfl,rfl⟩
theorem BW(r:Nat)(es:List (Value×Value))(hm:In (Mp r es) L P):Sp SET 236 [.map (some r)] L P (fun v L' P'=>∃b,v=.map (some b)∧L'=Mp b es::L∧P'=P):=by
 refine .bo (fn:=Tryz.f236) (N:=8) ?_;refine .seq (.region (.pu .as (.nil (.seq (.seq (.region (.pu .mv (.pu .peq (.nil ?_)))))))));refine .no rfl (.skip (.seq (.region (.pu .mv (.pu .mi ?_)))));refine .call (Zlg (by kernel_rfl) _ r es hm) ?_;rintro _ L P ⟨b,rfl,rfl,rfl⟩;refine .pu .ta (.pu .as (.nil (.ret ?_)));exact⟨_,.tmp rfl .nil,_,_,.refl _ _,b,rfl,rfl,rfl⟩
def mkL(m p:Nat)(w:List (Int×Bs))(turn:Int)(b:Nat):List Asn:=[Pt m [.pointer (some ⟨p,0,none⟩),.map (some b),.int .i64 turn] (tz 0 331),Mp b (D9 w)]
theorem Zcz(p:Nat)(σ:PSt)(b:Nat×Nat):Sp SET 193 [.pointer (some ⟨p,0,none⟩)] (pgL p σ b++L) P (fun r L' P'=>∃m b',r=.pointer (some ⟨m,0,none⟩)∧L'=mkL m p σ.w σ.turn b'++(pgL p σ b++L)∧P'=P):=by
 refine .bo (fn:=Tryz.f193) (N:=16) ?_;refine .seq (.region (.pu .as (.nil (.seq (.seq (.region (.pu .mv (.pu .peq (.nil ?_)))))))));refine .no rfl (.skip ?_);refine .seq (.drawn fun _=>?_);refine .pu .mv (.pu .mv (.pu .nc (.pu .fa (.lo 0 0 .ld .mk ?_))));refine .call (BW _ _ b.2 _ .l2) ?_;rintro _ L P ⟨b',rfl,rfl,rfl⟩;refine .pu .mv (.pu .nc (.pu .fa (.lo 0 1 .ld .mk ?_)));refine .pu (.bd (vs:=[_,_,_])) ?_;refine .bx (cs:=[_,_,_]) (hlt:=by show∀x∈([]:Hj),_;simp) fun b16=>?_;refine .pu .as (.nil (.cons (.yes .mk (.yes .mk .nil)) (.cons (.yes .mk (.skip .nil)) .nil)) (.ret ?_));exact⟨_,.tmp rfl .nil,_,_,.refl _ _,b16,b',rfl,rfl,rfl⟩
theorem Zc0{A B C D:Asn}{R:List Asn}:(A::B::C::D::R).Perm (D::B::C::A::R):=
 (Yn.swap B A _).trans (((Yn.swap C A _).cons B).trans ((((Yn.swap D A _).cons C).cons B).trans ((((Yn.swap D C _)).cons B).trans (Yn.swap D B _))))
theorem Zc1(p m:Nat)(σ:PSt)(b:Nat×Nat)(w:List (Int×Bs))(bm:Nat):Sp SET 194 [.pointer (some ⟨p,0,none⟩),.pointer (some ⟨m,0,none⟩)] (pgL p σ b++(mkL m p w σ.turn bm++L)) P (fun r L' P'=>∃b',r=.int .i64 0∧L'=pgL p {σ with w:=w} (b.1,b')++(mkL m p w σ.turn bm++L)∧P'=P):=by
 refine .bo (fn:=Tryz.f194) (N:=37) ?_;refine .seq (.region (.pu .as (.nil ?_)));refine .seq (.seq (.quiet (by kernel_rfl) ?_));refine .pu .mv (.pu .peq (.pu .mv (.on (.pu .mv (.on (.pu .peq (.pu .pk (.pu .mv (.on (.pu .mv (.on (.pu .nc (.on (.pu .fa (.on (.ld ?_))))))))))))))));refine .on (.pu .mv (.on (.pu .pdiff (.pu .pk (.pu .mv (.on (.pu .mv (.on (.pu .nc (.on (.pu .fa (.on (.ld ?_)))))))))))));refine .on (.pu .mv (.on (.pu .nc (.on (.pu .fa (.on (.ld ?_)))))));refine .on (.pu (.cn (hq:=by simp[N8])) ?_);refine .pu .pk (.nil ?_);refine .no rfl (.skip (.seq (.region (.pu .mv (.pu .mv (.pu .nc (.pu .fa (.ld ?_))))))));refine .call (BW _ _ bm _ .l4) ?_;rintro _ L P ⟨b',rfl,rfl,rfl⟩;refine .pu .nc (.pu .fa (.st (vs:=[_]) ?_));refine .nil (.seq (.region (.pu .as (.nil (.ret ?_)))));exact⟨_,.tmp rfl .nil,_,_,(Ent.trans (.perm Zc0) Ent.drop),b',rfl,rfl,rfl⟩
theorem Sp.fact{E:Env}{L P:List Asn}{p:Prop}{f:FuncId}{args:List Value}{Q:Value→List Asn→List Asn→Prop}(hf:∀S s,Sat L P S s→p)(h:p→Sp E f args L P Q):Sp E f args L P Q:=fun S s hs=>h (hf S s hs) S s hs
theorem wg{L P:List Asn}{k:Nat}{v:Value}{es:List (List Value)}(h:Gn k v es L P)(S:Nat→Prop)(s:AS)(hs:Sat L P S s):(es=[]∧∃c,v=.slice none 0 c)∨∃a c,v=.slice (some a) es.length c:=by
 obtain⟨a,c,h1,h2⟩:=h.holds hs;cases a with
 |some a=>exact .inr ⟨a,c,h1⟩
 |none=>
  rcases h2 with h2|⟨b,o,m,z,t,e,_⟩
  ·subst h2;exact .inl ⟨rfl,c,h1⟩
  ·cases e
theorem wh{xs:List (Value×List (List Value))}(hc:∀x∈xs,x.2.length≤1000):∀i,i≤xs.length→((xs.take i).flatMap (·.2)).length≤1000*i
 |0,_=>by simp
 |i+1,h=>by
  have ih:=wh hc i (by omega);have hi:=hc xs[i] (Zz (by omega));rw[Jw,Zn (show i<xs.length by omega),Yd,Zd];simp only[Kp,Zx,Kq,Z9];omega
theorem bh{xs:List (Value×List (List Value))}{i:Nat}(h:i<xs.length):(xs.take (i+1)).flatMap (·.2)=(xs.take i).flatMap (·.2)++xs[i].2:=by
 rw[Jw,Zn h,Yd];simp only[Kp,Zx,Kq,Z9]
theorem Zc2(c:Nat):Sp SET 151 [.slice none 0 c] L P (fun r L' P'=>L'=OwF 42 2 r []::L∧P'=P):=by
 refine .bo (fn:=Tryz.f151) (N:=7) ?_;refine .seq (.region (.pu .as (.nil (.seq (.seq (.region (.pu .mv (.pu .peq (.nil ?_)))))))));refine .yes rfl (.seq (.region (.pu .as (.nil (.ret ?_)))));exact⟨_,.tmp rfl .nil,_,_,(Ent.nonef (k:=2) (e:=42)),rfl,rfl⟩
theorem Zc3(a:Addr)(c:Nat)(es:List (List Value))(hv:Gn 2 (.slice (some a) es.length c) es L P)(hl:es.length≤1000000)(ho:∀f∈es,ones f=true):Sp SET 151 [.slice (some a) es.length c] L P (fun r L' P'=>L'=OwF 42 2 r es::L∧P'=P):=by
 refine .bo (fn:=Tryz.f151) (N:=7) ?_;refine .seq (.region (.pu .as (.nil (.seq (.seq (.region (.pu .mv (.pu .peq (.nil ?_)))))))));refine .no rfl (.skip (.seq (.region ?_)));refine .bl0 (e:=42) (k:=2) fun b5=>?_;refine .pu .mv ?_;refine .apf (.sl hv.bel) (fun v7=>?_) (hn:=by rw[Zo];show(0+es.length)*32≤_;omega) (ho:=ho);refine .pu .as (.nil (.ret ?_));exact⟨_,.tmp rfl .nil,_,_,.refl _ _,rfl,rfl⟩
theorem XK(v:Value)(es:List (List Value))(hv:Gn 2 v es L P)(hl:es.length≤1000000)(ho:∀f∈es,ones f=true):Sp SET 151 [v] L P (fun r L' P'=>L'=OwF 42 2 r es::L∧P'=P):=
 Sp.fact (wg hv) (fun h=>by
  rcases h with⟨rfl,c,rfl⟩|⟨a,c,rfl⟩
  ·exact Zc2 L P c
  ·exact Zc3 L P a c es hv hl ho)
theorem Zc4:Sp SET 244 [.slice none 0 0,.int .i64 0] L P (fun r L' P'=>L'=Ow 2 r []::L∧P'=P):=by
 refine .bo (fn:=Tryz.f244) (N:=26) ?_;refine .seq (.region (.pu .as (.nil (.seq (.seq (.region (.pu .mv (.pu .cn (.nil ?_)))))))));refine .no rfl (.skip (.seq (.seq (.region (.pu .mv (.pu .mv (.ent (Ent.none (k:=2)) ?_)))))));refine .pu .cap0 (.pu .mv (.lk (.ln (k:=2) (es:=[]) (hm:=.o .l0)) ?_));rw[Zo];refine .pu .sub (.pu .sub (.pu .as (.nil (.seq (.region (.pu .mv (.pu .cn (.nil ?_))))))));refine .no rfl (.skip (.seq (.region (.pu .mv (.pu .as (.nil (.ret ?_)))))));exact⟨_,.tmp rfl .nil,_,_,.refl _ _,rfl,rfl⟩
theorem Zc5(n:Nat)(hn:n≠0)(hl:n≤1000000):Sp SET 244 [.slice none 0 0,.int .i64 (n:Nat)] L P (fun r L' P'=>L'=Ow 2 r []::L∧P'=P):=by
 refine .bo (fn:=Tryz.f244) (N:=26) ?_;refine .seq (.region (.pu .as (.nil (.seq (.seq (.region (.pu .mv (.pu .cn (.nil ?_)))))))));refine .no rfl (.skip (.seq (.seq (.region (.pu .mv (.pu .mv (.ent (Ent.none (k:=2)) ?_)))))));refine .pu .cap0 (.pu .mv (.lk (.ln (k:=2) (es:=[]) (hm:=.o .l0)) ?_));rw[Zo];refine .pu .sub (.pu .sub (.pu .as (.nil (.seq (.region (.pu .mv (.pu .cy (.nil ?_))))))));refine .yes rfl (.region (.pu .mv (.pu .mv (.pu .cap0 ?_))));refine .sl (k:=2) (p:=0) (q:=0) (es:=[]) (.o .l0) rfl (fun m hm=>bdn (n:=0) (hn:=Zj _)) ?_;refine .pu .mv ?_;refine .apzero (k:=2) (m:=n) hn (fun b22=>?_) (hn:=by show n*32≤_;omega);refine .pu .mv (.lk (.ln (k:=2) (es:=[]) (hm:=.o .l1)) ?_);rw[Zo];refine .sl (k:=2) (p:=0) (q:=0) (es:=Z7 n _) (.f (fun _ _=>OwF.sl) .l0) rfl (fun m hm=>bdn (n:=0) (hn:=Zj _)) ?_
 refine .pu .as (.nil (.seq (.region (.pu .mv (.pu .as (.nil (.ret ?_)))))));exact⟨_,.tmp rfl .nil,_,_,(Ent.ofF.trans ((Ent.owp (q:=0) (Zj _)).trans (Ent.swap.trans Ent.drop))),rfl,rfl⟩
theorem Zc6(n:Nat)(hl:n≤1000000):Sp SET 244 [.slice none 0 0,.int .i64 (n:Nat)] L P (fun r L' P'=>L'=Ow 2 r []::L∧P'=P):=by
 by_cases hn:n=0
 ·subst hn;exact Zc4 L P
 ·exact Zc5 L P n hn hl
theorem Zc7(v:Value)(xs:List (Value×List (List Value)))(hv:Gn 1 v (xs.map fun x=>[x.1]) L P)(hx:∀x∈xs,Gn 2 x.1 x.2 L P)(hl:xs.length≤1000)(hc:∀x∈xs,x.2.length≤1000)(ho:∀x∈xs,∀f∈x.2,ones f=true):Sp SET 216 [v] L P (fun r L' P'=>L'=Ow 2 r (xs.flatMap (·.2))::L∧P'=P):=by
 refine .bo (fn:=Tryz.f216) (N:=35) ?_;refine .seq (.region (.pu .as (.nil (.seq (.region (.pu .as (.nil (.seq (.seq (.region (.pu .mv (.lk .ln ?_))))))))))));refine .pu .mv (.nil ?_);refine .block (W.loop (fun i:Nat=>i≤xs.length) (fun i=>xs.length-i) (fun i=>[(11,.int .i64 (i:Nat)),(10,.int .i64 (xs.map fun x=>[x.1]).length),(9,v),(3,.int .i64 ((xs.take i).flatMap (·.2)).length),(0,v)]) (fun _=>L) (fun _=>P) 0 (Zj _) ⟨rfl,rfl,rfl,rfl,rfl,trivial⟩ (.refl _ _) (fun i hi=>?_));have hlen:(xs.map fun x=>[x.1]).length=xs.length:=Zc ..;have hcat:∀i,i≤xs.length→((xs.take i).flatMap (·.2)).length≤1000*i:=wh hc;by_cases hlt:i<xs.length
 ·refine .seq (.region (.pu .cy (.nil (.seq (.yes rfl (.skip (.seq (.block (.seq (.region ?_))))))))));have hg:(xs.map fun x=>[x.1])[((i:Nat):Int).toNat]? =some [xs[i].1]:=by simp[hlt]
  have hs:=bh hlt;have hb:=hcat (i+1) hlt;have hs2:=congrArg Yi hs;rw[Zd]at hs2;have hxi:=hx _ (Zz hlt);refine .lk .ia ?_;refine .le hg ?_;refine .pu .as (.nil (.seq (.region (.pu .mv (.pu .mv (.lk (.ln (hm:=hxi)) ?_))))));refine .pu .add (.pu .as (.nil (.seq (.region (.pu .mv (.pu .cn (.nil ?_)))))));refine .no rfl (.skip (.region (.pu .add (.pu .mv (.nil ?_)))));refine⟨i+1,hlt,by show xs.length-(i+1)<xs.length-i;omega,⟨rfl,rfl,rfl,?_,rfl,trivial⟩,.refl _ _⟩;show some (Value.int .i64 _)=some (Value.int .i64 _);rw[hs,Zd];rfl
 ·refine .seq (.region ?_);have e:xs.take i=xs:=Z8 (by omega);have hall:=hcat xs.length (Ze _);rw[Z8 (Ze _)]at hall;rw[e];refine .pu .cn (.nil (.seq (.no rfl (.exit (.seq (.region (.pu .mv ?_)))))));refine .call (Zc6 _ _ (xs.flatMap (·.2)).length (by omega)) ?_;rintro _ _ P ⟨rfl,rfl⟩;refine .pu .as (.nil (.seq (.seq (.region (.pu .mv (.lk (.ln (hm:=hv.bel)) ?_))))));refine .pu .mv (.nil ?_);refine .block (W.loop (fun a:Nat×Value=>a.1≤xs.length) (fun a=>xs.length-a.1) (fun a=>[(27,.int .i64 (a.1:Nat)),(26,.int .i64 (xs.map fun x=>[x.1]).length),(25,v),(6,a.2)]) (fun a=>Ow 2 a.2 ((xs.take a.1).flatMap (·.2))::L) (fun _=>P) (0,_) (Zj _) ⟨rfl,rfl,rfl,rfl,trivial⟩ (.refl _ _) (fun⟨i,r⟩ hi=>?_));by_cases hlt2:i<xs.length
  ·refine .seq (.region (.pu .cy (.nil (.seq (.yes rfl (.skip (.seq (.block (.seq (.region ?_))))))))));have hg:(xs.map fun x=>[x.1])[((i:Nat):Int).toNat]? =some [xs[i].1]:=by simp[hlt2]
   have hs:=bh hlt2;have hb:=hcat (i+1) hlt2;have hs2:=congrArg Yi hs;rw[Zd]at hs2;have hxi:=hx _ (Zz hlt2);refine .lk (.ia (hm:=hv.bel)) ?_;refine .le hg ?_ (hm:=hv.bel);refine .pu .as (.nil (.region (.pu .mv (.pu .mv ?_))));refine .ap (fun v33=>?_) (hw:=hxi.bel) (hn:=by show(((xs.take i).flatMap (·.2)).length+xs[i].2.length)*32≤_;omega) (ho:=ho _ (Zz hlt2));refine .pu .as (.nil (.region (.pu .add (.pu .mv (.nil ?_)))));refine⟨(i+1,_),hlt2,by show xs.length-(i+1)<xs.length-i;omega,⟨rfl,rfl,rfl,rfl,trivial⟩,?_⟩;show Ent _ _ (Ow 2 _ ((xs.take (i+1)).flatMap (·.2))::L) P;rw[hs];exact .refl _ _
  ·refine .seq (.region (.pu .cn (.nil (.seq (.no rfl (.exit (.seq (.region (.pu .mv (.pu .as (.nil (.ret ?_))))))))))));refine⟨_,.tmp rfl .nil,_,_,.refl _ _,?_,rfl⟩;have e:xs.take i=xs:=Z8 (Xk hlt2);rw[e];rfl
theorem Zc8(c:Nat):Sp SET 205 [.slice none 0 c] L P (fun r L' P'=>L'=OwF 3 1 r []::L∧P'=P):=by
 refine .bo (fn:=Tryz.f205) (N:=7) ?_;refine .seq (.region (.pu .as (.nil (.seq (.seq (.region (.pu .mv (.pu .peq (.nil ?_)))))))));refine .yes rfl (.seq (.region (.pu .as (.nil (.ret ?_)))));exact⟨_,.tmp rfl .nil,_,_,(Ent.nonef (k:=1) (e:=3)),rfl,rfl⟩
theorem Zc9(a:Addr)(c:Nat)(es:List (List Value))(hv:Gn 1 (.slice (some a) es.length c) es L P)(hl:es.length≤1000000)(ho:∀f∈es,ones f=true):Sp SET 205 [.slice (some a) es.length c] L P (fun r L' P'=>L'=OwF 3 1 r es::L∧P'=P):=by
 refine .bo (fn:=Tryz.f205) (N:=7) ?_;refine .seq (.region (.pu .as (.nil (.seq (.seq (.region (.pu .mv (.pu .peq (.nil ?_)))))))));refine .no rfl (.skip (.seq (.region ?_)));refine .bl0 (e:=3) (k:=1) fun b5=>?_;refine .pu .mv ?_;refine .apf (.sl hv.bel) (fun v7=>?_) (hn:=by rw[Zo];show(0+es.length)*8≤_;omega) (ho:=ho);refine .pu .as (.nil (.ret ?_));exact⟨_,.tmp rfl .nil,_,_,.refl _ _,rfl,rfl⟩
theorem XG(v:Value)(es:List (List Value))(hv:Gn 1 v es L P)(hl:es.length≤1000000)(ho:∀f∈es,ones f=true):Sp SET 205 [v] L P (fun r L' P'=>L'=OwF 3 1 r es::L∧P'=P):=
 Sp.fact (wg hv) (fun h=>by
  rcases h with⟨rfl,c,rfl⟩|⟨a,c,rfl⟩
  ·exact Zc8 L P c
  ·exact Zc9 L P a c es hv hl ho)
theorem Zda(b c i p:Nat)(es:List (List Value))(hip:i<p)(hp:p≤es.length)(hc:es.length≤c/2)(hl:es.length≤1000000)(ho:∀f∈es,ones f=true):Sp SET 204 [.slice (some ⟨b,0,none⟩) es.length c,.int .i64 (i:Nat),.int .i64 (p:Nat)] (Ow 1 (.slice (some ⟨b,0,none⟩) es.length c) es::L) P (fun r L' P'=>r=.slice (some ⟨b,0,none⟩) (i+(es.length-p)) c∧L'=Ow 1 r (es.take i++es.drop p)::L∧P'=P):=by
 refine .bo (fn:=Tryz.f204) (N:=32) ?_;refine .seq (.region (.pu .as (.nil (.seq (.region (.pu .mv (.pu .mv (.pu .mv (.pu .mv (.lk .ln ?_))))))))));refine .pu (.sl3 (k:=1) (p:=i) (q:=p) (m:=es.length) hc hp (by omega)) ?_;refine .nil (.seq (.seq (.region (.pu .mv (.pu .mv (.pu .cn (.nil ?_)))))));refine .no rfl (.skip (.seq (.region (.pu .mv (.lk .ln ?_)))));refine .pu .as (.nil ?_);refine .seq (.drawn fun _=>?_);refine .pu .mv (.pu .mv ?_);refine .lo 0 0 (.sl (k:=1) (p:=0) (q:=i) (es:=es) rfl (fun m hm=>bdn)) (.o .l0) ?_;refine .pu .mv (.pu .mv ?_);refine .lo 0 0 (.sl (k:=1) (p:=p) (q:=es.length) (es:=es) bdn (fun m hm=>rfl)) (.o .l0) ?_;refine .wo (WO.apself (k:=1) (i:=i) (p:=p) (es:=es) rfl rfl rfl rfl rfl rfl rfl rfl .z rfl (by omega) hp (by show es.length*8≤_;omega) ho ?_);refine .pu .as (.nil (.cons (.yes (.o .l0) (.skip .nil)) (.cons (.yes (.o .l0) (.skip .nil)) .nil)) (.seq (.region (.pu .mv (.pu .mv ?_)))))
 have hlen:(es.take i++es.drop p).length=i+(es.length-p):=by rw[Zd,Zq,Z5];omega
 refine .lk .ln ?_;refine .pu .mv ?_;refine .slb (k:=1) .l0 (bdn (n:=(es.take i++es.drop p).length) (hn:=by omega)) (bdn (n:=es.length)) hc ?_;refine .clrt (k:=1) (b:=b) (o:=0+(es.take i++es.drop p).length*1) (es:=es.take i++es.drop p) (r:=es.length-(es.take i++es.drop p).length) ?_ .z (by omega) (by omega) (.inr (by omega));refine .nil (.seq (.region (.pu .mv (.pu .as (.nil (.ret ?_))))));exact⟨_,.tmp rfl .nil,_,_,.refl _ _,rfl,rfl,rfl⟩
theorem Zdb:Sp SET 245 [.slice none 0 0,.int .i64 0] L P (fun r L' P'=>L'=Ow 1 r []::L∧P'=P):=by
 refine .bo (fn:=Tryz.f245) (N:=26) ?_;refine .seq (.region (.pu .as (.nil (.seq (.seq (.region (.pu .mv (.pu .cn (.nil ?_)))))))));refine .no rfl (.skip (.seq (.seq (.region (.pu .mv (.pu .mv (.ent (Ent.none (k:=1)) ?_)))))));refine .pu .cap0 (.pu .mv (.lk (.ln (k:=1) (es:=[]) (hm:=.o .l0)) ?_));rw[Zo];refine .pu .sub (.pu .sub (.pu .as (.nil (.seq (.region (.pu .mv (.pu .cn (.nil ?_))))))));refine .no rfl (.skip (.seq (.region (.pu .mv (.pu .as (.nil (.ret ?_)))))));exact⟨_,.tmp rfl .nil,_,_,.refl _ _,rfl,rfl⟩
theorem Zdc(n:Nat)(hn:n≠0)(hl:n≤1000000):Sp SET 245 [.slice none 0 0,.int .i64 (n:Nat)] L P (fun r L' P'=>L'=Ow 1 r []::L∧P'=P):=by
 refine .bo (fn:=Tryz.f245) (N:=26) ?_;refine .seq (.region (.pu .as (.nil (.seq (.seq (.region (.pu .mv (.pu .cn (.nil ?_)))))))));refine .no rfl (.skip (.seq (.seq (.region (.pu .mv (.pu .mv (.ent (Ent.none (k:=1)) ?_)))))));refine .pu .cap0 (.pu .mv (.lk (.ln (k:=1) (es:=[]) (hm:=.o .l0)) ?_));rw[Zo];refine .pu .sub (.pu .sub (.pu .as (.nil (.seq (.region (.pu .mv (.pu .cy (.nil ?_))))))));refine .yes rfl (.region (.pu .mv (.pu .mv (.pu .cap0 ?_))));refine .sl (k:=1) (p:=0) (q:=0) (es:=[]) (.o .l0) rfl (fun m hm=>bdn (n:=0) (hn:=Zj _)) ?_;refine .pu .mv ?_;refine .apzero (k:=1) (m:=n) hn (fun b22=>?_) (hn:=by show n*8≤_;omega);refine .pu .mv (.lk (.ln (k:=1) (es:=[]) (hm:=.o .l1)) ?_);rw[Zo];refine .sl (k:=1) (p:=0) (q:=0) (es:=Z7 n _) (.f (fun _ _=>OwF.sl) .l0) rfl (fun m hm=>bdn (n:=0) (hn:=Zj _)) ?_
 refine .pu .as (.nil (.seq (.region (.pu .mv (.pu .as (.nil (.ret ?_)))))));exact⟨_,.tmp rfl .nil,_,_,(Ent.ofF.trans ((Ent.owp (q:=0) (Zj _)).trans (Ent.swap.trans Ent.drop))),rfl,rfl⟩
theorem Zdd(n:Nat)(hl:n≤1000000):Sp SET 245 [.slice none 0 0,.int .i64 (n:Nat)] L P (fun r L' P'=>L'=Ow 1 r []::L∧P'=P):=by
 by_cases hn:n=0
 ·subst hn;exact Zdb L P
 ·exact Zdc L P n hn hl
theorem Zde(v:Value)(xs:List (Value×List (List Value)))(hv:Gn 1 v (xs.map fun x=>[x.1]) L P)(hx:∀x∈xs,Gn 1 x.1 x.2 L P)(hl:xs.length≤1000)(hc:∀x∈xs,x.2.length≤1000)(ho:∀x∈xs,∀f∈x.2,ones f=true):Sp SET 217 [v] L P (fun r L' P'=>L'=Ow 1 r (xs.flatMap (·.2))::L∧P'=P):=by
 refine .bo (fn:=Tryz.f217) (N:=35) ?_;refine .seq (.region (.pu .as (.nil (.seq (.region (.pu .as (.nil (.seq (.seq (.region (.pu .mv (.lk .ln ?_))))))))))));refine .pu .mv (.nil ?_);refine .block (W.loop (fun i:Nat=>i≤xs.length) (fun i=>xs.length-i) (fun i=>[(11,.int .i64 (i:Nat)),(10,.int .i64 (xs.map fun x=>[x.1]).length),(9,v),(3,.int .i64 ((xs.take i).flatMap (·.2)).length),(0,v)]) (fun _=>L) (fun _=>P) 0 (Zj _) ⟨rfl,rfl,rfl,rfl,rfl,trivial⟩ (.refl _ _) (fun i hi=>?_));have hlen:(xs.map fun x=>[x.1]).length=xs.length:=Zc ..;have hcat:∀i,i≤xs.length→((xs.take i).flatMap (·.2)).length≤1000*i:=wh hc;by_cases hlt:i<xs.length
 ·refine .seq (.region (.pu .cy (.nil (.seq (.yes rfl (.skip (.seq (.block (.seq (.region ?_))))))))));have hg:(xs.map fun x=>[x.1])[((i:Nat):Int).toNat]? =some [xs[i].1]:=by simp[hlt]
  have hs:=bh hlt;have hb:=hcat (i+1) hlt;have hs2:=congrArg Yi hs;rw[Zd]at hs2;have hxi:=hx _ (Zz hlt);refine .lk .ia ?_;refine .le hg ?_;refine .pu .as (.nil (.seq (.region (.pu .mv (.pu .mv (.lk (.ln (hm:=hxi)) ?_))))));refine .pu .add (.pu .as (.nil (.seq (.region (.pu .mv (.pu .cn (.nil ?_)))))));refine .no rfl (.skip (.region (.pu .add (.pu .mv (.nil ?_)))));refine⟨i+1,hlt,by show xs.length-(i+1)<xs.length-i;omega,⟨rfl,rfl,rfl,?_,rfl,trivial⟩,.refl _ _⟩;show some (Value.int .i64 _)=some (Value.int .i64 _);rw[hs,Zd];rfl
 ·refine .seq (.region ?_);have e:xs.take i=xs:=Z8 (by omega);have hall:=hcat xs.length (Ze _);rw[Z8 (Ze _)]at hall;rw[e];refine .pu .cn (.nil (.seq (.no rfl (.exit (.seq (.region (.pu .mv ?_)))))));refine .call (Zdd _ _ (xs.flatMap (·.2)).length (by omega)) ?_;rintro _ _ P ⟨rfl,rfl⟩;refine .pu .as (.nil (.seq (.seq (.region (.pu .mv (.lk (.ln (hm:=hv.bel)) ?_))))));refine .pu .mv (.nil ?_);refine .block (W.loop (fun a:Nat×Value=>a.1≤xs.length) (fun a=>xs.length-a.1) (fun a=>[(27,.int .i64 (a.1:Nat)),(26,.int .i64 (xs.map fun x=>[x.1]).length),(25,v),(6,a.2)]) (fun a=>Ow 1 a.2 ((xs.take a.1).flatMap (·.2))::L) (fun _=>P) (0,_) (Zj _) ⟨rfl,rfl,rfl,rfl,trivial⟩ (.refl _ _) (fun⟨i,r⟩ hi=>?_));by_cases hlt2:i<xs.length
  ·refine .seq (.region (.pu .cy (.nil (.seq (.yes rfl (.skip (.seq (.block (.seq (.region ?_))))))))));have hg:(xs.map fun x=>[x.1])[((i:Nat):Int).toNat]? =some [xs[i].1]:=by simp[hlt2]
   have hs:=bh hlt2;have hb:=hcat (i+1) hlt2;have hs2:=congrArg Yi hs;rw[Zd]at hs2;have hxi:=hx _ (Zz hlt2);refine .lk (.ia (hm:=hv.bel)) ?_;refine .le hg ?_ (hm:=hv.bel);refine .pu .as (.nil (.region (.pu .mv (.pu .mv ?_))));refine .ap (fun v33=>?_) (hw:=hxi.bel) (hn:=by show(((xs.take i).flatMap (·.2)).length+xs[i].2.length)*8≤_;omega) (ho:=ho _ (Zz hlt2));refine .pu .as (.nil (.region (.pu .add (.pu .mv (.nil ?_)))));refine⟨(i+1,_),hlt2,by show xs.length-(i+1)<xs.length-i;omega,⟨rfl,rfl,rfl,rfl,trivial⟩,?_⟩;show Ent _ _ (Ow 1 _ ((xs.take (i+1)).flatMap (·.2))::L) P;rw[hs];exact .refl _ _
  ·refine .seq (.region (.pu .cn (.nil (.seq (.no rfl (.exit (.seq (.region (.pu .mv (.pu .as (.nil (.ret ?_))))))))))));refine⟨_,.tmp rfl .nil,_,_,.refl _ _,?_,rfl⟩;have e:xs.take i=xs:=Z8 (Xk hlt2);rw[e];rfl
theorem Zdf(c:Nat):Sp SET 206 [.slice none 0 c] L P (fun r L' P'=>L'=OwF 9 1 r []::L∧P'=P):=by
 refine .bo (fn:=Tryz.f206) (N:=7) ?_;refine .seq (.region (.pu .as (.nil (.seq (.seq (.region (.pu .mv (.pu .peq (.nil ?_)))))))));refine .yes rfl (.seq (.region (.pu .as (.nil (.ret ?_)))));exact⟨_,.tmp rfl .nil,_,_,(Ent.nonef (k:=1) (e:=9)),rfl,rfl⟩
theorem Zdg(a:Addr)(c:Nat)(es:List (List Value))(hv:Gn 1 (.slice (some a) es.length c) es L P)(hl:es.length≤1000000)(ho:∀f∈es,ones f=true):Sp SET 206 [.slice (some a) es.length c] L P (fun r L' P'=>L'=OwF 9 1 r es::L∧P'=P):=by
 refine .bo (fn:=Tryz.f206) (N:=7) ?_;refine .seq (.region (.pu .as (.nil (.seq (.seq (.region (.pu .mv (.pu .peq (.nil ?_)))))))));refine .no rfl (.skip (.seq (.region ?_)));refine .bl0 (e:=9) (k:=1) fun b5=>?_;refine .pu .mv ?_;refine .apf (.sl hv.bel) (fun v7=>?_) (hn:=by rw[Zo];show(0+es.length)*16≤_;omega) (ho:=ho);refine .pu .as (.nil (.ret ?_));exact⟨_,.tmp rfl .nil,_,_,.refl _ _,rfl,rfl⟩
theorem XH(v:Value)(es:List (List Value))(hv:Gn 1 v es L P)(hl:es.length≤1000000)(ho:∀f∈es,ones f=true):Sp SET 206 [v] L P (fun r L' P'=>L'=OwF 9 1 r es::L∧P'=P):=
 Sp.fact (wg hv) (fun h=>by
  rcases h with⟨rfl,c,rfl⟩|⟨a,c,rfl⟩
  ·exact Zdf L P c
  ·exact Zdg L P a c es hv hl ho)
theorem BL(b c i p:Nat)(es:List (List Value))(hip:i<p)(hp:p≤es.length)(hc:es.length≤c/2)(hl:es.length≤1000000)(ho:∀f∈es,ones f=true):Sp SET 196 [.slice (some ⟨b,0,none⟩) es.length c,.int .i64 (i:Nat),.int .i64 (p:Nat)] (Ow 1 (.slice (some ⟨b,0,none⟩) es.length c) es::L) P (fun r L' P'=>r=.slice (some ⟨b,0,none⟩) (i+(es.length-p)) c∧L'=Ow 1 r (es.take i++es.drop p)::L∧P'=P):=by
 refine .bo (fn:=Tryz.f196) (N:=32) ?_;refine .seq (.region (.pu .as (.nil (.seq (.region (.pu .mv (.pu .mv (.pu .mv (.pu .mv (.lk .ln ?_))))))))));refine .pu (.sl3 (k:=1) (p:=i) (q:=p) (m:=es.length) hc hp (by omega)) ?_;refine .nil (.seq (.seq (.region (.pu .mv (.pu .mv (.pu .cn (.nil ?_)))))));refine .no rfl (.skip (.seq (.region (.pu .mv (.lk .ln ?_)))));refine .pu .as (.nil ?_);refine .seq (.drawn fun _=>?_);refine .pu .mv (.pu .mv ?_);refine .lo 0 0 (.sl (k:=1) (p:=0) (q:=i) (es:=es) rfl (fun m hm=>bdn)) (.o .l0) ?_;refine .pu .mv (.pu .mv ?_);refine .lo 0 0 (.sl (k:=1) (p:=p) (q:=es.length) (es:=es) bdn (fun m hm=>rfl)) (.o .l0) ?_;refine .wo (WO.apself (k:=1) (i:=i) (p:=p) (es:=es) rfl rfl rfl rfl rfl rfl rfl rfl .z rfl (by omega) hp (by show es.length*16≤_;omega) ho ?_);refine .pu .as (.nil (.cons (.yes (.o .l0) (.skip .nil)) (.cons (.yes (.o .l0) (.skip .nil)) .nil)) (.seq (.region (.pu .mv (.pu .mv ?_)))))
 have hlen:(es.take i++es.drop p).length=i+(es.length-p):=by rw[Zd,Zq,Z5];omega
 refine .lk .ln ?_;refine .pu .mv ?_;refine .slb (k:=1) .l0 (bdn (n:=(es.take i++es.drop p).length) (hn:=by omega)) (bdn (n:=es.length)) hc ?_;refine .clrt (k:=1) (b:=b) (o:=0+(es.take i++es.drop p).length*1) (es:=es.take i++es.drop p) (r:=es.length-(es.take i++es.drop p).length) ?_ .z (by omega) (by omega) (.inr (by omega));refine .nil (.seq (.region (.pu .mv (.pu .as (.nil (.ret ?_))))));exact⟨_,.tmp rfl .nil,_,_,.refl _ _,rfl,rfl,rfl⟩
theorem Zdh:Sp SET 246 [.slice none 0 0,.int .i64 0] L P (fun r L' P'=>L'=Ow 1 r []::L∧P'=P):=by
 refine .bo (fn:=Tryz.f246) (N:=26) ?_;refine .seq (.region (.pu .as (.nil (.seq (.seq (.region (.pu .mv (.pu .cn (.nil ?_)))))))));refine .no rfl (.skip (.seq (.seq (.region (.pu .mv (.pu .mv (.ent (Ent.none (k:=1)) ?_)))))));refine .pu .cap0 (.pu .mv (.lk (.ln (k:=1) (es:=[]) (hm:=.o .l0)) ?_));rw[Zo];refine .pu .sub (.pu .sub (.pu .as (.nil (.seq (.region (.pu .mv (.pu .cn (.nil ?_))))))));refine .no rfl (.skip (.seq (.region (.pu .mv (.pu .as (.nil (.ret ?_)))))));exact⟨_,.tmp rfl .nil,_,_,.refl _ _,rfl,rfl⟩
theorem Zdi(n:Nat)(hn:n≠0)(hl:n≤1000000):Sp SET 246 [.slice none 0 0,.int .i64 (n:Nat)] L P (fun r L' P'=>L'=Ow 1 r []::L∧P'=P):=by
 refine .bo (fn:=Tryz.f246) (N:=26) ?_;refine .seq (.region (.pu .as (.nil (.seq (.seq (.region (.pu .mv (.pu .cn (.nil ?_)))))))));refine .no rfl (.skip (.seq (.seq (.region (.pu .mv (.pu .mv (.ent (Ent.none (k:=1)) ?_)))))));refine .pu .cap0 (.pu .mv (.lk (.ln (k:=1) (es:=[]) (hm:=.o .l0)) ?_));rw[Zo];refine .pu .sub (.pu .sub (.pu .as (.nil (.seq (.region (.pu .mv (.pu .cy (.nil ?_))))))));refine .yes rfl (.region (.pu .mv (.pu .mv (.pu .cap0 ?_))));refine .sl (k:=1) (p:=0) (q:=0) (es:=[]) (.o .l0) rfl (fun m hm=>bdn (n:=0) (hn:=Zj _)) ?_;refine .pu .mv ?_;refine .apzero (k:=1) (m:=n) hn (fun b22=>?_) (hn:=by show n*16≤_;omega);refine .pu .mv (.lk (.ln (k:=1) (es:=[]) (hm:=.o .l1)) ?_);rw[Zo];refine .sl (k:=1) (p:=0) (q:=0) (es:=Z7 n _) (.f (fun _ _=>OwF.sl) .l0) rfl (fun m hm=>bdn (n:=0) (hn:=Zj _)) ?_
 refine .pu .as (.nil (.seq (.region (.pu .mv (.pu .as (.nil (.ret ?_)))))));exact⟨_,.tmp rfl .nil,_,_,(Ent.ofF.trans ((Ent.owp (q:=0) (Zj _)).trans (Ent.swap.trans Ent.drop))),rfl,rfl⟩
theorem Zdj(n:Nat)(hl:n≤1000000):Sp SET 246 [.slice none 0 0,.int .i64 (n:Nat)] L P (fun r L' P'=>L'=Ow 1 r []::L∧P'=P):=by
 by_cases hn:n=0
 ·subst hn;exact Zdh L P
 ·exact Zdi L P n hn hl
theorem Zdk(v:Value)(xs:List (Value×List (List Value)))(hv:Gn 1 v (xs.map fun x=>[x.1]) L P)(hx:∀x∈xs,Gn 1 x.1 x.2 L P)(hl:xs.length≤1000)(hc:∀x∈xs,x.2.length≤1000)(ho:∀x∈xs,∀f∈x.2,ones f=true):Sp SET 218 [v] L P (fun r L' P'=>L'=Ow 1 r (xs.flatMap (·.2))::L∧P'=P):=by
 refine .bo (fn:=Tryz.f218) (N:=35) ?_;refine .seq (.region (.pu .as (.nil (.seq (.region (.pu .as (.nil (.seq (.seq (.region (.pu .mv (.lk .ln ?_))))))))))));refine .pu .mv (.nil ?_);refine .block (W.loop (fun i:Nat=>i≤xs.length) (fun i=>xs.length-i) (fun i=>[(11,.int .i64 (i:Nat)),(10,.int .i64 (xs.map fun x=>[x.1]).length),(9,v),(3,.int .i64 ((xs.take i).flatMap (·.2)).length),(0,v)]) (fun _=>L) (fun _=>P) 0 (Zj _) ⟨rfl,rfl,rfl,rfl,rfl,trivial⟩ (.refl _ _) (fun i hi=>?_));have hlen:(xs.map fun x=>[x.1]).length=xs.length:=Zc ..;have hcat:∀i,i≤xs.length→((xs.take i).flatMap (·.2)).length≤1000*i:=wh hc;by_cases hlt:i<xs.length
 ·refine .seq (.region (.pu .cy (.nil (.seq (.yes rfl (.skip (.seq (.block (.seq (.region ?_))))))))));have hg:(xs.map fun x=>[x.1])[((i:Nat):Int).toNat]? =some [xs[i].1]:=by simp[hlt]
  have hs:=bh hlt;have hb:=hcat (i+1) hlt;have hs2:=congrArg Yi hs;rw[Zd]at hs2;have hxi:=hx _ (Zz hlt);refine .lk .ia ?_;refine .le hg ?_;refine .pu .as (.nil (.seq (.region (.pu .mv (.pu .mv (.lk (.ln (hm:=hxi)) ?_))))));refine .pu .add (.pu .as (.nil (.seq (.region (.pu .mv (.pu .cn (.nil ?_)))))));refine .no rfl (.skip (.region (.pu .add (.pu .mv (.nil ?_)))));refine⟨i+1,hlt,by show xs.length-(i+1)<xs.length-i;omega,⟨rfl,rfl,rfl,?_,rfl,trivial⟩,.refl _ _⟩;show some (Value.int .i64 _)=some (Value.int .i64 _);rw[hs,Zd];rfl
 ·refine .seq (.region ?_);have e:xs.take i=xs:=Z8 (by omega);have hall:=hcat xs.length (Ze _);rw[Z8 (Ze _)]at hall;rw[e];refine .pu .cn (.nil (.seq (.no rfl (.exit (.seq (.region (.pu .mv ?_)))))));refine .call (Zdj _ _ (xs.flatMap (·.2)).length (by omega)) ?_;rintro _ _ P ⟨rfl,rfl⟩;refine .pu .as (.nil (.seq (.seq (.region (.pu .mv (.lk (.ln (hm:=hv.bel)) ?_))))));refine .pu .mv (.nil ?_);refine .block (W.loop (fun a:Nat×Value=>a.1≤xs.length) (fun a=>xs.length-a.1) (fun a=>[(27,.int .i64 (a.1:Nat)),(26,.int .i64 (xs.map fun x=>[x.1]).length),(25,v),(6,a.2)]) (fun a=>Ow 1 a.2 ((xs.take a.1).flatMap (·.2))::L) (fun _=>P) (0,_) (Zj _) ⟨rfl,rfl,rfl,rfl,trivial⟩ (.refl _ _) (fun⟨i,r⟩ hi=>?_));by_cases hlt2:i<xs.length
  ·refine .seq (.region (.pu .cy (.nil (.seq (.yes rfl (.skip (.seq (.block (.seq (.region ?_))))))))));have hg:(xs.map fun x=>[x.1])[((i:Nat):Int).toNat]? =some [xs[i].1]:=by simp[hlt2]
   have hs:=bh hlt2;have hb:=hcat (i+1) hlt2;have hs2:=congrArg Yi hs;rw[Zd]at hs2;have hxi:=hx _ (Zz hlt2);refine .lk (.ia (hm:=hv.bel)) ?_;refine .le hg ?_ (hm:=hv.bel);refine .pu .as (.nil (.region (.pu .mv (.pu .mv ?_))));refine .ap (fun v33=>?_) (hw:=hxi.bel) (hn:=by show(((xs.take i).flatMap (·.2)).length+xs[i].2.length)*16≤_;omega) (ho:=ho _ (Zz hlt2));refine .pu .as (.nil (.region (.pu .add (.pu .mv (.nil ?_)))));refine⟨(i+1,_),hlt2,by show xs.length-(i+1)<xs.length-i;omega,⟨rfl,rfl,rfl,rfl,trivial⟩,?_⟩;show Ent _ _ (Ow 1 _ ((xs.take (i+1)).flatMap (·.2))::L) P;rw[hs];exact .refl _ _
  ·refine .seq (.region (.pu .cn (.nil (.seq (.no rfl (.exit (.seq (.region (.pu .mv (.pu .as (.nil (.ret ?_))))))))))));refine⟨_,.tmp rfl .nil,_,_,.refl _ _,?_,rfl⟩;have e:xs.take i=xs:=Z8 (Xk hlt2);rw[e];rfl
def OwB(z0 k:Nat)(v:Value)(es:List (List Value)):Asn where
 p:=fun S h=>∃b c m t,v=.slice (some ⟨b,0,none⟩) es.length c∧S b∧h.get b=some (.cells t m z0)∧es.length≤c/2∧c/2*k≤m∧(c%2=1∨zs z0=k)∧Mf k 0 t es
 loc:=fun S h h' e ⟨b,c,m,t,g1,g2,g3,g4⟩=>⟨b,c,m,t,g1,g2,by rw[e b g2];exact g3,g4⟩
theorem OwB.ow{z0 k:Nat}{v:Value}{es:List (List Value)}{S:Nat→Prop}{h:T Gg}(H:(OwB z0 k v es).p S h):(Ow k v es).p S h:=by
 obtain⟨b,c,m,t,g1,g2,g3,g4⟩:=H;exact .inr ⟨b,c,m,z0,t,g1,g2,g3,g4⟩
theorem _root_.Go.Lx.WR.blB{E:Env}{N:Nat}{ops l:List Oper}{al:Al}{L P:List Asn}{Q:Al→List Asn→List Asn→Prop}{u n d t k:Nat}{ps:Array (Nat×Operand)}{pos:String}{af:Array Edge}{es:List (List Value)}(h:∀v,WR E N ops l ((d,v)::al) (OwB 0 k v es::L) P Q)(hf:bls E al u n ps=some es.flatten:=by rfl)(hn:es.length=n:=by rfl)(hk:∀e∈es,e.length=k:=by simp)(hN:Nat.ble d N=true:=by rfl):WR E N ops (⟨some d,.buildSlice u n ps,t,pos,af,none⟩::l) al L P Q:=by
 refine WR.op rfl rfl hN (fun S s tm hs ha=>?_);obtain⟨h1,h2⟩:=hs.new (A:=OwB 0 k (.slice (some ⟨s.nx,0,none⟩) es.length (2*n+1)) es) (o:=.cells (T.e.fill 0 es.flatten) es.flatten.length 0) (fun h hg=>by
  rw[Nk hk]at hg;refine⟨s.nx,2*n+1,_,_,rfl,rfl,hg,by omega,?_,.inl (by omega),Co hk⟩;have:(2*n+1)/2=n:=by omega
  rw[this,hn];exact Ze _)
 refine⟨_,_,_,_,_,⟨0,0,?_⟩,h2,h1,h _⟩;show N1 u n ps E tm s=_;unfold bls at hf;cases hu:slT E u with
 |none=>rw[hu]at hf;cases hf
 |some p=>
  obtain⟨e,j⟩:=p;obtain⟨i,g1,g2,g3⟩:=M3 hu;cases hp:ptl al ps.toList with
  |none=>rw[hu,hp]at hf;cases hf
  |some r=>
   rw[hu,hp]at hf;simp only at hf;unfold N1;rw[g1,kp ha hp];simp only;rw[g2];simp only;rw[g3];simp only;cases hb:Nat.ble (n*j.size) 65536 with
   |false=>rw[hb]at hf;cases hf
   |true=>
    rw[hb]at hf;simp only[cond_true]at hf ⊢;rw[hf,hn];rfl
theorem BP{s:AS}{k b m z:Nat}{t:T Value}{es:List (List Value)}(hg:s.h.get b=some (.cells t m z))(hm:es.length*k≤m)(he:Mf k 0 t es):Go.Ax.rdN s b 0 (es.length*k)=some es.flatten:=by
 unfold Go.Ax.rdN;rw[hg];simp only;rw[Zw,Z0 hm];simp only[cond_true];exact he.read
theorem Zdl{k i:Nat}{es:List (List Value)}(h:∀e∈es,e.length=k)(hi:i≤es.length):es.flatten.take (i*k)=(es.take i).flatten∧es.flatten.drop (i*k)=(es.drop i).flatten:=by
 have e:es.flatten=(es.take i).flatten++(es.drop i).flatten:=by rw[←Kr,Ym]
 have hl:(es.take i).flatten.length=i*k:=by
  rw[Nk (fun e he=>h e (V3 he)),Zq,Nat.min_eq_left hi]
 rw[e];constructor
 ·rw[←hl,Kt]
 ·rw[←hl,Jy]
theorem ones_flat :∀ {es:List (List Value)},(∀e∈es,ones e=true)→ones es.flatten=true
 |[],_=>rfl
 |e::es,h=>by
  rw[List.flatten_cons];exact GZ (h e (List.mem_cons_self ..)) (ones_flat (fun f hf=>h f (Zs _ hf)))
theorem Zdm(v w:Value)(i:Nat)(es fs:List (List Value))(hi:i<es.length)(hf:fs≠[])(hl:es.length+fs.length≤1000000)(ho:∀e∈es,ones e=true)(ho2:∀e∈fs,ones e=true):Sp SET 153 [v,.int .i64 (i:Nat),w] (OwF 42 2 v es::OwB 0 2 w fs::L) P (fun r L' P'=>L'=Ow 2 r (es.take i++(fs++es.drop i))::L∧P'=P):=
 Sp.prim (p:=orP Cr (Cp SE 153)) (by rfl) (fun S s hs=>by
  obtain⟨S1,S2,q1,q2,q3,⟨hO,hT⟩,T1,T2,p1,p2,p3,⟨b',c',m',t',rfl,r1,r2,r3,r4,r5,r6⟩,hL⟩:=hs.own;have hne:es≠[]:=fun e=>by subst e;simp at hi
  rcases hO with⟨h0,_⟩|⟨b,c,m,z,t,rfl,g1,g2,g3,g4,g5,g6⟩
  ·exact absurd h0 hne
  rcases hT ⟨b,0,none⟩ es.length c rfl with⟨h0,_⟩|⟨hc,hz⟩
  ·exact absurd (Yh.1 h0) hne
  obtain rfl:=hz t m z g2;have hbb:b≠b':=fun e=>by subst e;exact q3 b g1 (p1 b r1)
  have hzs:Za (zs (tz 2 42)) 2=true:=by rw[Na (by decide)];rfl
  have hz2:tz 2 42%2=0:=by decide
  have hm:es.length*2≤m:=Ye (Yo 2 g3) g4;have hm':fs.length*2≤m':=Ye (Yo 2 r3) r4;have hfl:1≤fs.length:=by
   rcases Xi fs.length with e|e
   ·exact absurd (Yh.1 e) hf
   ·exact e
  have hrun:Cr [.slice (some ⟨b,0,none⟩) es.length c,.int .i64 (i:Nat),.slice (some ⟨b',0,none⟩) fs.length c'] s=some (.slice (some ⟨s.nx,0,none⟩) (es.length+fs.length) (2*(es.length+fs.length)),(s.upd b .dead).rowz (zg 2 (tz 2 42) 42) (es.flatten.take (i*2)++(fs.flatten++es.flatten.drop (i*2)))):=by
   show(match s.h.get b,s.h.get b' with
    |some (.cells ca na za),some (.cells cv nv zv)=>_
    |_,_=>none)=_
   rw[g2,r2];simp only;have hb0:Za b b'=false:=by
    cases hb:Za b b' with
    |false=>rfl
    |true=>exact absurd (Nat.eq_of_beq_eq_true hb) hbb
   rw[hzs,hz2,hc,Z0 hfl,hb0,Z0 hl,Z0 (show 1≤m' by omega),N7.2 hi];rw[BP g2 hm g6,BP r2 hm' r6];simp only[Nat.zero_mod,Nat.beq_eq,decide_true,U9,Bool.and_self,cond_true,Bool.and_true];rw[ones_flat ho,ones_flat ho2];rfl
  have hk:∀e∈es,e.length=2:=g6.len;have hk':∀e∈fs,e.length=2:=r6.len;have hR:∀e∈es.take i++(fs++es.drop i),e.length=2:=fun e he=>by
   rcases Zk.1 he with he|he
   ·exact hk e (V3 he)
   ·rcases Zk.1 he with he|he
    ·exact hk' e he
    ·exact hk e (List.mem_of_mem_drop he)
  have hRl:(es.take i++(fs++es.drop i)).length=es.length+fs.length:=by
   rw[Zd,Zd,Zq,Z5];omega
  obtain⟨c1,c2⟩:=Zdl (i:=i) hk (by omega);have hcells:es.flatten.take (i*2)++(fs.flatten++es.flatten.drop (i*2))=(es.take i++(fs++es.drop i)).flatten:=by
   rw[c1,c2,Kr,Kr]
  have hzg:zs (zg 2 (tz 2 42) 42)=2:=by decide
  rw[hcells]at hrun;obtain⟨S',k1,k2⟩:=(hs.turn (B:=fun q=>Ow 2 (.slice (some ⟨q,0,none⟩) (es.length+fs.length) (2*(es.length+fs.length))) (es.take i++(fs++es.drop i))) (o:=.cells (T.e.fill 0 (es.take i++(fs++es.drop i)).flatten) (es.take i++(fs++es.drop i)).flatten.length (zg 2 (tz 2 42) 42)) (fun q h hg=>by
   rw[Nk hR]at hg;have:=Dd (k:=2) (es:=es.take i++(fs++es.drop i)) (c:=2*(es.length+fs.length)) (.inr ⟨by rw[hRl],hzg⟩) (Co hR) h hg;rw[hRl]at this;exact this)).2 b (fun U h hp=>by
    rcases hp.1 with⟨h0,_⟩|⟨b2,c2,m2,z2,t2,e2,u1,_⟩
    ·exact absurd h0 hne
    ·cases e2;exact u1)
  refine⟨_,_,S',_,P,?_,k2,⟨k1.own.tail (fun _ h=>h.drop),k1.per,k1.ex,k1.fresh⟩,rfl,rfl⟩;show(match Cr _ s with
   |some r=>some r
   |none=>_)=_
  rw[hrun];rfl)
theorem Zdn(s:AS)(v w:Value)(n c:Nat)(a:Option Addr)(hv:v=.slice a n c):Cr [v,.int .i64 (n:Nat),w] s=none:=by
 subst hv;unfold Cr;split
 ·rename_i h;injection h with h1 h2
  injection h2 with h2 h3
  injection h1 with h1 h4 h5
  injection h2 with _ h2
  have h2:(n:Nat)=_:=Zpv.1 h2;subst h4;subst h2;split
  ·have:Nat.blt n n=false:=by
    cases hb:Nat.blt n n with
    |false=>rfl
    |true=>rw[N7]at hb;omega
   rw[this];simp
  ·rfl
 ·rfl
theorem Zdo(v w:Value)(es fs:List (List Value))(hf:fs≠[])(hl:es.length+fs.length≤1000000)(ho2:∀e∈fs,ones e=true):Sp SE 153 [v,.int .i64 (es.length:Nat),w] (OwF 42 2 v es::OwB 0 2 w fs::L) P (fun r L' P'=>L'=Ow 2 r (es++fs)::L∧P'=P):=by
 have hfl:fs.length≠0:=fun e=>hf (Yh.1 e);refine .bo (fn:=Tryz.f153) (N:=94) ?_;refine .seq (.region (.pu .as (.nil (.seq (.region ?_)))));refine .ent (Ent.ofF.trans (Ent.swap.trans ((Ent.hd (fun _ _=>OwB.ow)).trans Ent.swap))) ?_;refine .pu .mv (.pu .mv ?_);refine .sl (k:=2) (p:=es.length) (q:=es.length) (es:=es) (.o .l0) (bdn (hn:=Ze _)) (fun m hm=>rfl) ?_;refine .nil (.seq (.region (.pu .mv (.lk (.ln (hm:=.o .l1)) ?_))));refine .pu .as (.nil (.seq (.seq (.region (.pu .mv (.pu .cn (.nil ?_)))))));refine .no rfl (.skip (.seq (.region (.pu .mv (.lk (.ln (hm:=.o .l0)) ?_)))));refine .pu .as (.nil (.seq (.seq (.region (.pu .mv (.pu .mv ?_))))));refine .pu (.cy (hq:=by simp[N8])) ?_;refine .nil ?_;refine .yes rfl (.seq (.region (.pu .mv (.pu .mv ?_))));refine .ap (fun v25=>?_) (hw:=.o .l1) (hn:=by show(es.length+fs.length)*32≤_;omega) (ho:=ho2)
 refine .pu .as (.nil (.ret ?_));exact⟨_,.tmp rfl .nil,_,_,(Ent.swap.trans Ent.drop),rfl,rfl⟩
theorem Zdp(v w:Value)(es fs:List (List Value))(hf:fs≠[])(hl:es.length+fs.length≤1000000)(ho2:∀e∈fs,ones e=true):Sp SET 153 [v,.int .i64 (es.length:Nat),w] (OwF 42 2 v es::OwB 0 2 w fs::L) P (fun r L' P'=>L'=Ow 2 r (es++fs)::L∧P'=P):=
 Sp.fact (p:=∃a c,v=.slice a es.length c) (fun S s hs=>Gi (.f (fun _ _=>OwF.sl) .l0) S s hs) (fun⟨a,c,hv⟩=>
  Sp.lim (E:=SE) (p:=orP Cr (Cp SE 153)) (by rfl) (fun s=>by
   show(match Cr _ s with
    |some r=>some r
    |none=>Cp SE _ _ s)=_
   rw[Zdn s v w es.length c a hv]) (Zdo L P v w es fs hf hl ho2))
theorem Zdq(v w:Value)(i:Nat)(es fs:List (List Value))(hi:i≤es.length)(hf:fs≠[])(hl:es.length+fs.length≤1000000)(ho:∀e∈es,ones e=true)(ho2:∀e∈fs,ones e=true):Sp SET 153 [v,.int .i64 (i:Nat),w] (OwF 42 2 v es::OwB 0 2 w fs::L) P (fun r L' P'=>L'=Ow 2 r (es.take i++(fs++es.drop i))::L∧P'=P):=by
 rcases Zt i es.length with h|h
 ·exact Zdm L P v w i es fs h hf hl ho ho2
 ·obtain rfl:i=es.length:=by omega
  rw[Ul,List.drop_length,Z9];exact Zdp L P v w es fs hf hl ho2
abbrev Pr :=Bs×Bs
def Ge(p:Pr):List Value:=[S p.1,S p.2]
def encS(s:Bs):List Value:=[S s]
def encI(n:Nat):List Value:=[.int .i64 (n:Int)]
theorem C8{ps:List Pr}{i:Nat}(h:i<ps.length):(ps.map Ge)[i]? =some (Ge ps[i]):=by simp[h]
theorem Dw{ps:List Bs}{i:Nat}(h:i<ps.length):(ps.map encS)[i]? =some (encS ps[i]):=by simp[h]
theorem CZ{ps:List Nat}{i:Nat}(h:i<ps.length):(ps.map encI)[i]? =some (encI ps[i]):=by simp[h]
def isKey(s:Bs):Bool:=decide (s≠[])&&decide (s.length≤32)
theorem wj(k:Bs):Sp SET 150 [S k] L P (fun r L' P'=>r=.bool (isKey k)∧L'=L∧P'=P):=by
 refine .bo (fn:=Tryz.f150) (N:=9) ?_;refine .seq (.region (.pu .as (.nil (.seq (.region (.pu .mv ?_))))));by_cases h1:k=[]
 ·refine .pu (.sne (b:=[]) (q:=false) (hq:=by simp[h1])) ?_;refine .pu .mv (.off (.off (.off (.pu .pk (.pu .as (.nil (.ret ?_)))))));exact⟨_,.tmp rfl .nil,_,_,.refl _ _,by simp[isKey,h1];rfl,rfl,rfl⟩
 refine .pu (.sne (b:=[]) (q:=true) (hq:=by simp[h1])) ?_;refine .pu .mv (.on (.pu .mv (.on (.pu .ls (.on (.pu .cmp (.pu .pk (.pu .as (.nil (.ret ?_))))))))));refine⟨_,.tmp rfl .nil,_,_,.refl _ _,?_,rfl,rfl⟩;show Value.bool _=_;congr 1;simp[isKey,h1];omega
def Dx(p:Pr):Bool:= !isKey p.1||decide (48<p.2.length)
theorem Zdr(p:Pr):Sp SET 207 [.agg ⟨Ge p⟩] L P (fun r L' P'=>r=.bool (Dx p)∧L'=L∧P'=P):=by
 refine .bo (fn:=Tryz.f207) (N:=12) ?_;refine .seq (.region ?_);refine .bx (cs:=[_,_]) fun b1=>?_;refine .pu .as (.nil (.seq (.region (.pu .fa (.ld ?_)))));refine .call (wj _ _ _) ?_;rintro _ _ _ ⟨rfl,rfl,rfl⟩;refine .pu .nt (.pu .mv ?_);cases hk:isKey p.1
 ·refine .off (.off (.off (.off (.pu .pk (.pu .as (.nil (.ret ?_)))))));exact⟨_,.tmp rfl .nil,_,_,.d1,by simp[Dx,hk];rfl,rfl,rfl⟩
 refine .on (.pu .fa (.on (.ld ?_)));refine .on (.pu .ls (.on (.pu .cmp (.pu .pk (.pu .as (.nil (.ret ?_)))))));refine⟨_,.tmp rfl .nil,_,_,.d1,?_,rfl,rfl⟩;show Value.bool _=_;congr 1;simp[Dx,hk];omega
def fi{α:Type}(p:α→Bool)(xs:List α):Int:=match xs.findIdx? p with
 |some i=>(i:Int)
 |none=> -1
theorem XM{α:Type}{p:α→Bool}{xs:List α}{i:Nat}(h:i<xs.length)(hp:p xs[i]=true)(hn:∀j (hj:j<i),p xs[j]=false):fi p xs=i:=by
 unfold fi;have:xs.findIdx? p=some i:=by
  rw[Zod];exact⟨h,hp,fun j hj=>by rw[hn j hj];simp⟩
 rw[this]
theorem XN{α:Type}{p:α→Bool}{xs:List α}(hn:∀j (hj:j<xs.length),p xs[j]=false):fi p xs= -1:=by
 unfold fi;have:xs.findIdx? p=none:=by
  rw[Kd];intro x hx;obtain⟨j,hj,rfl⟩:=List.getElem_of_mem hx;exact hn j hj
 rw[this]
theorem XB{α:Type}(p:α→Bool)(xs:List α):decide (0≤fi p xs)=xs.any p:=by
 unfold fi;cases h:xs.findIdx? p with
 |some i=>
  simp only;rw[Zod]at h;obtain⟨h1,h2,_⟩:=h;rw[decide_eq_true (by omega)];exact(List.any_eq_true.2 ⟨_,Zz h1,h2⟩).symm
 |none=>
  simp only;rw[Kd]at h;rw[decide_eq_false (by omega)];symm;rw[V1];intro x hx;rw[h x hx];simp
theorem Zds(v:Value)(xs:List Pr)(g:FuncId)(fs cs:Array Value)(p:Pr→Bool)(hv:Gn 2 v (xs.map Ge) L P)(hl:xs.length≤1099511627776)
  (hp:∀x∈xs,Sp SET g (fs.toList++[.agg ⟨Ge x⟩]++cs.toList) L P (fun r L' P'=>r=.bool (p x)∧L'=L∧P'=P)):Sp SET 241 [v,.func (.func g) fs cs] L P (fun r L' P'=>r=.int .i64 (fi p xs)∧L'=L∧P'=P):=by
 refine .bo (fn:=Tryz.f241) (N:=18) ?_;have hlen:(xs.map Ge).length=xs.length:=Zc ..;refine .seq (.region (.pu .as (.nil (.seq (.seq (.region (.pu .mv (.lk .ln ?_))))))));refine .pu .mv (.nil ?_);refine .block (W.loop (fun i=>i≤xs.length∧∀j (hj:j<i) (hx:j<xs.length),p xs[j]=false) (fun i=>xs.length-i) (fun i=>[(8,.int .i64 (i:Nat)),(7,.int .i64 (xs.map Ge).length),(0,v),(1,.func (.func g) fs cs)]) (fun _=>L) (fun _=>P) 0 ⟨by omega,fun j hj=>by omega⟩ ⟨rfl,rfl,rfl,rfl,trivial⟩ (.refl _ _) (fun i hi=>?_));refine .seq (.region (.pu .cmp (.nil ?_)));refine .seq (.ite rfl (fun h=>?_) (fun h=>?_))
 ·have h:=of_decide_eq_true h;have hlt:i<xs.length:=by omega
  refine .skip (.seq (.block (.seq (.region (.pu .mv (.pu .as (.nil (.seq (.region (.pu .mv (.pu .mv (.pu .mv (.lk .ia ?_)))))))))))));refine .la (C8 (by simpa using hlt)) ?_;refine .call (hp _ (Zz (by simpa using hlt))) ?_;rintro _ _ _ ⟨rfl,rfl,rfl⟩;refine .nil ?_;refine .ite rfl (fun h=>?_) (fun h=>?_)
  ·refine .seq (.region (.pu .mv (.pu .as (.nil (.ret ?_)))));refine⟨_,.tmp rfl .nil,_,_,.refl _ _,?_,rfl,rfl⟩;rw[XM hlt (by simpa using h) (fun j hj=>hi.2 j hj (by omega))];rfl
  refine .skip (.region (.pu .add (.pu .mv (.nil ?_))));refine⟨i+1,⟨by omega,fun j hj hx=>?_⟩,by show xs.length-(i+1)<xs.length-i;omega,⟨rfl,rfl,rfl,rfl,trivial⟩,.refl _ _⟩;rcases Jz.1 hj with hj|rfl
  ·exact hi.2 j hj hx
  ·simpa using h
 have h:=of_decide_eq_false h;refine .exit (.seq (.region (.pu .as (.nil (.ret ?_)))));refine⟨_,.tmp rfl .nil,_,_,.refl _ _,?_,rfl,rfl⟩;rw[XN (fun j hj=>hi.2 j (by omega) hj)];rfl
theorem Zdt(v:Value)(xs:List Pr)(g:FuncId)(fs cs:Array Value)(p:Pr→Bool)(hv:Gn 2 v (xs.map Ge) L P)(hl:xs.length≤1099511627776)
  (hp:∀x∈xs,Sp SET g (fs.toList++[.agg ⟨Ge x⟩]++cs.toList) L P (fun r L' P'=>r=.bool (p x)∧L'=L∧P'=P)):Sp SET 208 [v,.func (.func g) fs cs] L P (fun r L' P'=>r=.bool (xs.any p)∧L'=L∧P'=P):=by
 refine .bo (fn:=Tryz.f208) (N:=8) ?_;refine .seq (.region (.pu .as (.nil (.seq (.region (.pu .mv (.pu .mv ?_)))))));refine .call (Zds _ _ _ _ _ _ _ p hv hl hp) ?_;rintro _ _ _ ⟨rfl,rfl,rfl⟩;refine .pu .cmp (.pu .as (.nil (.ret ?_)));refine⟨_,.tmp rfl .nil,_,_,.refl _ _,?_,rfl,rfl⟩;show Value.bool _=_;rw[XB]
theorem Zdu(v:Value)(xs:List Bs)(g:FuncId)(fs cs:Array Value)(p:Bs→Bool)(hv:Gn 1 v (xs.map encS) L P)(hl:xs.length≤1099511627776)
  (hp:∀x∈xs,Sp SET g (fs.toList++[S x]++cs.toList) L P (fun r L' P'=>r=.bool (p x)∧L'=L∧P'=P)):Sp SET 288 [v,.func (.func g) fs cs] L P (fun r L' P'=>r=.int .i64 (fi p xs)∧L'=L∧P'=P):=by
 refine .bo (fn:=Tryz.f288) (N:=18) ?_;have hlen:(xs.map encS).length=xs.length:=Zc ..;refine .seq (.region (.pu .as (.nil (.seq (.seq (.region (.pu .mv (.lk .ln ?_))))))));refine .pu .mv (.nil ?_);refine .block (W.loop (fun i=>i≤xs.length∧∀j (hj:j<i) (hx:j<xs.length),p xs[j]=false) (fun i=>xs.length-i) (fun i=>[(8,.int .i64 (i:Nat)),(7,.int .i64 (xs.map encS).length),(0,v),(1,.func (.func g) fs cs)]) (fun _=>L) (fun _=>P) 0 ⟨by omega,fun j hj=>by omega⟩ ⟨rfl,rfl,rfl,rfl,trivial⟩ (.refl _ _) (fun i hi=>?_));refine .seq (.region (.pu .cmp (.nil ?_)));refine .seq (.ite rfl (fun h=>?_) (fun h=>?_))
 ·have h:=of_decide_eq_true h;have hlt:i<xs.length:=by omega
  refine .skip (.seq (.block (.seq (.region (.pu .mv (.pu .as (.nil (.seq (.region (.pu .mv (.pu .mv (.pu .mv (.lk .ia ?_)))))))))))));refine .le (Dw (by simpa using hlt)) ?_;refine .call (hp _ (Zz (by simpa using hlt))) ?_;rintro _ _ _ ⟨rfl,rfl,rfl⟩;refine .nil ?_;refine .ite rfl (fun h=>?_) (fun h=>?_)
  ·refine .seq (.region (.pu .mv (.pu .as (.nil (.ret ?_)))));refine⟨_,.tmp rfl .nil,_,_,.refl _ _,?_,rfl,rfl⟩;rw[XM hlt (by simpa using h) (fun j hj=>hi.2 j hj (by omega))];rfl
  refine .skip (.region (.pu .add (.pu .mv (.nil ?_))));refine⟨i+1,⟨by omega,fun j hj hx=>?_⟩,by show xs.length-(i+1)<xs.length-i;omega,⟨rfl,rfl,rfl,rfl,trivial⟩,.refl _ _⟩;rcases Jz.1 hj with hj|rfl
  ·exact hi.2 j hj hx
  ·simpa using h
 have h:=of_decide_eq_false h;refine .exit (.seq (.region (.pu .as (.nil (.ret ?_)))));refine⟨_,.tmp rfl .nil,_,_,.refl _ _,?_,rfl,rfl⟩;rw[XN (fun j hj=>hi.2 j (by omega) hj)];rfl
theorem Zdv(v:Value)(xs:List Bs)(g:FuncId)(fs cs:Array Value)(p:Bs→Bool)(hv:Gn 1 v (xs.map encS) L P)(hl:xs.length≤1099511627776)
  (hp:∀x∈xs,Sp SET g (fs.toList++[S x]++cs.toList) L P (fun r L' P'=>r=.bool (p x)∧L'=L∧P'=P)):Sp SET 269 [v,.func (.func g) fs cs] L P (fun r L' P'=>r=.bool (xs.any p)∧L'=L∧P'=P):=by
 refine .bo (fn:=Tryz.f269) (N:=8) ?_;refine .seq (.region (.pu .as (.nil (.seq (.region (.pu .mv (.pu .mv ?_)))))));refine .call (Zdu _ _ _ _ _ _ _ p hv hl hp) ?_;rintro _ _ _ ⟨rfl,rfl,rfl⟩;refine .pu .cmp (.pu .as (.nil (.ret ?_)));refine⟨_,.tmp rfl .nil,_,_,.refl _ _,?_,rfl,rfl⟩;show Value.bool _=_;rw[XB]
theorem Zdw(v:Value)(xs:List Nat)(g:FuncId)(fs cs:Array Value)(p:Nat→Bool)(hv:Gn 1 v (xs.map encI) L P)(hl:xs.length≤1099511627776)
  (hp:∀x∈xs,Sp SET g (fs.toList++[.int .i64 (x:Int)]++cs.toList) L P (fun r L' P'=>r=.bool (p x)∧L'=L∧P'=P)):Sp SET 289 [v,.func (.func g) fs cs] L P (fun r L' P'=>r=.int .i64 (fi p xs)∧L'=L∧P'=P):=by
 refine .bo (fn:=Tryz.f289) (N:=18) ?_;have hlen:(xs.map encI).length=xs.length:=Zc ..;refine .seq (.region (.pu .as (.nil (.seq (.seq (.region (.pu .mv (.lk .ln ?_))))))));refine .pu .mv (.nil ?_);refine .block (W.loop (fun i=>i≤xs.length∧∀j (hj:j<i) (hx:j<xs.length),p xs[j]=false) (fun i=>xs.length-i) (fun i=>[(8,.int .i64 (i:Nat)),(7,.int .i64 (xs.map encI).length),(0,v),(1,.func (.func g) fs cs)]) (fun _=>L) (fun _=>P) 0 ⟨by omega,fun j hj=>by omega⟩ ⟨rfl,rfl,rfl,rfl,trivial⟩ (.refl _ _) (fun i hi=>?_));refine .seq (.region (.pu .cmp (.nil ?_)));refine .seq (.ite rfl (fun h=>?_) (fun h=>?_))
 ·have h:=of_decide_eq_true h;have hlt:i<xs.length:=by omega
  refine .skip (.seq (.block (.seq (.region (.pu .mv (.pu .as (.nil (.seq (.region (.pu .mv (.pu .mv (.pu .mv (.lk .ia ?_)))))))))))));refine .le (CZ (by simpa using hlt)) ?_;refine .call (hp _ (Zz (by simpa using hlt))) ?_;rintro _ _ _ ⟨rfl,rfl,rfl⟩;refine .nil ?_;refine .ite rfl (fun h=>?_) (fun h=>?_)
  ·refine .seq (.region (.pu .mv (.pu .as (.nil (.ret ?_)))));refine⟨_,.tmp rfl .nil,_,_,.refl _ _,?_,rfl,rfl⟩;rw[XM hlt (by simpa using h) (fun j hj=>hi.2 j hj (by omega))];rfl
  refine .skip (.region (.pu .add (.pu .mv (.nil ?_))));refine⟨i+1,⟨by omega,fun j hj hx=>?_⟩,by show xs.length-(i+1)<xs.length-i;omega,⟨rfl,rfl,rfl,rfl,trivial⟩,.refl _ _⟩;rcases Jz.1 hj with hj|rfl
  ·exact hi.2 j hj hx
  ·simpa using h
 have h:=of_decide_eq_false h;refine .exit (.seq (.region (.pu .as (.nil (.ret ?_)))));refine⟨_,.tmp rfl .nil,_,_,.refl _ _,?_,rfl,rfl⟩;rw[XN (fun j hj=>hi.2 j (by omega) hj)];rfl
theorem Zdx(v:Value)(xs:List Nat)(g:FuncId)(fs cs:Array Value)(p:Nat→Bool)(hv:Gn 1 v (xs.map encI) L P)(hl:xs.length≤1099511627776)
  (hp:∀x∈xs,Sp SET g (fs.toList++[.int .i64 (x:Int)]++cs.toList) L P (fun r L' P'=>r=.bool (p x)∧L'=L∧P'=P)):Sp SET 270 [v,.func (.func g) fs cs] L P (fun r L' P'=>r=.bool (xs.any p)∧L'=L∧P'=P):=by
 refine .bo (fn:=Tryz.f270) (N:=8) ?_;refine .seq (.region (.pu .as (.nil (.seq (.region (.pu .mv (.pu .mv ?_)))))));refine .call (Zdw _ _ _ _ _ _ _ p hv hl hp) ?_;rintro _ _ _ ⟨rfl,rfl,rfl⟩;refine .pu .cmp (.pu .as (.nil (.ret ?_)));refine⟨_,.tmp rfl .nil,_,_,.refl _ _,?_,rfl,rfl⟩;show Value.bool _=_;rw[XB]
theorem Zdy(k:Bs):Sp SET 267 [S k] L P (fun r L' P'=>r=.bool (!isKey k)∧L'=L∧P'=P):=by
 refine .bo (fn:=Tryz.f267) (N:=5) ?_;refine .seq (.region (.pu .as (.nil (.seq (.region (.pu .mv ?_))))));refine .call (wj _ _ _) ?_;rintro _ _ _ ⟨rfl,rfl,rfl⟩;refine .pu .nt (.pu .as (.nil (.ret ?_)));exact⟨_,.tmp rfl .nil,_,_,.refl _ _,rfl,rfl,rfl⟩
def Re(n:Nat):Bool:=decide (n<1)||decide (65535<n)
theorem Zdz(k:Nat):Sp SET 268 [.int .i64 (k:Int)] L P (fun r L' P'=>r=.bool (Re k)∧L'=L∧P'=P):=by
 refine .bo (fn:=Tryz.f268) (N:=8) ?_;refine .seq (.region (.pu .as (.nil (.seq (.region (.pu .mv ?_))))));by_cases h:k<1
 ·refine .pu .cy (.pu .mv (.off (.off (.pu .pk (.pu .as (.nil (.ret ?_)))))));exact⟨_,.tmp rfl .nil,_,_,.refl _ _,by simp[Re,h];rfl,rfl,rfl⟩
 refine .pu .cn (.pu .mv (.on (.pu .mv (.on (.pu .cmp (.pu .pk (.pu .as (.nil (.ret ?_)))))))));refine⟨_,.tmp rfl .nil,_,_,.refl _ _,?_,rfl,rfl⟩;show Value.bool _=_;congr 1;simp only[Re,h,decide_false,Vb,decide_eq_decide];omega
theorem CY(k:Bs):Sp SET 272 [S k] L P (fun r L' P'=>r=S k∧L'=L∧P'=P):=by
 refine .bo (fn:=Tryz.f272) (N:=3) ?_;refine .seq (.region (.pu .as (.nil (.seq (.region (.pu .mv (.pu .as (.nil (.ret ?_)))))))));exact⟨_,.tmp rfl .nil,_,_,.refl _ _,rfl,rfl,rfl⟩
theorem CX(p:Pr):Sp SET 210 [.agg ⟨Ge p⟩] L P (fun r L' P'=>r=S p.1∧L'=L∧P'=P):=by
 refine .bo (fn:=Tryz.f210) (N:=4) ?_;refine .seq (.region ?_);refine .bx (cs:=[_,_]) fun b1=>?_;refine .pu .as (.nil (.seq (.region (.pu .fa (.ld ?_)))));refine .pu .as (.nil (.ret ?_));exact⟨_,.tmp rfl .nil,_,_,.d1,rfl,rfl,rfl⟩
def rise :List Bs→Bool
 |a::b::l=>Gf a b&&rise (b::l)
 |_=>true
theorem Tq :∀(l:List Bs),rise l=true↔∀i (h:i+1<l.length),Gf l[i] l[i+1]=true
 |[]=>by simp[rise]
 |[a]=>by simp[rise]
 |a::b::l=>by
  unfold rise;rw[Zi,Tq (b::l)];constructor
  ·rintro⟨h1,h2⟩ i h;cases i with
   |zero=>exact h1
   |succ i=>exact h2 i (by simpa using h)
  ·intro h;exact⟨h 0 (by simp),fun i hi=>h (i+1) (by simpa using hi)⟩
theorem CV{l:List Bs}{i:Nat}(h:i+1<l.length)(hn:Gf l[i] l[i+1]=false):rise l=false:=by
 cases hr:rise l with
 |false=>rfl
 |true=>have:=(Tq l).1 hr i h;rw[hn]at this;cases this
theorem Zd0(v:Value)(xs:List Pr)(hv:Gn 2 v (xs.map Ge) L P)(hl:xs.length≤1099511627776):Sp SET 209 [v,.func (.func 210) #[] #[]] L P (fun r L' P'=>r=.bool (rise (xs.map (·.1)))∧L'=L∧P'=P):=by
 refine .bo (fn:=Tryz.f209) (N:=25) ?_;have hlen:(xs.map Ge).length=xs.length:=Zc ..;refine .seq (.region (.pu .as (.nil (.seq (.seq (.region (.pu .as (.nil ?_))))))));refine .block (W.loop (fun i=>∀j (hj:j<i) (hx:j+1<xs.length),Gf xs[j].1 xs[j+1].1=true) (fun i=>xs.length-i) (fun i=>[(5,.int .i64 ((i+1:Nat):Int)),(0,v),(1,.func (.func 210) #[] #[])]) (fun _=>L) (fun _=>P) 0 (fun j hj=>by omega) ⟨rfl,rfl,rfl,trivial⟩ (.refl _ _) (fun i hi=>?_));refine .seq (.seq (.region (.pu .mv (.pu .mv (.lk .ln ?_)))));refine .pu .cmp (.nil ?_);refine .ite rfl (fun h=>?_) (fun h=>?_)
 ·have h:=of_decide_eq_true h;have hlt:i+1<xs.length:=by omega
  have g1:(xs.map Ge)[(((i+1:Nat):Int)-1).toNat]? =some (Ge xs[i]):=by
   rw[show(((i+1:Nat):Int)-1).toNat=i by omega];exact C8 (by omega)
  have g2:(xs.map Ge)[((i+1:Nat):Int).toNat]? =some (Ge xs[i+1]):=C8 hlt;refine .skip ?_;refine .seq (.block (.seq (.drawn fun _=>?_)));refine .pu .mv (.pu .mv (.pu .mv (.pu .sub (.lk .ia ?_))));refine .lo 0 0 .la (.mk g1) ?_;refine .call (CX _ _ _) ?_;rintro _ _ _ ⟨rfl,rfl,rfl⟩;refine .pu .mv (.pu .mv (.pu .mv (.lk .ia ?_)));refine .lo 0 1 .la (.mk g2) ?_;refine .call (CX _ _ _) ?_;rintro _ _ _ ⟨rfl,rfl,rfl⟩;refine .pu .sge (.nil (.cons (.yes (.mk g2) (.yes (.mk g2) (.skip .nil))) (.cons (.yes (.mk g1) (.skip (.skip .nil))) .nil)) ?_);refine .ite rfl (fun h=>?_) (fun h=>?_)
  ·refine .seq (.region (.pu .as (.nil (.ret ?_))));refine⟨_,.tmp rfl .nil,_,_,.refl _ _,?_,rfl,rfl⟩;rw[CV (l:=xs.map (·.1)) (i:=i) (by simpa using hlt) (by simpa using h)];rfl
  refine .skip (.region (.pu .mv (.pu .add (.pu .as (.nil ?_)))));refine⟨i+1,fun j hj hx=>?_,by show xs.length-(i+1)<xs.length-i;omega,⟨rfl,rfl,rfl,trivial⟩,.refl _ _⟩;rcases Jz.1 hj with hj|rfl
  ·exact hi j hj hx
  ·simpa using h
 have h:=of_decide_eq_false h;refine .exit (.seq (.region (.pu .as (.nil (.ret ?_)))));refine⟨_,.tmp rfl .nil,_,_,.refl _ _,?_,rfl,rfl⟩;have:rise (xs.map (·.1))=true:=(Tq _).2 (fun j hj=>by
  have hj':j+1<xs.length:=by simpa using hj
  simpa using hi j (by omega) hj')
 rw[this];rfl
theorem Zd1(v:Value)(xs:List Bs)(hv:Gn 1 v (xs.map encS) L P)(hl:xs.length≤1099511627776):Sp SET 271 [v,.func (.func 272) #[] #[]] L P (fun r L' P'=>r=.bool (rise xs)∧L'=L∧P'=P):=by
 refine .bo (fn:=Tryz.f271) (N:=25) ?_;have hlen:(xs.map encS).length=xs.length:=Zc ..;refine .seq (.region (.pu .as (.nil (.seq (.seq (.region (.pu .as (.nil ?_))))))));refine .block (W.loop (fun i=>∀j (hj:j<i) (hx:j+1<xs.length),Gf xs[j] xs[j+1]=true) (fun i=>xs.length-i) (fun i=>[(5,.int .i64 ((i+1:Nat):Int)),(0,v),(1,.func (.func 272) #[] #[])]) (fun _=>L) (fun _=>P) 0 (fun j hj=>by omega) ⟨rfl,rfl,rfl,trivial⟩ (.refl _ _) (fun i hi=>?_));refine .seq (.seq (.region (.pu .mv (.pu .mv (.lk .ln ?_)))));refine .pu .cmp (.nil ?_);refine .ite rfl (fun h=>?_) (fun h=>?_)
 ·have h:=of_decide_eq_true h;have hlt:i+1<xs.length:=by omega
  have g1:(xs.map encS)[(((i+1:Nat):Int)-1).toNat]? =some (encS xs[i]):=by
   rw[show(((i+1:Nat):Int)-1).toNat=i by omega];exact Dw (by omega)
  have g2:(xs.map encS)[((i+1:Nat):Int).toNat]? =some (encS xs[i+1]):=Dw hlt;refine .skip ?_;refine .seq (.block (.seq (.drawn fun _=>?_)));refine .pu .mv (.pu .mv (.pu .mv (.pu .sub (.lk .ia ?_))));refine .lo 0 0 .le (.mk g1) ?_;refine .call (CY _ _ _) ?_;rintro _ _ _ ⟨rfl,rfl,rfl⟩;refine .pu .mv (.pu .mv (.pu .mv (.lk .ia ?_)));refine .lo 0 1 .le (.mk g2) ?_;refine .call (CY _ _ _) ?_;rintro _ _ _ ⟨rfl,rfl,rfl⟩;refine .pu .sge (.nil (.cons (.yes (.mk g2) (.yes (.mk g2) (.skip .nil))) (.cons (.yes (.mk g1) (.skip (.skip .nil))) .nil)) ?_);refine .ite rfl (fun h=>?_) (fun h=>?_)
  ·refine .seq (.region (.pu .as (.nil (.ret ?_))));refine⟨_,.tmp rfl .nil,_,_,.refl _ _,?_,rfl,rfl⟩;rw[CV (l:=xs) (i:=i) hlt (by simpa using h)];rfl
  refine .skip (.region (.pu .mv (.pu .add (.pu .as (.nil ?_)))));refine⟨i+1,fun j hj hx=>?_,by show xs.length-(i+1)<xs.length-i;omega,⟨rfl,rfl,rfl,trivial⟩,.refl _ _⟩;rcases Jz.1 hj with hj|rfl
  ·exact hi j hj hx
  ·simpa using h
 have h:=of_decide_eq_false h;refine .exit (.seq (.region (.pu .as (.nil (.ret ?_)))));refine⟨_,.tmp rfl .nil,_,_,.refl _ _,?_,rfl,rfl⟩;have:rise xs=true:=(Tq _).2 (fun j hj=>by
  exact hi j (by omega) hj)
 rw[this];rfl
structure Nd where
 leaf:Bool
 pairs:List Pr
 keys:List Bs
 kids:List Nat
structure NdV(P:List Asn)(v:Value)(n:Nd):Prop where
 ex:∃pv kv iv,v=.agg ⟨[.bool n.leaf,pv,kv,iv]⟩∧Sl 2 pv (n.pairs.map Ge)∈P∧Sl 1 kv (n.keys.map encS)∈P∧Sl 1 iv (n.kids.map encI)∈P
structure Nd.Small(n:Nd):Prop where
 p:n.pairs.length≤1099511627776
 k:n.keys.length≤1099511627776
 i:n.kids.length≤1099511627776
def Nd.leafOk(n:Nd):Bool:=n.leaf&&(decide (n.keys.length+n.kids.length=0)&&(decide (n.pairs.length≤255)&&(!n.pairs.any Dx&&rise (n.pairs.map (·.1)))))
theorem CU(v:Value)(n:Nd)(hv:NdV P v n)(hs:n.Small):Sp SET 149 [v] L P (fun r L' P'=>r=.bool n.leafOk∧L'=L∧P'=P):=by
 obtain⟨pv,kv,iv,rfl,hp,hk,hi⟩:=hv.ex;have lp:(n.pairs.map Ge).length=n.pairs.length:=Zc ..;have lk':(n.keys.map encS).length=n.keys.length:=Zc ..;have li:(n.kids.map encI).length=n.kids.length:=Zc ..;have s1:=hs.p;have s2:=hs.k;have s3:=hs.i;refine .bo (fn:=Tryz.f149) (N:=33) ?_;refine .seq (.region ?_);refine .bx (cs:=[_,_,_,_]) fun b1=>?_;refine .pu .as (.nil (.seq (.region (.pu .as (.nil (.seq (.region (.pu .fa (.ld ?_)))))))));refine .pu .mv ?_;cases h1:n.leaf
 ·repeat (first|refine .off ?_|refine .pu .pk ?_|refine .pu .mv ?_|refine .pu .as ?_)
  refine .nil (.ret ?_);exact⟨_,.tmp rfl .nil,_,_,.d1,by simp[Nd.leafOk,h1];rfl,rfl,rfl⟩
 refine .on (.pu .fa (.on (.ld ?_)));refine .on (.lk .ln ?_);refine .on (.pu .fa (.on (.ld ?_)));refine .on (.lk .ln ?_);refine .on (.pu .add ?_);by_cases h2:n.keys.length+n.kids.length=0
 case neg=>
  refine .on (.pu .cn ?_)
  repeat (first|refine .off ?_|refine .pu .pk ?_|refine .pu .mv ?_|refine .pu .as ?_)
  refine .nil (.ret ?_);exact⟨_,.tmp rfl .nil,_,_,.d1,by simp only[Nd.leafOk,h1,decide_eq_false h2];rfl,rfl,rfl⟩
 refine .on (.pu .cy (.pu .pk (.pu .mv (.on (.pu .fa (.on (.ld ?_)))))));refine .on (.lk .ln ?_);by_cases h3:n.pairs.length≤255
 case neg=>
  refine .on (.pu .cn ?_)
  repeat (first|refine .off ?_|refine .pu .pk ?_|refine .pu .mv ?_|refine .pu .as ?_)
  refine .nil (.ret ?_);exact⟨_,.tmp rfl .nil,_,_,.d1,by simp only[Nd.leafOk,h1,decide_eq_true h2,decide_eq_false h3];rfl,rfl,rfl⟩
 refine .on (.pu .cy (.pu .pk (.pu .mv (.on (.pu .fa (.on (.ld ?_)))))));refine .on (.pu .mv ?_);refine .on ?_;refine .call (Zdt _ _ _ n.pairs 207 #[] #[] Dx (.s (.p hp)) s1 (fun x _=>Zdr _ _ x)) ?_;rintro _ _ _ ⟨rfl,rfl,rfl⟩;refine .on (.pu .nt (.pu .pk (.pu .mv ?_)));cases h4:n.pairs.any Dx
 case true=>
  repeat (first|refine .off ?_|refine .pu .pk ?_|refine .pu .mv ?_|refine .pu .as ?_)
  refine .nil (.ret ?_);exact⟨_,.tmp rfl .nil,_,_,.d1,by simp only[Nd.leafOk,h1,decide_eq_true h2,decide_eq_true h3,h4];rfl,rfl,rfl⟩
 refine .on (.pu .fa (.on (.ld ?_)));refine .on ?_;refine .call (Zd0 _ _ _ n.pairs (.s (.p hp)) s1) ?_;rintro _ _ _ ⟨rfl,rfl,rfl⟩;refine .pu .pk (.pu .as (.nil (.ret ?_)));exact⟨_,.tmp rfl .nil,_,_,.d1,by simp only[Nd.leafOk,h1,decide_eq_true h2,decide_eq_true h3,h4];rfl,rfl,rfl⟩
def Nd.innerOk(n:Nd):Bool:= !n.leaf&&(decide (n.pairs.length=0)&&(decide (1≤n.kids.length)&&(decide (n.kids.length≤255)&&(decide (n.keys.length+1=n.kids.length)&&(!n.keys.any (fun k=> !isKey k)&&(!n.kids.any Re&&rise n.keys))))))
theorem Zd2(v:Value)(n:Nd)(hv:NdV P v n)(hs:n.Small):Sp SET 237 [v] L P (fun r L' P'=>r=.bool n.innerOk∧L'=L∧P'=P):=by
 obtain⟨pv,kv,iv,rfl,hp,hk,hi⟩:=hv.ex;have lp:(n.pairs.map Ge).length=n.pairs.length:=Zc ..;have lk':(n.keys.map encS).length=n.keys.length:=Zc ..;have li:(n.kids.map encI).length=n.kids.length:=Zc ..;have s1:=hs.p;have s2:=hs.k;have s3:=hs.i;refine .bo (fn:=Tryz.f237) (N:=54) ?_;refine .seq (.region ?_);refine .bx (cs:=[_,_,_,_]) fun b1=>?_;refine .pu .as (.nil (.seq (.region (.pu .as (.nil (.seq (.region (.pu .as (.nil (.seq (.region (.pu .fa (.ld ?_)))))))))))));refine .pu .nt (.pu .mv ?_);cases h1:n.leaf
 case true=>
  repeat (first|refine .off ?_|refine .pu .pk ?_|refine .pu .mv ?_|refine .pu .as ?_)
  refine .nil (.ret ?_);exact⟨_,.tmp rfl .nil,_,_,.d1,by simp only[Nd.innerOk,h1];rfl,rfl,rfl⟩
 refine .on (.pu .fa (.on (.ld ?_)));refine .on (.lk .ln ?_);by_cases h2:n.pairs.length=0
 case neg=>
  refine .on (.pu .cn ?_)
  repeat (first|refine .off ?_|refine .pu .pk ?_|refine .pu .mv ?_|refine .pu .as ?_)
  refine .nil (.ret ?_);exact⟨_,.tmp rfl .nil,_,_,.d1,by simp only[Nd.innerOk,h1,decide_eq_false h2];rfl,rfl,rfl⟩
 refine .on (.pu .cy (.pu .pk (.pu .mv (.on (.pu .fa (.on (.ld ?_)))))));refine .on (.lk .ln ?_);by_cases h3:1≤n.kids.length
 case neg=>
  refine .on (.pu .cn ?_)
  repeat (first|refine .off ?_|refine .pu .pk ?_|refine .pu .mv ?_|refine .pu .as ?_)
  refine .nil (.ret ?_);exact⟨_,.tmp rfl .nil,_,_,.d1,by simp only[Nd.innerOk,h1,decide_eq_true h2,decide_eq_false h3];rfl,rfl,rfl⟩
 refine .on (.pu .cy (.pu .pk (.pu .mv (.on (.pu .fa (.on (.ld ?_)))))));refine .on (.lk .ln ?_);by_cases h4:n.kids.length≤255
 case neg=>
  refine .on (.pu .cn ?_)
  repeat (first|refine .off ?_|refine .pu .pk ?_|refine .pu .mv ?_|refine .pu .as ?_)
  refine .nil (.ret ?_);exact⟨_,.tmp rfl .nil,_,_,.d1,by simp only[Nd.innerOk,h1,decide_eq_true h2,decide_eq_true h3,decide_eq_false h4];rfl,rfl,rfl⟩
 refine .on (.pu .cy (.pu .pk (.pu .mv (.on (.pu .fa (.on (.ld ?_)))))));refine .on (.lk .ln ?_);refine .on (.pu .fa (.on (.ld ?_)));refine .on (.lk .ln ?_);refine .on (.pu .sub ?_);by_cases h5:n.keys.length+1=n.kids.length
 case neg=>
  refine .on (.pu .cn ?_)
  repeat (first|refine .off ?_|refine .pu .pk ?_|refine .pu .mv ?_|refine .pu .as ?_)
  refine .nil (.ret ?_);exact⟨_,.tmp rfl .nil,_,_,.d1,by simp only[Nd.innerOk,h1,decide_eq_true h2,decide_eq_true h3,decide_eq_true h4,decide_eq_false h5];rfl,rfl,rfl⟩
 refine .on (.pu .cy (.pu .pk (.pu .mv (.on (.pu .fa (.on (.ld ?_)))))));refine .on (.pu .mv ?_);refine .on ?_;refine .call (Zdv _ _ _ n.keys 267 #[] #[] (fun k=> !isKey k) (.s (.p hk)) s2 (fun x _=>Zdy _ _ x)) ?_;rintro _ _ _ ⟨rfl,rfl,rfl⟩;refine .on (.pu .nt (.pu .pk (.pu .mv ?_)));cases h6:n.keys.any (fun k=> !isKey k)
 case true=>
  repeat (first|refine .off ?_|refine .pu .pk ?_|refine .pu .mv ?_|refine .pu .as ?_)
  refine .nil (.ret ?_);exact⟨_,.tmp rfl .nil,_,_,.d1,by simp only[Nd.innerOk,h1,decide_eq_true h2,decide_eq_true h3,decide_eq_true h4,decide_eq_true h5,h6];rfl,rfl,rfl⟩
 refine .on (.pu .fa (.on (.ld ?_)));refine .on (.pu .mv ?_);refine .on ?_;refine .call (Zdx _ _ _ n.kids 268 #[] #[] Re (.s (.p hi)) s3 (fun x _=>Zdz _ _ x)) ?_;rintro _ _ _ ⟨rfl,rfl,rfl⟩;refine .on (.pu .nt (.pu .pk (.pu .mv ?_)));cases h7:n.kids.any Re
 case true=>
  repeat (first|refine .off ?_|refine .pu .pk ?_|refine .pu .mv ?_|refine .pu .as ?_)
  refine .nil (.ret ?_);exact⟨_,.tmp rfl .nil,_,_,.d1,by simp only[Nd.innerOk,h1,decide_eq_true h2,decide_eq_true h3,decide_eq_true h4,decide_eq_true h5,h6,h7];rfl,rfl,rfl⟩
 refine .on (.pu .fa (.on (.ld ?_)));refine .on ?_;refine .call (Zd1 _ _ _ n.keys (.s (.p hk)) s2) ?_;rintro _ _ _ ⟨rfl,rfl,rfl⟩;refine .pu .pk (.pu .as (.nil (.ret ?_)));exact⟨_,.tmp rfl .nil,_,_,.d1,by simp only[Nd.innerOk,h1,decide_eq_true h2,decide_eq_true h3,decide_eq_true h4,decide_eq_true h5,h6,h7];rfl,rfl,rfl⟩
def Nd.ok(n:Nd):Bool:=n.leafOk||n.innerOk
def Zd3(b:Bool):Value:=.int .i64 (bif b then 0 else 2)
theorem Bw(v:Value)(n:Nd)(hv:NdV P v n)(hs:n.Small):Sp SET 198 [v] L P (fun r L' P'=>r=Zd3 n.ok∧L'=L∧P'=P):=by
 obtain⟨pv,kv,iv,rfl,hp,hk,hi⟩:=hv.ex;refine .bo (fn:=Tryz.f198) (N:=8) ?_;refine .seq (.region ?_);refine .bx (cs:=[_,_,_,_]) fun b1=>?_;refine .pu .as (.nil (.seq (.seq (.region (.lda (vs:=[_,_,_,_]) ?_)))));refine .call (CU _ _ _ n hv hs) ?_;rintro _ _ _ ⟨rfl,rfl,rfl⟩;refine .pu .mv ?_;cases h1:n.leafOk
 case true=>
  repeat (first|refine .off ?_|refine .pu .pk ?_)
  refine .nil (.yes rfl (.seq (.region (.pu .as (.nil (.ret ?_))))));exact⟨_,.tmp rfl .nil,_,_,.d1,by simp only[Nd.ok,h1];rfl,rfl,rfl⟩
 refine .on (.lda (vs:=[_,_,_,_]) ?_);refine .on ?_;refine .call (Zd2 _ _ _ n hv hs) ?_;rintro _ _ _ ⟨rfl,rfl,rfl⟩;refine .pu .pk (.nil ?_);refine .ite rfl (fun h=>?_) (fun h=>?_)
 ·refine .seq (.region (.pu .as (.nil (.ret ?_))));exact⟨_,.tmp rfl .nil,_,_,.d1,by simp only[Nd.ok,h1,h];rfl,rfl,rfl⟩
 refine .skip (.seq (.region (.pu .as (.nil (.ret ?_)))));exact⟨_,.tmp rfl .nil,_,_,.d1,by simp only[Nd.ok,h1,h];rfl,rfl,rfl⟩
def weight(ps:List Pr):Nat:=(ps.map fun p=>2+p.1.length+p.2.length).sum
theorem CJ{ps:List Pr}{i:Nat}(h:i<ps.length):weight (ps.take (i+1))=weight (ps.take i)+(2+ps[i].1.length+ps[i].2.length):=by
 unfold weight;rw[Xb h,Zp,J0];simp
theorem XC(ps:List Pr)(i:Nat):weight (ps.take i)≤weight ps:=by
 unfold weight
 conv=>rhs;rw[←Ym i ps,Zp,J0]
 omega
theorem XD(v:Value)(ps:List Pr)(hv:Sl 2 v (ps.map Ge)∈P)(hb:weight ps≤1099511627776)(hl:ps.length≤1099511627776):Sp SET 219 [v] L P (fun r L' P'=>r=.int .i64 (weight ps)∧L'=L∧P'=P):=by
 refine .bo (fn:=Tryz.f219) (N:=23) ?_;refine .seq (.region (.pu .as (.nil (.seq (.region (.pu .as (.nil (.seq (.seq (.region (.pu .mv (.lk .ln ?_))))))))))));refine .pu .mv (.nil (.block ?_));refine W.loop (fun i=>i≤ps.length) (fun i=>ps.length-i) (fun i=>[(8,.int .i64 (i:Nat)),(3,.int .i64 (weight (ps.take i):Nat)),(6,v),(7,.int .i64 (ps.map Ge).length)]) (fun _=>L) (fun _=>P) 0 (by omega) ⟨rfl,rfl,rfl,rfl,trivial⟩ (.refl _ _) (fun i hi=>?_);have hlen:(ps.map Ge).length=ps.length:=Zc ..;refine .seq (.region ?_);by_cases hlt:i<ps.length
 ·have hw:=CJ hlt;have hle:=XC ps (i+1);have hg:(ps.map Ge)[(i:Int).toNat]? =some (Ge ps[i]):=C8 hlt;refine .pu .cy (.nil (.seq (.yes rfl (.skip (.seq (.block (.seq (.region (.lk .ia ?_)))))))));refine .la hg ?_;refine .nw (cs:=[S [],S []]) (fun b=>?_);refine .st (vs:=[_,_]) (.nil ?_);refine .region (.pu .mv (.pu .fa (.ld ?_)));refine .pu .ls (.pu .add (.pu .fa (.ld ?_)));refine .pu .ls (.pu .add (.pu .add (.pu .as (.nil (.region (.pu .add (.pu .mv (.nil ?_))))))));refine⟨i+1,by omega,by show ps.length-(i+1)<ps.length-i;omega,⟨rfl,?_,rfl,rfl,trivial⟩,Ent.drop⟩;show some _=some _;congr 2;omega
 ·refine .pu .cn (.nil (.seq (.no rfl (.exit (.seq (.region (.pu .mv (.pu .as (.nil (.ret ?_))))))))));refine⟨_,.tmp rfl .nil,_,_,.refl _ _,?_,rfl,rfl⟩;show Value.int _ _=_;congr 2;rw[Z8 (by omega)]
def G4(ks:List Bs):Nat:=(ks.map fun k=>1+k.length).sum
theorem Zd4{ks:List Bs}{i:Nat}(h:i<ks.length):G4 (ks.take (i+1))=G4 (ks.take i)+(1+ks[i].length):=by
 unfold G4;rw[Xb h,Zp,J0];simp
theorem Zd5(ks:List Bs)(i:Nat):G4 (ks.take i)≤G4 ks:=by
 unfold G4
 conv=>rhs;rw[←Ym i ks,Zp,J0]
 omega
def Nd.size(n:Nd):Nat:=bif n.leaf then 2+weight n.pairs else 2+2*n.kids.length+G4 n.keys
theorem Ts(v:Value)(n:Nd)(hv:NdV P v n)(hs:n.Small)(hw:weight n.pairs≤1099511627776)(hkw:G4 n.keys≤1099511627776):Sp SET 156 [v] L P (fun r L' P'=>r=.int .i64 (n.size:Int)∧L'=L∧P'=P):=by
 obtain⟨pv,kv,iv,rfl,hp,hk,hi⟩:=hv.ex;have lk':(n.keys.map encS).length=n.keys.length:=Zc ..;have li:(n.kids.map encI).length=n.kids.length:=Zc ..;have s1:=hs.p;have s2:=hs.k;have s3:=hs.i;refine .bo (fn:=Tryz.f156) (N:=30) ?_;refine .seq (.region ?_);refine .bx (cs:=[_,_,_,_]) fun b1=>?_;refine .pu .as (.nil (.seq (.seq (.region (.pu .fa (.ld (.nil ?_)))))));refine .ite rfl (fun h=>?_) (fun h=>?_)
 ·refine .seq (.region (.pu .fa (.ld ?_)));refine .call (XD _ _ _ n.pairs hp hw s1) ?_;rintro _ _ _ ⟨rfl,rfl,rfl⟩;refine .pu .add (.pu .as (.nil (.ret ?_)));refine⟨_,.tmp rfl .nil,_,_,.d1,?_,rfl,rfl⟩;show Value.int _ _=_;unfold Nd.size;rw[h];simp only[cond_true];congr 1
 refine .skip (.seq (.region (.pu .fa (.ld ?_))));refine .lk .ln ?_;refine .pu .mul (.pu .add (.pu .as (.nil (.seq (.seq (.region (.pu .fa (.ld ?_))))))));refine .lk .ln ?_;refine .pu .mv (.nil ?_);refine .block (W.loop (fun i=>i≤n.keys.length) (fun i=>n.keys.length-i) (fun i=>[(20,.int .i64 (i:Nat)),(3,.int .i64 (2+2*((n.kids.map encI).length:Int)+(G4 (n.keys.take i):Nat))),(18,kv),(19,.int .i64 (n.keys.map encS).length)]) (fun _=>L) (fun _=>P) 0 (by omega) ⟨rfl,?_,rfl,rfl,trivial⟩ .d1 (fun i hle=>?_))
 ·show some _=some _;congr 2
 refine .seq (.region (.pu .cmp (.nil ?_)));refine .seq (.ite rfl (fun h=>?_) (fun h=>?_))
 ·have h:=of_decide_eq_true h;have hlt:i<n.keys.length:=by omega
  have hkt:=Zd4 hlt;have hkl:=Zd5 n.keys (i+1);refine .skip (.seq (.block (.seq (.region (.lk .ia ?_)))));refine .le (Dw (i:=(i:Int).toNat) hlt) ?_;refine .pu .as (.nil (.region (.pu .mv (.pu .mv (.pu .ls ?_)))));have e:n.keys[(i:Int).toNat].length=n.keys[i].length:=rfl;refine .pu .add (.pu .add (.pu .as (.nil (.region (.pu .add (.pu .mv (.nil ?_)))))));refine⟨i+1,by omega,by show n.keys.length-(i+1)<n.keys.length-i;omega,⟨rfl,?_,rfl,rfl,trivial⟩,.refl _ _⟩;show some _=some _;congr 2;omega
 have h:=of_decide_eq_false h;refine .exit (.seq (.region (.pu .mv (.pu .as (.nil (.ret ?_))))));refine⟨_,.tmp rfl .nil,_,_,.refl _ _,?_,rfl,rfl⟩;show Value.int _ _=_;unfold Nd.size;have hf:n.leaf=false:=by assumption
 rw[hf];simp only[cond_false];congr 1;rw[Z8 (by omega)];omega
theorem XF(a:Bs):Sp SET 242 [S a] L P (fun r L' P'=>r=.bool false∧L'=L∧P'=P):=by
 refine .bo (fn:=Tryz.f242) (N:=5) ?_;refine .seq (.region (.pu .as (.nil (.seq (.region (.pu .mv (.pu .mv ?_)))))));refine .pu (.sne (q:=false) (hq:=by simp)) ?_;refine .pu .as (.nil (.ret ?_));exact⟨_,.tmp rfl .nil,_,_,.refl _ _,rfl,rfl,rfl⟩
def C9(a b:Bs):Int:=bif Gf a b then -1 else bif Gf b a then 1 else 0
theorem Dy :∀a:Bs,Gf a a=false
 |[]=>rfl
 |x::a=>by
  show(decide (x<x)||(x==x&&Gf a a))=false;rw[Dy a,Vq,V6];exact decide_eq_false (Zps x)
theorem Tt :∀a b:Bs,Gf a b=false→Gf b a=false→a=b
 |[],[],_,_=>rfl
 |[],_::_,h,_=>by cases h
 |_::_,[],_,h=>by cases h
 |x::a,y::b,h,h'=>by
  have h:(decide (x<y)||(x==y&&Gf a b))=false:=h;have h':(decide (y<x)||(y==x&&Gf b a))=false:=h';rw[Vu]at h h';have e:x=y:=by
   have h1:=of_decide_eq_false h.1;have h2:=of_decide_eq_false h'.1;exact UInt8.le_antisymm (Zpt.1 h2) (Zpt.1 h1)
  subst e;have h1:Gf a b=false:=by simpa using h.2
  have h2:Gf b a=false:=by simpa using h'.2
  rw[Tt a b h1 h2]
theorem wm :∀a b:Bs,Gf a b=true→Gf b a=false
 |[],[],h=>by cases h
 |[],_::_,_=>rfl
 |_::_,[],h=>by cases h
 |x::a,y::b,h=>by
  have h:(decide (x<y)||(x==y&&Gf a b))=true:=h;show(decide (y<x)||(y==x&&Gf b a))=false;rw[Yq]at h;rcases h with h|h
  ·have h:=of_decide_eq_true h;have h1:¬y<x:=Zpt.2 (UInt8.le_of_lt h);have h2:(y==x)=false:=by
    simp only[beq_eq_false_iff_ne,ne_eq];intro e;subst e;exact absurd h (Zps _)
   rw[decide_eq_false h1,h2];rfl
  ·rw[Zi]at h;have e:x=y:=by simpa using h.1
   subst e;rw[wm a b h.2,Vq,V6];exact decide_eq_false (Zps x)
theorem CG(a b:Bs):(!(Gf a b||decide (a=b)))=Gf b a:=by
 cases h:Gf a b with
 |true=>rw[wm a b h];rfl
 |false=>
  cases h':Gf b a with
  |true=>
   have:a≠b:=fun e=>by subst e;rw[h']at h;cases h
   simp[this]
  |false=>rw[Tt a b h h'];simp
theorem Zd6(a b:Bs):Sp SET 213 [S a,S b] L P (fun r L' P'=>r=.int .i64 (C9 a b)∧L'=L∧P'=P):=by
 refine .bo (fn:=Tryz.f213) (N:=19) ?_;refine .seq (.region (.pu .as (.nil (.seq (.region (.pu .mv ?_))))));refine .call (XF _ _ _) ?_;rintro _ L P ⟨rfl,rfl,rfl⟩;refine .pu .as (.nil (.seq (.region (.pu .mv ?_))));refine .call (XF _ _ _) ?_;rintro _ L P ⟨rfl,rfl,rfl⟩;refine .pu .as (.nil (.seq (.seq (.region (.pu .mv (.nil ?_))))));refine .no rfl (.skip (.seq (.seq (.region (.pu .mv (.nil ?_))))));refine .no rfl (.skip (.seq (.seq (.region (.pu .mv (.pu .mv (.pu .slt (.nil ?_))))))));refine .ite rfl (fun ht16=>?_) (fun ht16=>?_)
 ·refine .seq (.region (.pu .as (.nil (.ret ?_))));exact⟨_,.tmp rfl .nil,_,_,.refl _ _,by unfold C9;rw[ht16];rfl,rfl,rfl⟩
 refine .skip (.seq (.seq (.region (.pu .mv (.pu .mv (.pu .sgt (.nil ?_)))))));refine .ite rfl (fun ht19=>?_) (fun ht19=>?_)
 ·refine .seq (.region (.pu .as (.nil (.ret ?_))));exact⟨_,.tmp rfl .nil,_,_,.refl _ _,by rw[CG]at ht19;unfold C9;rw[ht16,ht19];rfl,rfl,rfl⟩
 refine .skip (.seq (.region (.pu .as (.nil (.ret ?_)))));exact⟨_,.tmp rfl .nil,_,_,.refl _ _,by rw[CG]at ht19;unfold C9;rw[ht16,ht19];rfl,rfl,rfl⟩
theorem CH(p:Pr)(k:Bs):Sp SET 212 [.agg ⟨Ge p⟩,S k] L P (fun r L' P'=>r=.int .i64 (C9 p.1 k)∧L'=L∧P'=P):=by
 refine .bo (fn:=Tryz.f212) (N:=8) ?_;refine .seq (.region ?_);refine .bx (cs:=[_,_]) fun b2=>?_;refine .pu .as (.nil (.seq (.region (.pu .fa (.ld ?_)))));refine .pu .mv ?_;refine .call (Zd6 _ _ _ _) ?_;rintro _ L P ⟨rfl,rfl,rfl⟩;refine .pu .as (.nil (.ret ?_));exact⟨_,.tmp rfl .nil,_,_,.d1,rfl,rfl,rfl⟩
theorem Dz :∀a b c:Bs,Gf a b=true→Gf b c=true→Gf a c=true
 |a,[],_,h,_=>by cases a<;>cases h
 |[],_::_,[],_,h=>by cases h
 |[],_::_,_::_,_,_=>rfl
 |_::_,_::_,[],_,h=>by cases h
 |x::a,y::b,z::c,h,h'=>by
  have h:(decide (x<y)||(x==y&&Gf a b))=true:=h;have h':(decide (y<z)||(y==z&&Gf b c))=true:=h';show(decide (x<z)||(x==z&&Gf a c))=true;rw[Yq,Zi]at h h' ⊢;rcases h with h|⟨h1,h2⟩
  ·rcases h' with h'|⟨h3,h4⟩
   ·exact .inl (decide_eq_true (UInt8.lt_trans (of_decide_eq_true h) (of_decide_eq_true h')))
   ·have e:y=z:=by simpa using h3
    subst e;exact .inl h
  ·have e:x=y:=by simpa using h1
   subst e;rcases h' with h'|⟨h3,h4⟩
   ·exact .inl h'
   ·exact .inr ⟨h3,Dz a b c h2 h4⟩
theorem CM{ks:List Bs}(h:rise ks=true):∀(d i:Nat) (hj:i+d+1<ks.length),Gf ks[i] ks[i+d+1]=true
 |0,i,hj=>(Tq ks).1 h i hj
 |d+1,i,hj=>Dz _ _ _ (CM h d i (by omega)) ((Tq ks).1 h (i+d+1) hj)
theorem CN{ks:List Bs}(h:rise ks=true){i j:Nat}(hij:i<j)(hj:j<ks.length):Gf ks[i] ks[j]=true:=by
 obtain⟨d,rfl⟩:∃d,j=i+d+1:=⟨j-i-1,by omega⟩;exact CM h d i hj
def lb(ks:List Bs)(k:Bs):Nat:=(ks.takeWhile fun x=>Gf x k).length
theorem CB(k:Bs):∀(ks:List Bs) (i:Nat),i≤ks.length→(∀j (h:j<ks.length),j<i→Gf ks[j] k=true)→(∀j (h:j<ks.length),i≤j→Gf ks[j] k=false)→lb ks k=i
 |[],i,h,_,_=>by simp at h;subst h;rfl
 |a::ks,0,_,_,h2=>by
  have:=h2 0 (by simp) (by omega);unfold lb;rw[List.takeWhile_cons_of_neg (by simpa using this)];rfl
 |a::ks,i+1,h,h1,h2=>by
  have h0:=h1 0 (by simp) (by omega);unfold lb;rw[List.takeWhile_cons_of_pos (by simpa using h0),Zf];have:=CB k ks i (by simpa using h) (fun j hj hji=>h1 (j+1) (by simpa using hj) (by omega)) (fun j hj hij=>h2 (j+1) (by simpa using hj) (by omega));unfold lb at this;rw[this]
theorem Zd7(a b:Bs):decide (C9 a b<0)=Gf a b:=by
 unfold C9;cases h:Gf a b<;>cases h':Gf b a<;>rfl
theorem Zd8(a b:Bs):decide (C9 a b=0)=decide (a=b):=by
 unfold C9;cases h:Gf a b with
 |true=>
  have:a≠b:=fun e=>by subst e;rw[Dy]at h;cases h
  simp[this]
 |false=>
  cases h':Gf b a with
  |true=>
   have:a≠b:=fun e=>by subst e;rw[Dy]at h';cases h'
   simp[this]
  |false=>rw[Tt a b h h'];simp
structure Bin(ks:List Bs)(k:Bs)(i j:Nat):Prop where
 le:i≤j
 len:j≤ks.length
 lo:∀m (h:m<ks.length),m<i→Gf ks[m] k=true
 hi:∀m (h:m<ks.length),j≤m→Gf ks[m] k=false
theorem Bin.yes{ks:List Bs}{k:Bs}{i j h:Nat}(b:Bin ks k i j)(hr:rise ks=true)(hj:h<j)(hi:i≤h)(hl:Gf (ks[h]'(by have:=b.len;omega)) k=true):Bin ks k (h+1) j:=
 ⟨by omega,b.len,fun m hm hmi=>by
  rcases Zt m h with h1|h1
  ·exact Dz _ _ _ (CN hr h1 (by have:=b.len;omega)) hl
  ·have:m=h:=by omega
   subst this;exact hl,b.hi⟩
theorem Bin.no{ks:List Bs}{k:Bs}{i j h:Nat}(b:Bin ks k i j)(hr:rise ks=true)(hj:h<j)(hi:i≤h)(hl:Gf (ks[h]'(by have:=b.len;omega)) k=false):Bin ks k i h:=
 ⟨hi,by have:=b.len;omega,b.lo,fun m hm hmh=>by
  rcases Zt h m with h1|h1
  ·cases hc:Gf ks[m] k with
   |false=>rfl
   |true=>
    rw[Dz _ _ _ (CN hr h1 hm) hc]at hl;cases hl
  ·have:m=h:=by omega
   subst this;exact hl⟩
theorem Bin.eq{ks:List Bs}{k:Bs}{i:Nat}(b:Bin ks k i i):lb ks k=i:=CB k ks i b.len b.lo b.hi
theorem half(i j:Nat):Int.fdiv (((i:Nat):Int)+(j:Nat)) ((2^1:Nat):Int)=((i+j)/2:Nat):=by
 rw[Int.fdiv_eq_ediv_of_nonneg _ (by decide)];rfl
theorem Zd9(v:Value)(xs:List Pr)(k:Bs)(hv:Gn 2 v (xs.map Ge) L P)(hl:xs.length≤1099511627776)(hr:rise (xs.map (·.1))=true):Sp SET 211 [v,S k,.func (.func 212) #[] #[]] L P (fun r L' P'=>r=.tuple ⟨[.int .i64 (lb (xs.map (·.1)) k:Nat),.bool (decide ((xs.map (·.1))[lb (xs.map (·.1)) k]? =some k))]⟩∧L'=L∧P'=P):=by
 refine .bo (fn:=Tryz.f211) (N:=48) ?_;have hlen:(xs.map Ge).length=xs.length:=Zc ..;have hlk:(xs.map (·.1)).length=xs.length:=Zc ..;refine .seq (.region (.pu .as (.pu .as (.nil (.seq (.region (.pu .mv (.lk .ln ?_))))))));refine .pu .as (.nil (.seq (.region (.pu .mv (.pu .as (.pu .as (.nil ?_)))))));refine .seq (.block (W.loop (fun(p:Nat×Nat)=>Bin (xs.map (·.1)) k p.1 p.2) (fun p=>p.2-p.1) (fun p=>[(9,.int .i64 (p.1:Nat)),(10,.int .i64 (p.2:Nat)),(0,v),(1,S k),(2,.func (.func 212) #[] #[]),(8,.int .i64 ((xs.map Ge).length:Int))]) (fun _=>L) (fun _=>P) (0,(xs.map Ge).length) ⟨by omega,by omega,fun m hm h=>by omega,fun m hm h=>by omega⟩ ⟨rfl,rfl,rfl,rfl,rfl,rfl,trivial⟩ (.refl _ _) (fun p hp=>?_)));obtain⟨i,j⟩:=p;have hp:Bin (xs.map (·.1)) k i j:=hp;have hle:=hp.le;have hjl:=hp.len;refine .seq (.seq (.region (.pu .mv (.pu .mv (.pu .cmp (.nil ?_))))))
 refine .ite rfl (fun h=>?_) (fun h=>?_)
 ·refine .skip (.block (.seq (.region ?_)));have h:=of_decide_eq_true h;have hm:(i+j)/2<xs.length:=by omega
  refine .pu .mv (.pu .mv (.pu .add (.pu .ci (.pu (.i_shr (hc:=half i j)) (.pu .ci (.pu .as (.nil (.seq (.region (.pu .mv (.pu .mv (.pu .mv (.lk .ia ?_)))))))))))));refine .la (C8 (i:=(((i+j)/2:Nat):Int).toNat) hm) ?_;refine .pu .mv ?_;refine .call (CH _ _ _ _) ?_;rintro _ L P ⟨rfl,rfl,rfl⟩;refine .pu .cmp (.nil ?_);refine .ite rfl (fun h2=>?_) (fun h2=>?_)
  all_goals rw[Zd7]at h2
  ·refine .region (.pu .mv (.pu .add (.pu .as (.nil ?_))));refine⟨((i+j)/2+1,j),hp.yes hr (by omega) (by omega) (by rw[Yw];exact h2),by show j-((i+j)/2+1)<j-i;omega,⟨rfl,rfl,rfl,rfl,rfl,rfl,trivial⟩,.refl _ _⟩
  refine .region (.pu .mv (.pu .as (.nil ?_)));refine⟨(i,(i+j)/2),hp.no hr (by omega) (by omega) (by rw[Yw];exact h2),by show(i+j)/2-i<j-i;omega,⟨rfl,rfl,rfl,rfl,rfl,rfl,trivial⟩,.refl _ _⟩
 refine .exit (.seq (.region ?_));have h:=of_decide_eq_false h;have e:i=j:=by omega
 subst e;have hb:=hp.eq;refine .pu .mv (.pu .mv (.pu .mv ?_));by_cases hlt:i<xs.length
 case neg=>
  refine .pu .cn (.pu .mv ?_)
  repeat (first|refine .off ?_|refine .offU ?_|refine .pu .pk ?_|refine .pu .as ?_)
  refine .nil (.ret ?_);refine⟨_,.tmp rfl (.tmp rfl .nil),_,_,.refl _ _,?_,rfl,rfl⟩;rw[hb,Xr (by omega)];rfl
 refine .pu .cy (.pu .mv (.on (.pu .mv (.on (.pu .mv (.on (.pu .mv (.on (.lk .ia ?_)))))))));refine .on (.la (C8 (i:=(i:Int).toNat) hlt) ?_);refine .on (.pu .mv ?_);refine .on ?_;refine .call (CH _ _ _ _) ?_;rintro _ L P ⟨rfl,rfl,rfl⟩;refine .on (.pu .cmp (.pu .pk (.pu .as (.pu .as (.nil (.ret ?_))))));refine⟨_,.tmp rfl (.tmp rfl .nil),_,_,.refl _ _,?_,rfl,rfl⟩;rw[hb,Zn (by omega)];show Value.tuple ⟨[_,.bool (decide (C9 _ _=0))]⟩=_;rw[Zd8];simp
theorem CC(v:Value)(xs:List Pr)(k:Bs)(hv:Gn 2 v (xs.map Ge) L P)(hl:xs.length≤1099511627776)(hr:rise (xs.map (·.1))=true):Sp SET 152 [v,S k] L P (fun r L' P'=>r=.tuple ⟨[.int .i64 (lb (xs.map (·.1)) k:Nat),.bool (decide ((xs.map (·.1))[lb (xs.map (·.1)) k]? =some k))]⟩∧L'=L∧P'=P):=by
 refine .bo (fn:=Tryz.f152) (N:=10) ?_;refine .seq (.region (.pu .as (.pu .as (.nil (.seq (.region (.pu .mv (.pu .mv ?_))))))));refine .call (Zd9 _ _ _ xs k hv hl hr) ?_;rintro _ L P ⟨rfl,rfl,rfl⟩;refine .pu .ex (.pu .ex (.pu .as (.pu .as (.nil (.ret ?_)))));exact⟨_,.tmp rfl (.tmp rfl .nil),_,_,.refl _ _,rfl,rfl,rfl⟩
theorem Zea(a:Bs):Sp SET 240 [S a] L P (fun r L' P'=>r=.bool false∧L'=L∧P'=P):=by
 refine .bo (fn:=Tryz.f240) (N:=5) ?_;refine .seq (.region (.pu .as (.nil (.seq (.region (.pu .mv (.pu .mv ?_)))))));refine .pu (.sne (q:=false) (hq:=by simp)) ?_;refine .pu .as (.nil (.ret ?_));exact⟨_,.tmp rfl .nil,_,_,.refl _ _,rfl,rfl,rfl⟩
theorem Zeb(a b:Bs):Sp SET 239 [S a,S b] L P (fun r L' P'=>r=.bool (Gf a b)∧L'=L∧P'=P):=by
 refine .bo (fn:=Tryz.f239) (N:=16) ?_;refine .seq (.region (.pu .as (.nil (.seq (.region (.pu .mv ?_))))));refine .call (XF _ _ _) ?_;rintro _ L P ⟨rfl,rfl,rfl⟩;refine .pu .mv (.off (.off (.off (.pu .pk (.pu .mv (.on (.pu .mv (.on (.pu .mv (.on (.pu .slt (.pu .pk (.pu .as (.nil (.ret ?_)))))))))))))));exact⟨_,.tmp rfl .nil,_,_,.refl _ _,rfl,rfl,rfl⟩
theorem Zec(v:Value)(xs:List Bs)(k:Bs)(hv:Gn 1 v (xs.map encS) L P)(hl:xs.length≤1099511627776)(hr:rise xs=true):Sp SET 203 [v,S k] L P (fun r L' P'=>r=.tuple ⟨[.int .i64 (lb xs k:Nat),.bool (decide (xs[lb xs k]? =some k))]⟩∧L'=L∧P'=P):=by
 refine .bo (fn:=Tryz.f203) (N:=53) ?_;have hlen:(xs.map encS).length=xs.length:=Zc ..;refine .seq (.region (.pu .as (.pu .as (.nil (.seq (.region (.pu .mv (.lk .ln ?_))))))));refine .pu .as (.nil (.seq (.region (.pu .mv (.pu .as (.pu .as (.nil ?_)))))));refine .seq (.block (W.loop (fun(p:Nat×Nat)=>Bin xs k p.1 p.2) (fun p=>p.2-p.1) (fun p=>[(7,.int .i64 (p.1:Nat)),(8,.int .i64 (p.2:Nat)),(0,v),(1,S k),(6,.int .i64 ((xs.map encS).length:Int))]) (fun _=>L) (fun _=>P) (0,(xs.map encS).length) ⟨by omega,by omega,fun m hm h=>by omega,fun m hm h=>by omega⟩ ⟨rfl,rfl,rfl,rfl,rfl,trivial⟩ (.refl _ _) (fun p hp=>?_)));obtain⟨i,j⟩:=p;have hp:Bin xs k i j:=hp;have hle:=hp.le;have hjl:=hp.len;refine .seq (.seq (.region (.pu .mv (.pu .mv (.pu .cmp (.nil ?_))))));refine .ite rfl (fun h=>?_) (fun h=>?_)
 ·refine .skip (.block (.seq (.region ?_)));have h:=of_decide_eq_true h;have hm:(i+j)/2<xs.length:=by omega
  refine .pu .mv (.pu .mv (.pu .add (.pu .ci (.pu (.i_shr (hc:=half i j)) (.pu .ci (.pu .as (.nil (.seq (.region (.pu .mv (.pu .mv (.lk .ia ?_))))))))))));refine .le (Dw (i:=(((i+j)/2:Nat):Int).toNat) hm) ?_;refine .pu .mv ?_;refine .call (Zeb _ _ _ _) ?_;rintro _ L P ⟨rfl,rfl,rfl⟩;refine .nil ?_;refine .ite rfl (fun h2=>?_) (fun h2=>?_)
  ·refine .region (.pu .mv (.pu .add (.pu .as (.nil ?_))));refine⟨((i+j)/2+1,j),hp.yes hr (by omega) (by omega) h2,by show j-((i+j)/2+1)<j-i;omega,⟨rfl,rfl,rfl,rfl,rfl,trivial⟩,.refl _ _⟩
  refine .region (.pu .mv (.pu .as (.nil ?_)));refine⟨(i,(i+j)/2),hp.no hr (by omega) (by omega) h2,by show(i+j)/2-i<j-i;omega,⟨rfl,rfl,rfl,rfl,rfl,trivial⟩,.refl _ _⟩
 refine .exit (.seq (.region ?_));have h:=of_decide_eq_false h;have e:i=j:=by omega
 subst e;have hb:=hp.eq;refine .pu .mv (.pu .mv (.pu .mv ?_));by_cases hlt:i<xs.length
 case neg=>
  refine .pu .cn (.pu .mv ?_)
  repeat (first|refine .off ?_|refine .offU ?_|refine .pu .pk ?_|refine .pu .as ?_)
  refine .nil (.ret ?_);refine⟨_,.tmp rfl (.tmp rfl .nil),_,_,.refl _ _,?_,rfl,rfl⟩;rw[hb,Xr (by omega)];rfl
 refine .pu .cy (.pu .mv (.on (.pu .mv (.on (.pu .mv (.on (.lk .ia ?_)))))));refine .on (.le (Dw (i:=(i:Int).toNat) hlt) ?_);refine .on (.pu .mv ?_);by_cases hq:xs[i]=k
 case pos=>
  refine .on (.pu (.seq (q:=true) (hq:=decide_eq_true hq)) (.on (.pu .mv ?_)))
  repeat (first|refine .off ?_|refine .offU ?_|refine .pu .pk ?_|refine .pu .as ?_|refine .on (.pu .pk ?_))
  refine .nil (.ret ?_);refine⟨_,.tmp rfl (.tmp rfl .nil),_,_,.refl _ _,?_,rfl,rfl⟩;rw[hb,Zn hlt,decide_eq_true (by rw[hq])];rfl
 refine .on (.pu (.seq (q:=false) (hq:=decide_eq_false hq)) (.on (.pu .mv (.on (.pu .mv (.on (.pu .mv (.on (.lk .ia ?_)))))))));refine .on (.le (Dw (i:=(i:Int).toNat) hlt) ?_);refine .on ?_;refine .call (Zea _ _ _) ?_;rintro _ L P ⟨rfl,rfl,rfl⟩;refine .on (.pu .mv (.off (.off (.on (.pu .pk (.on (.pu .pk (.pu .pk (.pu .as (.pu .as (.nil (.ret ?_))))))))))));refine⟨_,.tmp rfl (.tmp rfl .nil),_,_,.refl _ _,?_,rfl,rfl⟩;rw[hb,Zn hlt,decide_eq_false (by simpa using hq)];rfl
def Nd.find(n:Nd)(k:Bs):Nat:=bif n.leaf then lb (n.pairs.map (·.1)) k else bif decide (n.keys[lb n.keys k]? =some k)then lb n.keys k+1 else lb n.keys k
theorem Rf(ks:List Bs)(k:Bs):lb ks k≤ks.length:=by unfold lb;exact(List.takeWhile_sublist _).length_le
theorem XR(v:Value)(n:Nd)(k:Bs)(hv:NdV P v n)(hs:n.Small)(hok:n.ok=true):Sp SET 146 [v,S k] L P (fun r L' P'=>r=.tuple ⟨[.int .i64 (n.find k:Nat),.int .i64 0]⟩∧L'=L∧P'=P):=by
 obtain⟨pv,kv,iv,rfl,hp,hk,hi⟩:=hv.ex;have s1:=hs.p;have s2:=hs.k;refine .bo (fn:=Tryz.f146) (N:=33) ?_;refine .seq (.region ?_);refine .bx (cs:=[_,_,_,_]) fun b2=>?_;refine .pu .as (.pu .as (.nil (.seq (.seq (.region (.lda (vs:=[_,_,_,_]) ?_))))));refine .call (Bw _ _ _ n hv hs) ?_;rintro _ L P ⟨rfl,rfl,rfl⟩;refine .pu (.cmp (q:=false) (hq:=by rw[hok];rfl)) ?_;refine .nil ?_;refine .no rfl (.skip (.seq (.seq (.region (.pu .fa (.ld ?_))))));refine .nil ?_;refine .ite rfl (fun hlf=>?_) (fun hlf=>?_)
 ·refine .seq (.region ?_);have hr:rise (n.pairs.map (·.1))=true:=by
   simp only[Nd.ok,Nd.leafOk,Nd.innerOk,hlf,X4,Bool.not_true,Xp,V6,Zi]at hok;exact hok.2.2.2
  refine .pu .fa (.ld ?_);refine .pu .mv ?_;refine .call (CC _ _ _ n.pairs k (.s (.p hp)) s1 hr) ?_;rintro _ L P ⟨rfl,rfl,rfl⟩;refine .pu .mv (.pu .ex (.pu .ex (.pu .as (.pu .as (.nil (.seq (.region (.pu .mv (.pu .as (.pu .as (.nil (.ret ?_))))))))))));exact⟨_,.tmp rfl (.tmp rfl .nil),_,_,.d1,by unfold Nd.find;rw[hlf];rfl,rfl,rfl⟩
 refine .skip (.seq (.region ?_));have hr:rise n.keys=true:=by
  simp only[Nd.ok,Nd.leafOk,Nd.innerOk,hlf,Xp,U9,X4,Vb,Zi]at hok;exact hok.2.2.2.2.2.2
 have hlb:=Rf n.keys k;refine .pu .fa (.ld ?_);refine .pu .mv ?_;refine .call (Zec _ _ _ n.keys k (.s (.p hk)) s2 hr) ?_;rintro _ L P ⟨rfl,rfl,rfl⟩;refine .pu .mv (.pu .ex (.pu .ex (.pu .as (.pu .as (.nil (.seq (.seq (.region (.pu .mv (.nil ?_))))))))));refine .ite rfl (fun hf=>?_) (fun hf=>?_)
 ·refine .region (.pu .mv (.pu .add (.pu .as (.nil (.seq (.region (.pu .mv (.pu .as (.pu .as (.nil (.ret ?_)))))))))));exact⟨_,.tmp rfl (.tmp rfl .nil),_,_,.d1,by unfold Nd.find;rw[hlf,hf];rfl,rfl,rfl⟩
 refine .skip (.seq (.region (.pu .mv (.pu .as (.pu .as (.nil (.ret ?_)))))));exact⟨_,.tmp rfl (.tmp rfl .nil),_,_,.d1,by unfold Nd.find;rw[hlf,hf];rfl,rfl,rfl⟩
theorem Ent.sl0{L P:List Asn}{k c:Nat}:Ent L P L (Sl k (.slice none 0 c) []::P):=fun S s hs=>⟨S,fun _ h=>h,⟨hs.own,fun A hA=>by
 rcases Zg.1 hA with rfl|hA
 ·exact⟨fun _=>False,⟨none,c,rfl,Zj _,.inl rfl⟩,fun b h=>h.elim⟩
 ·exact hs.per A hA,hs.ex,hs.fresh⟩⟩
theorem Tu(ps:List Pr):∀f∈ps.map Ge,ones f=true:=fun f hf=>by
 obtain⟨p,_,rfl⟩:=Zl.1 hf;rfl
def Hd(ps:List Pr)(k v:Bs):List Pr:=bif decide ((ps.map (·.1))[lb (ps.map (·.1)) k]? =some k)then ps.set (lb (ps.map (·.1)) k) (k,v)else ps.take (lb (ps.map (·.1)) k)++((k,v)::ps.drop (lb (ps.map (·.1)) k))
theorem Zed{ps:List Pr}{k w:Bs}(h:decide ((ps.map (·.1))[lb (ps.map (·.1)) k]? =some k)=true):(ps.map Ge).set ((lb (ps.map (·.1)) k:Nat):Int).toNat (Ge (k,w))=(Hd ps k w).map Ge:=by
 unfold Hd;rw[h,cond_true,Kn,Yp]
theorem Zee{ps:List Pr}{k w:Bs}(h:decide ((ps.map (·.1))[lb (ps.map (·.1)) k]? =some k)=false):(ps.map Ge).take (lb (ps.map (·.1)) k)++([Ge (k,w)]++(ps.map Ge).drop (lb (ps.map (·.1)) k))=(Hd ps k w).map Ge:=by
 unfold Hd;rw[h,cond_false,Zp,J2,Zr,V7];rfl
def Gj(ps:List Pr):Nd:=⟨true,ps,[],[]⟩
def NdR(n:Nd)(L P:List Asn)(r:Value)(L' P':List Asn):Prop:=∃v,r=.tuple ⟨[v,.int .i64 0]⟩∧NdV P' v n∧L'=L∧∀A∈P,A∈P'
theorem CF{L P:List Asn}{A B C:Asn}{r:Value}{es:List (List Value)}:Ent (Ow 2 r es::A::B::C::L) P L (Sl 1 (.slice none 0 0) []::Sl 2 r es::P):=
 Ent.sl.trans (Ent.d3.trans Ent.sl0)
theorem CQ{L P:List Asn}{r:Value}{ps:List Pr}:NdR (Gj ps) L P (.tuple ⟨[.agg ⟨[.bool true,r,.slice none 0 0,.slice none 0 0]⟩,.int .i64 0]⟩) L (Sl 1 (.slice none 0 0) []::Sl 2 r (ps.map Ge)::P):=
 ⟨_,rfl,⟨⟨r,_,_,rfl,.tail _ (.head _),.head _,.head _⟩⟩,rfl,fun A hA=>.tail _ (.tail _ hA)⟩
theorem Mh{n:Nd}(h:n.leafOk=true):n.leaf=true∧n.keys=[]∧n.kids=[]∧n.pairs.length≤255∧rise (n.pairs.map (·.1))=true∧n.pairs.any Dx=false:=by
 unfold Nd.leafOk at h;simp only[Zi,decide_eq_true_eq,Xd]at h;obtain⟨h1,h2,h3,h4,h5⟩:=h;exact⟨h1,Yh.1 (by omega),Yh.1 (by omega),h3,h5,h4⟩
theorem Zef(v:Value)(n:Nd)(k w:Bs)(hv:NdV P v n)(hs:n.Small)(hok:n.leafOk=true)(hk:isKey k=true)(hw:w.length≤48)(hl:n.pairs.length<255):Sp SET 80 [v,.agg ⟨Ge (k,w)⟩] L P (NdR (Gj (Hd n.pairs k w)) L P):=by
 obtain⟨h1,h2,h3,h4,h5,h6⟩:=Mh hok;have hv0:=hv;obtain⟨pv,kv,iv,rfl,hp,hkk,hi⟩:=hv.ex;refine .bo (fn:=Tryz.f80) (N:=52) ?_;refine .seq (.region ?_);refine .bx (cs:=[_,_,_,_]) fun b2=>?_;refine .bx (cs:=[_,_]) fun b3=>?_;refine .nw (cs:=[.bool false,.slice none 0 0,.slice none 0 0,.slice none 0 0]) fun b4=>?_;refine .pu .as (.nil (.seq (.seq (.region (.lda (vs:=[_,_,_,_]) ?_)))));refine .call (CU _ _ _ n hv0 hs) ?_;rintro _ L P ⟨rfl,rfl,rfl⟩;rw[hok];refine .pu .nt (.pu .mv (.on (.pu .fa (.on (.ld ?_)))));refine .on ?_;refine .call (wj _ _ k) ?_;rintro _ L P ⟨rfl,rfl,rfl⟩;rw[hk];refine .on (.pu .nt (.pu .pk (.pu .mv (.on (.pu .fa (.on (.ld ?_)))))));refine .on (.pu .ls (.on (.pu .cn (.pu .pk (.nil ?_)))));refine .no rfl (.skip (.seq (.region (.pu .fa (.ld ?_)))));refine .call (XK _ _ _ (n.pairs.map Ge) (.s (.p hp)) (by rw[Zc];omega) (Tu _)) ?_;rintro _ _ P ⟨rfl,rfl⟩
 refine .pu .as (.nil (.seq (.region (.pu .mv (.pu .fa (.ld ?_))))));refine .call (CC _ _ _ n.pairs k (.f (fun _ _=>OwF.sl) .l0) (by omega) h5) ?_;rintro _ L P ⟨rfl,rfl,rfl⟩;refine .pu .mv (.pu .ex (.pu .ex (.pu .as (.pu .as (.nil (.seq (.block (.seq (.region (.pu .mv (.pu .as (.nil ?_))))))))))));refine .ite rfl (fun h40=>?_) (fun h40=>?_)
 ·refine .region (.pu .mv (.pu .mv ?_));have hlt:lb (n.pairs.map (·.1)) k<n.pairs.length:=by
   have h41:=of_decide_eq_true h40;have h42:=(List.getElem?_eq_some_iff.1 h41).1;rw[Zc]at h42;exact h42
  refine .ent Ent.ofF ?_;refine .lda (vs:=[_,_]) ?_;refine .lk (.ia (k:=2) (es:=n.pairs.map Ge) (hm:=.o .l0) (hn:=⟨Yk _,by rw[Zc];omega⟩)) ?_;refine .se (k:=2) (vs:=Ge (k,w)) (i:=(((lb (n.pairs.map (·.1)) k:Nat)):Int).toNat) (e:=Ge n.pairs[lb (n.pairs.map (·.1)) k]) (by rw[Yp];exact C8 hlt) ?_;rw[show List.set (n.pairs.map Ge) _ _=(Hd n.pairs k w).map Ge from Zed h40];refine .fact (Hr .l0) fun⟨ax,cx,hvx⟩=>?_;subst hvx;refine .nil (.seq (.region (.pu .mv (.pu (.bd (vs:=[_,_,_,_])) (.st (vs:=[_,_,_,_]) ?_)))));refine .pu .as (.nil (.ret ?_));exact⟨_,.cell rfl .l1 rfl (.tmp rfl .nil),_,_,CF,CQ⟩
 refine .seq (.region (.pu .mv ?_));refine .lk (.ln (k:=2) (es:=n.pairs.map Ge) (hm:=.f (fun _ _=>OwF.sl) .l0)) ?_;rw[Zc];refine .pu .cn (.pu .as (.nil ?_));refine .no rfl (.region (.pu .mv (.pu .mv (.lda (vs:=[_,_]) ?_))));refine .blB (k:=2) (es:=[Ge (k,w)]) (fun v38=>?_) (hk:=by simp[Ge]);refine .call (Sp.ent Ent.swap (Zdq _ _ _ _ (lb (n.pairs.map (·.1)) k) (n.pairs.map Ge) [Ge (k,w)] (by rw[Zc];have:=Rf (n.pairs.map (·.1)) k;rw[Zc]at this;exact this) (by simp) (by rw[Zc];simp only[Zf,Zo];omega) (Tu _) (by simp[Ge,Go.Ax.ones,Go.Ax.oneC]))) ?_;rintro _ _ P ⟨rfl,rfl⟩;rw[Zee h40];refine .fact (Hr .l0) fun⟨ax,cx,hvx⟩=>?_;subst hvx;refine .pu .as (.nil (.seq (.region (.pu .mv (.pu (.bd (vs:=[_,_,_,_])) (.st (vs:=[_,_,_,_]) ?_))))))
 refine .pu .as (.nil (.ret ?_));exact⟨_,.cell rfl .l1 rfl (.tmp rfl .nil),_,_,CF,CQ⟩
theorem Tv(ns:List Nat):∀f∈ns.map encI,ones f=true:=fun f hf=>by
 obtain⟨p,_,rfl⟩:=Zl.1 hf;rfl
theorem Da(ns:List Bs):∀f∈ns.map encS,ones f=true:=fun f hf=>by
 obtain⟨p,_,rfl⟩:=Zl.1 hf;rfl
theorem Tw{α:Type}{p:α→Prop}{a b:α}(ha:p a)(hb:p b):∀x∈[a,b],p x:=fun x hx=>by
 rcases Zg.1 hx with rfl|hx
 ·exact ha
 ·rcases Zg.1 hx with rfl|hx
  ·exact hb
  ·cases hx
theorem XT{α:Type}{p:α→Prop}{a b c:α}(ha:p a)(hb:p b)(hc:p c):∀x∈[a,b,c],p x:=fun x hx=>by
 rcases Zg.1 hx with rfl|hx
 ·exact ha
 ·exact Tw hb hc x hx
theorem CW(x y:Value)(a b:List (List Value)):([(x,a),(y,b)]:List (Value×List (List Value))).flatMap (·.2)=a++b:=by simp
theorem flat3(x y z:Value)(a b c:List (List Value)):([(x,a),(y,b),(z,c)]:List (Value×List (List Value))).flatMap (·.2)=a++(b++c):=by simp
theorem Ent.slR{L L' P:List Asn}{k:Nat}{v:Value}{es:List (List Value)}(h:Rem (Ow k v es) L L'):Ent L P L' (Sl k v es::P):=(Ent.perm h.perm).trans Ent.sl
def Gd(a:Nd)(key:Bs)(b:Nd):Nd:=⟨a.leaf,a.pairs++b.pairs,bif a.leaf then []else a.keys++(key::b.keys),a.kids++b.kids⟩
structure Nd.Sm(n:Nd):Prop where
 p:n.pairs.length≤500
 k:n.keys.length≤500
 i:n.kids.length≤500
theorem Nd.Sm.small{n:Nd}(h:n.Sm):n.Small:=⟨Ye h.p (by decide),Ye h.k (by decide),Ye h.i (by decide)⟩
theorem CL{P:List Asn}{a b:Nd}{key:Bs}{pv iv:Value}(h:a.leaf=true)(h1:Sl 2 pv ((a.pairs++b.pairs).map Ge)∈P)(h2:Sl 1 (.slice none 0 0) []∈P)(h3:Sl 1 iv ((a.kids++b.kids).map encI)∈P):NdV P (.agg ⟨[.bool true,pv,.slice none 0 0,iv]⟩) (Gd a key b):=
 ⟨⟨pv,_,iv,by show _=Value.agg ⟨[.bool a.leaf,pv,_,iv]⟩;rw[h],h1,by
  have e:(Gd a key b).keys=[]:=by unfold Gd;rw[h];rfl
  rw[e];exact h2,h3⟩⟩
theorem CP{P:List Asn}{a b:Nd}{key:Bs}{pv kv iv:Value}(h:a.leaf=false)(h1:Sl 2 pv ((a.pairs++b.pairs).map Ge)∈P)(h2:Sl 1 kv ((a.keys++(key::b.keys)).map encS)∈P)(h3:Sl 1 iv ((a.kids++b.kids).map encI)∈P):NdV P (.agg ⟨[.bool false,pv,kv,iv]⟩) (Gd a key b):=
 ⟨⟨pv,kv,iv,by show _=Value.agg ⟨[.bool a.leaf,pv,kv,iv]⟩;rw[h],h1,by
  have e:(Gd a key b).keys=a.keys++(key::b.keys):=by unfold Gd;rw[h];rfl
  rw[e];exact h2,h3⟩⟩
theorem DZ(va vb:Value)(a b:Nd)(key:Bs)(hva:NdV P va a)(hvb:NdV P vb b)(hsa:a.Sm)(hsb:b.Sm)(hoa:a.ok=true)(hob:b.ok=true)(hl:a.leaf=b.leaf)(hk:isKey key=true)(hom:(Gd a key b).ok=true)(hsm:(Gd a key b).Sm):Sp SET 155 [va,S key,vb] L P (NdR (Gd a key b) L P):=by
 have hva0:=hva;have hvb0:=hvb;obtain⟨pa,ka,ia,rfl,hpa,hka,hia⟩:=hva.ex;obtain⟨pb,kb,ib,rfl,hpb,hkb,hib⟩:=hvb.ex;refine Sp.fact (Gi (.s (.p hpa))) fun⟨a1,c1,e1⟩=>?_;refine Sp.fact (Gi (.s (.p hpb))) fun⟨a2,c2,e2⟩=>?_;refine Sp.fact (Gi (.s (.p hka))) fun⟨a3,c3,e3⟩=>?_;refine Sp.fact (Gi (.s (.p hkb))) fun⟨a4,c4,e4⟩=>?_;refine Sp.fact (Gi (.s (.p hia))) fun⟨a5,c5,e5⟩=>?_;refine Sp.fact (Gi (.s (.p hib))) fun⟨a6,c6,e6⟩=>?_;subst e1 e2 e3 e4 e5 e6;refine .bo (fn:=Tryz.f155) (N:=61) ?_;refine .seq (.region ?_);refine .bx (cs:=[_,_,_,_]) fun b3=>?_;refine .bx (cs:=[_,_,_,_]) fun b5=>?_;refine .nw (cs:=[.bool false,.slice none 0 0,.slice none 0 0,.slice none 0 0]) fun b6=>?_;refine .pu .as (.nil (.seq (.seq (.region (.lda (vs:=[_,_,_,_]) ?_)))));refine .call (Bw _ _ _ a hva0 hsa.small) ?_;rintro _ L P ⟨rfl,rfl,rfl⟩
 rw[hoa];refine .pu .cmp (.pu .mv (.on (.lda (vs:=[_,_,_,_]) ?_)));refine .on ?_;refine .call (Bw _ _ _ b hvb0 hsb.small) ?_;rintro _ L P ⟨rfl,rfl,rfl⟩;rw[hob];refine .on (.pu .cmp (.pu .pk (.pu .mv (.on (.pu .fa (.on (.ld ?_)))))));refine .on (.pu .fa (.on (.ld ?_)));refine .on (.pu (.bin_bool_neq) ?_);rw[show(a.leaf !=b.leaf)=false by rw[hl];cases b.leaf<;>rfl]
 refine .pu .pk (.pu .mv (.on (.pu .mv ?_)));refine .on ?_;refine .call (wj _ _ key) ?_;rintro _ L P ⟨rfl,rfl,rfl⟩;rw[hk];refine .on (.pu .nt (.pu .pk (.nil ?_)));refine .no rfl (.skip ?_);refine .seq (.drawn fun _=>?_);refine .pu .fa (.lo 0 2 .ld .mk ?_);refine .pu .fa (.lo 0 0 .ld .mk ?_);refine .pu .fa (.lo 0 0 .ld .mk ?_);refine .bl (k:=1) (es:=[[_],[_]]) fun v36=>?_;refine .call (Zc7 _ _ _ [(_,a.pairs.map Ge),(_,b.pairs.map Ge)] (.o .l0) (Tw (.s (.p hpa)) (.s (.p hpb))) (by show 2≤1000;omega) (Tw (by show(a.pairs.map Ge).length≤1000;rw[Zc];have:=hsa.p;omega) (by show(b.pairs.map Ge).length≤1000;rw[Zc];have:=hsb.p;omega)) (Tw (Tu _) (Tu _))) ?_;rintro _ _ P ⟨rfl,rfl⟩;rw[CW,←Zp];refine .fact (Hr .l0) fun⟨a37,c37,e37⟩=>?_;subst e37;refine .pu .fa (.lo 0 1 .ld .mk ?_)
 refine .pu .fa (.lo 0 1 .ld .mk ?_);refine .bl (k:=1) (es:=[[_],[_]]) (hlt:=by show∀x∈([]:Hj),_;simp) fun v42=>?_;refine .call (Zde _ _ _ [(_,a.kids.map encI),(_,b.kids.map encI)] (.o .l0) (Tw (.s (.p hia)) (.s (.p hib))) (by show 2≤1000;omega) (Tw (by show(a.kids.map encI).length≤1000;rw[Zc];have:=hsa.i;omega) (by show(b.kids.map encI).length≤1000;rw[Zc];have:=hsb.i;omega)) (Tw (Tv _) (Tv _))) ?_;rintro _ _ P ⟨rfl,rfl⟩;rw[CW,←Zp];refine .fact (Hr .l0) fun⟨a43,c43,e43⟩=>?_;subst e43;refine .pu (.bd (vs:=[_,_,_,_])) ?_;refine .nw (cs:=[_,_,_,_]) (hlt:=by show∀x∈([]:Hj),_;simp) fun b8=>?_;refine .st (vs:=[_,_,_,_]) ?_;refine .nil (.cons (.yes .mk (.yes .mk (.skip (.skip .nil)))) (.cons (.yes .mk (.yes .mk (.skip (.skip .nil)))) (.cons (.yes .mk (.skip (.skip (.skip .nil)))) (.cons (.yes .mk (.skip (.skip (.skip .nil)))) (.cons (.yes .mk (.yes .mk (.yes .mk (.skip .nil)))) .nil))))) ?_
 by_cases hlf:a.leaf=true
 ·refine .seq (.seq (.region (.pu .fa (.ld ?_))));rw[hlf];refine .pu .nt (.nil ?_);refine .no rfl (.skip (.seq (.seq (.region (.ent ((Ent.slR (.s .z)).trans ((Ent.slR (.s (.s .z))).trans (Ent.sl0 (k:=1) (c:=0)))) ?_)))));refine .lda (vs:=[_,_,_,_]) ?_;refine .call (Bw _ _ _ (Gd a key b) (CL hlf (.tail _ (.head _)) (.head _) (.tail _ (.tail _ (.head _)))) hsm.small) ?_;rintro _ L P ⟨rfl,rfl,rfl⟩;rw[hom];refine .pu .cmp (.nil ?_);refine .no rfl (.skip (.seq (.region (.lda (vs:=[_,_,_,_]) ?_))));refine .st (vs:=[_,_,_,_]) ?_;refine .pu .as (.nil (.ret ?_));exact⟨_,.cell rfl .l3 rfl (.tmp rfl .nil),_,_,.d6,_,rfl,CL hlf (.tail _ (.head _)) (.head _) (.tail _ (.tail _ (.head _))),rfl,fun A hA=>.tail _ (.tail _ (.tail _ hA))⟩
 ·refine .seq (.seq (.region (.pu .fa (.ld ?_))));rw[Zpu.2 hlf];refine .pu .nt (.nil ?_);refine .yes rfl (.region (.pu .fa (.ld ?_)));refine .pu .mv ?_;refine .bl (k:=1) (es:=[[_]]) fun v51=>?_;refine .fact (Hr .l0) fun⟨a51,c51,e51⟩=>?_;subst e51;refine .pu .fa (.ld ?_);refine .bl (k:=1) (es:=[[_],[_],[_]]) fun v54=>?_;refine .call (Zdk _ _ _ [(_,a.keys.map encS),(_,[encS key]),(_,b.keys.map encS)] (.o .l0) (XT (.s (.p hka)) (.o .l1) (.s (.p hkb))) (by show 3≤1000;omega) (XT (by show(a.keys.map encS).length≤1000;rw[Zc];have:=hsa.k;omega) (by show 1≤1000;omega) (by show(b.keys.map encS).length≤1000;rw[Zc];have:=hsb.k;omega)) (XT (Da _) (Da [key]) (Da _))) ?_;rintro _ _ P ⟨rfl,rfl⟩;rw[flat3,show a.keys.map encS++([encS key]++b.keys.map encS)=(a.keys++(key::b.keys)).map encS by rw[Zp,Zr];rfl]
  refine .fact (Hr .l0) fun⟨a55,c55,e55⟩=>?_;subst e55;refine .pu .fa (.st (vs:=[_]) ?_);refine .nil (.seq (.seq (.region (.ent ((Ent.slR .z).trans ((Ent.slR (.s (.s (.s .z)))).trans (Ent.slR (.s (.s (.s (.s .z))))))) ?_))));refine .lda (vs:=[_,_,_,_]) ?_;refine .call (Bw _ _ _ (Gd a key b) (CP (Zpu.2 hlf) (.head _) (.tail _ (.tail _ (.head _))) (.tail _ (.head _))) hsm.small) ?_;rintro _ L P ⟨rfl,rfl,rfl⟩;rw[hom];refine .pu .cmp (.nil ?_);refine .no rfl (.skip (.seq (.region (.lda (vs:=[_,_,_,_]) ?_))));refine .st (vs:=[_,_,_,_]) ?_;refine .pu .as (.nil (.ret ?_));exact⟨_,.cell rfl .l5 rfl (.tmp rfl .nil),_,_,(Ent.d6.trans Ent.d2),_,rfl,CP (Zpu.2 hlf) (.head _) (.tail _ (.tail _ (.head _))) (.tail _ (.head _)),rfl,fun A hA=>.tail _ (.tail _ (.tail _ hA))⟩
def pp0(b:Nat):Value:=.pointer (some ⟨b,0,none⟩)
theorem Zeg(v:Value):Sp SET 273 [v] L P (fun r L' P'=>r=v∧L'=L∧P'=P):=Sp.noesc
theorem Zeh(b:Nat)(v:Value):Sp SET 238 [pp0 b] (Pt b [.pointer none,v] (tz 0 287)::L) P (fun r L' P'=>L'=Pt b [pp0 b,v] (tz 0 287)::L∧P'=P):=by
 refine .bo (fn:=Tryz.f238) (N:=19) ?_;refine .seq (.region (.pu .mv (.pu .nc (.pu .fa (.ld ?_)))));refine .pu .peq (.nil ?_);refine .yes rfl (.region (.pu .mv (.pu .mv (.up ?_))));refine .call (Zeg _ _ _) ?_;rintro _ L P ⟨rfl,rfl,rfl⟩;refine .up (.pu .nc (.pu .fa (.st (vs:=[_]) ?_)));refine .nil ?_;exact⟨_,.nil,_,_,.refl _ _,rfl,rfl⟩
theorem Zei(b:Nat)(v:Value):Sp SET 238 [pp0 b] (Pt b [pp0 b,v] (tz 0 287)::L) P (fun r L' P'=>L'=Pt b [pp0 b,v] (tz 0 287)::L∧P'=P):=by
 refine .bo (fn:=Tryz.f238) (N:=19) ?_;refine .seq (.region (.pu .mv (.pu .nc (.pu .fa (.ld ?_)))));refine .pu .peq (.nil ?_);refine .no rfl (.seq (.region (.pu .mv (.pu .nc (.pu .fa (.ld ?_))))));refine .pu .mv (.pu .pdiff (.nil ?_));refine .no rfl (.skip ?_);exact⟨_,.nil,_,_,.refl _ _,rfl,rfl⟩
theorem DY(b:Nat)(sp v:Value)(h:sp=.pointer none∨sp=pp0 b):Sp SET 238 [pp0 b] (Pt b [sp,v] (tz 0 287)::L) P (fun r L' P'=>L'=Pt b [pp0 b,v] (tz 0 287)::L∧P'=P):=by
 rcases h with rfl|rfl
 ·exact Zeh L P b v
 ·exact Zei L P b v
theorem Zej(b:Nat)(sp v:Value)(bs:Bs)(c:UInt8)(h:sp=.pointer none∨sp=pp0 b)(hl:bs.length≤1099511600000):Sp SET 200 [pp0 b,.int .u8 c.toNat] (Pt b [sp,v] (tz 0 287)::OwZ 5 1 v (byL bs)::L) P (fun r L' P'=>r=.nilIface∧(∃v',L'=Pt b [pp0 b,v'] (tz 0 287)::OwZ 5 1 v' (byL (bs++[c]))::L)∧P'=P):=by
 refine .bo (fn:=Tryz.f200) (N:=16) ?_;refine .seq (.region (.pu .as (.nil (.seq (.region (.pu .mv ?_))))));refine .call (DY _ _ _ _ _ h) ?_;rintro _ _ P ⟨rfl,rfl⟩;refine .nil (.seq (.region (.pu .mv (.pu .mv (.pu .nc (.pu .fa (.ld ?_)))))));refine .pu .mv ?_;refine .bl (k:=1) (es:=[[_]]) fun v13=>?_;refine .apz (.sl (.o .l0)) (fun v14=>?_) (hn:=by rw[M4];simp only[Zf,Zo];show(bs.length+1)*1≤_;omega);refine .fact (KG .l0) fun⟨a14,c14,e14⟩=>?_;subst e14;refine .pu .nc (.pu .fa (.st (vs:=[_]) ?_));refine .nil (.seq (.region (.pu .as (.nil (.ret ?_)))));exact⟨_,.tmp rfl .nil,_,_,(.take (.s (.s .z)) (.take .z .d1)),rfl,⟨_,by rw[EV];rfl⟩,rfl⟩
theorem Zek(b:Nat)(sp v:Value)(bs:Bs)(a:Bs)(h:sp=.pointer none∨sp=pp0 b)(hl:bs.length+a.length≤1099511600000):Sp SET 201 [pp0 b,S a] (Pt b [sp,v] (tz 0 287)::OwZ 5 1 v (byL bs)::L) P (fun r L' P'=>(∃v',L'=Pt b [pp0 b,v'] (tz 0 287)::OwZ 5 1 v' (byL (bs++a))::L)∧P'=P):=by
 refine .bo (fn:=Tryz.f201) (N:=18) ?_;refine .seq (.region (.pu .as (.pu .as (.nil (.seq (.region (.pu .mv ?_)))))));refine .call (DY _ _ _ _ _ h) ?_;rintro _ _ P ⟨rfl,rfl⟩;refine .nil (.seq (.region (.pu .mv (.pu .mv (.pu .nc (.pu .fa (.ld ?_)))))));refine .pu .mv ?_;refine .apz .tx (fun v14=>?_) (hn:=by rw[M4,M4];show(bs.length+a.length)*1≤_;omega);refine .fact (KG .l0) fun⟨a14,c14,e14⟩=>?_;subst e14;refine .pu .nc (.pu .fa (.st (vs:=[_]) ?_));refine .nil (.seq (.region (.pu .mv (.pu .ls (.pu .as (.pu .as (.nil (.ret ?_))))))));exact⟨_,.tmp rfl (.tmp rfl .nil),_,_,(.take (.s .z) (.take .z (.refl _ _))),⟨_,by rw[EV]⟩,rfl⟩
theorem Zel(b:Nat)(sp v:Value)(bs:Bs)(hne:bs≠[])(hl:bs.length≤1099511600000):Sp SET 202 [pp0 b] (Pt b [sp,v] (tz 0 287)::OwZ 5 1 v (byL bs)::L) P (fun r L' P'=>r=S bs∧L'=L∧P'=P):=by
 refine .bo (fn:=Tryz.f202) (N:=13) ?_;refine .fact (KG .l1) fun⟨a0,c0,e0⟩=>?_;subst e0;refine .seq (.region (.pu .as (.nil ?_)));refine .seq (.drawn fun _=>?_);refine .pu .mv (.pu .nc (.pu .fa (.lo 0 0 .ld .mk ?_)));refine .wo (.usd rfl .l1 (KH hne) (fun b7 n7 c7 e7=>?_));cases e7;refine .pu .mv (.pu .nc (.pu .fa (.lo 0 1 .ld .mk ?_)));refine .lk (.lnz .l1) ?_;refine .wo (.ustr rfl rfl (.s .z) hne (by omega) (by rfl) ?_);refine .pu .as (.nil (.cons (.yes .mk (.yes .mk (.skip .nil))) (.cons (.yes .mk (.skip (.skip .nil))) .nil)) (.ret ?_));exact⟨_,.tmp rfl .nil,_,_,.d1,rfl,rfl,rfl⟩
def Bld(b:Nat)(bs:Bs):Asn:=Bx (fun x:Value×Value=>x.1=.pointer none∨x.1=pp0 b) (fun x=>[Pt b [x.1,x.2] (tz 0 287),OwZ 5 1 x.2 (byL bs)])
theorem DX{L P:List Asn}{b:Nat}:Ent (Pt b [.pointer none,.slice none 0 0] (tz 0 287)::L) P (Bld b []::L) P:=
 (Ent.nonez (k:=1) (e:=5)).trans (Ent.swap.trans (Ent.close (c:=fun x:Value×Value=>x.1=.pointer none∨x.1=pp0 b) (A:=fun x=>[Pt b [x.1,x.2] (tz 0 287),OwZ 5 1 x.2 (byL [])]) (.pointer none,.slice none 0 0) (.inl rfl)))
theorem DV{L P:List Asn}{b:Nat}{v:Value}{bs:Bs}:Ent (Pt b [pp0 b,v] (tz 0 287)::OwZ 5 1 v (byL bs)::L) P (Bld b bs::L) P:=
 Ent.close (c:=fun x:Value×Value=>x.1=.pointer none∨x.1=pp0 b) (A:=fun x=>[Pt b [x.1,x.2] (tz 0 287),OwZ 5 1 x.2 (byL bs)]) (pp0 b,v) (.inr rfl)
theorem Tx(b:Nat)(bs:Bs)(c:UInt8)(hl:bs.length≤100000):Sp SET 200 [pp0 b,.int .u8 c.toNat] (Bld b bs::L) P (fun r L' P'=>r=.nilIface∧L'=Bld b (bs++[c])::L∧P'=P):=
 Sp.open (fun x hx=>(Zej L P b x.1 x.2 bs c hx (by omega)).post (fun r L' P' ⟨h1,⟨v',h2⟩,h3⟩=>⟨_,P',by rw[h2];exact DV,h1,rfl,h3⟩))
theorem Zem(b:Nat)(bs a:Bs)(hl:bs.length+a.length≤100000):Sp SET 201 [pp0 b,S a] (Bld b bs::L) P (fun r L' P'=>True∧L'=Bld b (bs++a)::L∧P'=P):=
 Sp.open (fun x hx=>(Zek L P b x.1 x.2 bs a hx (by omega)).post (fun r L' P' ⟨⟨v',h2⟩,h3⟩=>⟨_,P',by rw[h2];exact DV,trivial,rfl,h3⟩))
theorem DU(b:Nat)(bs:Bs)(hne:bs≠[])(hl:bs.length≤100000):Sp SET 202 [pp0 b] (Bld b bs::L) P (fun r L' P'=>r=S bs∧L'=L∧P'=P):=
 Sp.open (fun x hx=>Zel L P b x.1 x.2 bs hne (by omega))
def Mi(s:Bs):Bs:=UInt8.ofNat s.length::s
theorem bj{n:Nat}(h:n≤255):(UInt8.ofNat n).toNat=n:=by
 rw[Jc];omega
theorem XQ(b:Nat)(bs s:Bs)(hs:s.length≤255)(hl:bs.length≤50000):Sp SET 199 [S s,pp0 b] (Bld b bs::L) P (fun r L' P'=>True∧L'=Bld b (bs++Mi s)::L∧P'=P):=by
 refine .bo (fn:=Tryz.f199) (N:=8) ?_;refine .seq (.region (.pu .mv (.pu .ls (.pu .ci ?_))));rw[show((s.length:Nat):Int)=(((UInt8.ofNat s.length).toNat:Nat):Int) by rw[bj hs]];refine .call (Tx _ _ b bs (UInt8.ofNat s.length) (by omega)) ?_;rintro _ L P ⟨rfl,rfl,rfl⟩;refine .nil (.region (.pu .mv ?_));refine .call (Zem _ _ b (bs++[UInt8.ofNat s.length]) s (by rw[Zd,List.length_singleton];omega)) ?_;rintro _ L P ⟨-,rfl,rfl⟩;refine .nil ?_;refine⟨_,.nil,_,_,.refl _ _,trivial,?_,rfl⟩;unfold Mi;rw[Zu];rfl
def Hq(ps:List Pr):Bs:=ps.flatMap fun p=>Mi p.1++Mi p.2
def Hg(ks:List Nat):Bs:=ks.flatMap fun k=>[UInt8.ofNat k,UInt8.ofNat (k/256)]
def G9(ks:List Bs):Bs:=ks.flatMap Mi
def Nd.enc(n:Nd):Bs:=bif n.leaf then 1::UInt8.ofNat n.pairs.length::Hq n.pairs else 2::UInt8.ofNat n.kids.length::(Hg n.kids++G9 n.keys)
theorem XW(ps:List Pr):(Hq ps).length=weight ps:=by
 unfold Hq weight
 induction ps with
 |nil=>rfl
 |cons p ps ih=>
  rw[Zx,Zd,ih,Zr,Uo];unfold Mi;simp only[Zd,Zf];omega
theorem XL(ks:List Nat):(Hg ks).length=2*ks.length:=by
 unfold Hg
 induction ks with
 |nil=>rfl
 |cons p ps ih=>
  rw[Zx,Zd,ih];simp only[Zf,Zo];omega
theorem wq(ks:List Bs):(G9 ks).length=G4 ks:=by
 unfold G9 G4
 induction ks with
 |nil=>rfl
 |cons p ps ih=>
  rw[Zx,Zd,ih,Zr,Uo];unfold Mi;simp only[Zf];omega
theorem wt(n:Nd):n.enc.length=n.size:=by
 unfold Nd.enc Nd.size;cases n.leaf with
 |true=>simp only[cond_true,Zf,XW];omega
 |false=>simp only[cond_false,Zf,Zd,XL,wq];omega
theorem XP{α:Type}{f:α→Bs}{xs:List α}{i:Nat}(h:i<xs.length):(xs.take (i+1)).flatMap f=(xs.take i).flatMap f++f xs[i]:=by
 rw[Jw,Zn h,Yd];simp only[Kp,Zx,Kq,Z9]
theorem VZ{α:Type}{f:α→Bs}(xs:List α)(i:Nat):((xs.take i).flatMap f).length≤(xs.flatMap f).length:=by
 have:xs.flatMap f=(xs.take i).flatMap f++(xs.drop i).flatMap f:=by rw[←Yd,Ym]
 rw[this,Zd];omega
theorem Cf{n:Nd}(h:n.leafOk=true):∀p∈n.pairs,isKey p.1=true∧p.1.length≤32∧p.2.length≤48:=fun p hp=>by
 obtain⟨_,_,_,_,_,h6⟩:=Mh h;have:=V1.1 h6 p hp;unfold Dx at this;simp only[Yq,Xd,decide_eq_true_eq,not_or,Bool.not_eq_false]at this;refine⟨this.1,?_,by omega⟩;have h1:=this.1;unfold isKey at h1;simp only[Zi,decide_eq_true_eq]at h1;exact h1.2
theorem D3{n:Nd}(h:n.leafOk=true):n.ok=true:=by
 unfold Nd.ok;rw[h];rfl
theorem Mj{n:Nd}(h:n.ok=true)(hl:n.leaf=true):n.leafOk=true:=by
 unfold Nd.ok at h;cases hx:n.leafOk with
 |true=>rfl
 |false=>
  rw[hx,Vb]at h;unfold Nd.innerOk at h;rw[hl]at h;cases h
theorem M6{n:Nd}(h:n.ok=true)(hl:n.leaf=false):n.innerOk=true:=by
 unfold Nd.ok at h;cases hx:n.innerOk with
 |true=>rfl
 |false=>
  rw[hx,V6]at h;unfold Nd.leafOk at h;rw[hl]at h;cases h
theorem Mk{n:Nd}(h:n.innerOk=true):n.leaf=false∧n.pairs=[]∧1≤n.kids.length∧n.kids.length≤255∧n.keys.length+1=n.kids.length∧(∀k∈n.keys,isKey k=true)∧(∀k∈n.kids,1≤k∧k≤65535)∧rise n.keys=true:=by
 unfold Nd.innerOk at h;simp only[Zi,decide_eq_true_eq,Xd]at h;obtain⟨h1,h2,h3,h4,h5,h6,h7,h8⟩:=h;refine⟨h1,Yh.1 h2,h3,h4,h5,fun k hk=>?_,fun k hk=>?_,h8⟩
 ·have:=V1.1 h6 k hk;simpa using this
 ·have:=V1.1 h7 k hk;unfold Re at this;simp only[Yq,decide_eq_true_eq,not_or]at this;omega
theorem Rh{k:Bs}(h:isKey k=true):k≠[]∧k.length≤32:=by
 unfold isKey at h;simp only[Zi,decide_eq_true_eq]at h;exact h
theorem Nf{n:Nd}(h:n.leaf=true):n.size=2+weight n.pairs:=by unfold Nd.size;rw[h];rfl
theorem Db{n:Nd}(h:n.leaf=false):n.size=2+2*n.kids.length+G4 n.keys:=by unfold Nd.size;rw[h];rfl
theorem Zen(v:Value)(n:Nd)(hv:NdV P v n)(hs:n.Sm)(hok:n.leafOk=true)(hz:n.size≤160):Sp SET 145 [v] L P (fun r L' P'=>r=.tuple ⟨[S n.enc,.int .i64 0]⟩∧L'=L∧P'=P):=by
 obtain⟨h1,h2,h3,h4,h5,h6⟩:=Mh hok;have hsz:=Nf h1;have hpo:=Cf hok;have hkw:G4 n.keys=0:=by rw[h2];rfl
 have hv0:=hv;obtain⟨pv,kv,iv,rfl,hp,hkk,hi⟩:=hv.ex;refine .bo (fn:=Tryz.f145) (N:=78) ?_;refine .seq (.region ?_);refine .bx (cs:=[_,_,_,_]) fun b1=>?_;refine .pu .as (.pu .as (.nil (.seq (.block (.seq (.region (.lda (vs:=[_,_,_,_]) ?_)))))));refine .call (Bw _ _ _ n hv0 hs.small) ?_;rintro _ L P ⟨rfl,rfl,rfl⟩;rw[D3 hok];refine .pu .cmp (.pu .as (.nil ?_));refine .no rfl (.seq (.region (.lda (vs:=[_,_,_,_]) ?_)));refine .call (Ts _ _ _ n hv0 hs.small (by omega) (by omega)) ?_;rintro _ L P ⟨rfl,rfl,rfl⟩;refine .pu .cn (.pu .as (.nil ?_));refine .no rfl (.skip (.seq (.region ?_)));refine .nw (cs:=[.pointer none,.slice none 0 0]) fun b4=>?_;refine .nil (.seq (.region (.ent DX ?_)));refine .pu .mf (.pu .as (.nil (.seq (.seq (.region (.pu .fa (.ld ?_)))))));rw[h1];refine .nil ?_;refine .yes rfl (.seq (.region ?_));refine .call (Tx _ _ _ [] 1 (by decide)) ?_;rintro _ L P ⟨rfl,rfl,rfl⟩
 refine .nil (.seq (.region (.pu .fa (.ld ?_))));refine .lk .ln ?_;rw[Zc];refine .pu .ci ?_;rw[show((n.pairs.length:Nat):Int)=(((UInt8.ofNat n.pairs.length).toNat:Nat):Int) by rw[bj h4]];refine .call (Tx _ _ _ ([]++[1]) (UInt8.ofNat n.pairs.length) (by decide)) ?_;rintro _ L P ⟨rfl,rfl,rfl⟩;refine .nil (.seq (.seq (.region (.pu .fa (.ld ?_)))));refine .lk .ln ?_;refine .pu .mv (.nil ?_);refine .block (W.loop (fun i:Nat=>i≤n.pairs.length) (fun i=>n.pairs.length-i) (fun i=>[(32,.int .i64 (i:Nat)),(31,.int .i64 (n.pairs.map Ge).length),(30,pv),(4,pp0 b4),(5,.func (.func 199) #[] #[pp0 b4])]) (fun i=>Bld b4 (1::UInt8.ofNat n.pairs.length::Hq (n.pairs.take i))::Pt b1 [.bool true,pv,kv,iv] (tz 0 131)::L) (fun _=>P) 0 (Zj _) ⟨rfl,rfl,rfl,rfl,rfl,trivial⟩ (.refl _ _) (fun i hi=>?_));have hlen:(n.pairs.map Ge).length=n.pairs.length:=Zc ..
 have hpre:(Hq (n.pairs.take i)).length≤158:=by
  have h7:(Hq (n.pairs.take i)).length≤(Hq n.pairs).length:=VZ n.pairs i;rw[XW n.pairs]at h7;omega
 by_cases hlt:i<n.pairs.length
 ·refine .seq (.region (.pu .cy (.nil (.seq (.yes rfl (.skip (.seq (.block (.seq (.region ?_))))))))));have hg:(n.pairs.map Ge)[((i:Nat):Int).toNat]? =some (Ge n.pairs[i]):=C8 hlt;obtain⟨p1,p2,p3⟩:=hpo _ (Zz hlt);refine .lk .ia ?_;refine .la hg ?_;refine .nw (cs:=[S [],S []]) fun b7=>?_;refine .st (vs:=[_,_]) ?_;refine .nil (.seq (.region (.pu .mv (.pu .fa (.ld ?_)))));refine .call (Sp.up (.s .z) (fun L=>XQ L _ b4 (1::UInt8.ofNat n.pairs.length::Hq (n.pairs.take i)) n.pairs[i].1 (by omega) (by simp only[Zf];omega))) ?_;rintro _ L P ⟨-,rfl,rfl⟩;refine .nil (.region (.pu .mv (.pu .fa (.ld ?_))));refine .call (Sp.up (.s .z) (fun L=>XQ L _ b4 ((1::UInt8.ofNat n.pairs.length::Hq (n.pairs.take i))++Mi n.pairs[i].1) n.pairs[i].2 (by omega) (by unfold Mi;simp only[Zf,Zd];omega))) ?_;rintro _ L P ⟨-,rfl,rfl⟩
  refine .nil (.region (.pu .add (.pu .mv (.nil ?_))));refine⟨i+1,hlt,by show n.pairs.length-(i+1)<n.pairs.length-i;omega,⟨rfl,rfl,rfl,rfl,rfl,trivial⟩,?_⟩;have e:Hq (n.pairs.take (i+1))=Hq (n.pairs.take i)++(Mi n.pairs[i].1++Mi n.pairs[i].2):=XP hlt;show Ent _ _ (Bld b4 (1::UInt8.ofNat n.pairs.length::Hq (n.pairs.take (i+1)))::_) P;rw[e,←Zu];exact Ent.drop
 ·refine .seq (.region (.pu .cn (.nil (.seq (.no rfl (.exit (.seq (.region ?_))))))));refine .call (DU _ _ _ (1::UInt8.ofNat n.pairs.length::Hq (n.pairs.take i)) (by simp) (by simp only[Zf];omega)) ?_;rintro _ L P ⟨rfl,rfl,rfl⟩;refine .pu .as (.pu .as (.nil (.ret ?_)));refine⟨_,.tmp rfl (.tmp rfl .nil),_,_,.d1,?_,rfl,rfl⟩;have e:n.pairs.take i=n.pairs:=Z8 (Xk hlt);rw[e];unfold Nd.enc;rw[h1];rfl
theorem bq(k:Nat):((k%256:Nat):Int)=(((UInt8.ofNat k).toNat:Nat):Int):=by
 rw[Jc]
theorem Zeo(v:Value)(n:Nd)(hv:NdV P v n)(hs:n.Sm)(hok:n.innerOk=true)(hz:n.size≤160):Sp SET 145 [v] L P (fun r L' P'=>r=.tuple ⟨[S n.enc,.int .i64 0]⟩∧L'=L∧P'=P):=by
 obtain⟨h1,h2,h3,h4,h5,h6,h7,h8⟩:=Mk hok;have hsz:=Db h1;have hw0:weight n.pairs=0:=by rw[h2];rfl
 have hok2:n.ok=true:=by unfold Nd.ok;rw[hok,Jd]
 have hv0:=hv;obtain⟨pv,kv,iv,rfl,hp,hkk,hii⟩:=hv.ex;have hlenK:(n.kids.map encI).length=n.kids.length:=Zc ..;have hlenS:(n.keys.map encS).length=n.keys.length:=Zc ..;have hpreK:∀i,(Hg (n.kids.take i)).length≤160:=fun i=>by
  have h7:(Hg (n.kids.take i)).length≤(Hg n.kids).length:=VZ n.kids i;rw[XL n.kids]at h7;omega
 have hpreS:∀i,(G9 (n.keys.take i)).length≤160:=fun i=>by
  have h7:(G9 (n.keys.take i)).length≤(G9 n.keys).length:=VZ n.keys i;rw[wq n.keys]at h7;omega
 refine .bo (fn:=Tryz.f145) (N:=78) ?_;refine .seq (.region ?_);refine .bx (cs:=[_,_,_,_]) fun b1=>?_;refine .pu .as (.pu .as (.nil (.seq (.block (.seq (.region (.lda (vs:=[_,_,_,_]) ?_)))))));refine .call (Bw _ _ _ n hv0 hs.small) ?_;rintro _ L P ⟨rfl,rfl,rfl⟩;rw[hok2];refine .pu .cmp (.pu .as (.nil ?_));refine .no rfl (.seq (.region (.lda (vs:=[_,_,_,_]) ?_)));refine .call (Ts _ _ _ n hv0 hs.small (by omega) (by omega)) ?_;rintro _ L P ⟨rfl,rfl,rfl⟩;refine .pu .cn (.pu .as (.nil ?_));refine .no rfl (.skip (.seq (.region ?_)));refine .nw (cs:=[.pointer none,.slice none 0 0]) fun b4=>?_;refine .nil (.seq (.region (.ent DX ?_)));refine .pu .mf (.pu .as (.nil (.seq (.seq (.region (.pu .fa (.ld ?_)))))));rw[h1];refine .nil ?_;refine .no rfl (.skip (.seq (.region ?_)));refine .call (Tx _ _ _ [] 2 (by decide)) ?_;rintro _ L P ⟨rfl,rfl,rfl⟩
 refine .nil (.seq (.region (.pu .fa (.ld ?_))));refine .lk .ln ?_;rw[Zc];refine .pu .ci ?_;rw[show((n.kids.length:Nat):Int)=(((UInt8.ofNat n.kids.length).toNat:Nat):Int) by rw[bj h4]];refine .call (Tx _ _ _ ([]++[2]) (UInt8.ofNat n.kids.length) (by decide)) ?_;rintro _ L P ⟨rfl,rfl,rfl⟩;refine .nil (.seq (.seq (.region (.pu .fa (.ld ?_)))));refine .lk .ln ?_;refine .pu .mv (.nil ?_);refine .block (W.loop (fun i:Nat=>i≤n.kids.length) (fun i=>n.kids.length-i) (fun i=>[(55,.int .i64 (i:Nat)),(54,.int .i64 (n.kids.map encI).length),(53,iv),(4,pp0 b4),(5,.func (.func 199) #[] #[pp0 b4]),(1,pp0 b1)]) (fun i=>Bld b4 (2::UInt8.ofNat n.kids.length::Hg (n.kids.take i))::Pt b1 [.bool false,pv,kv,iv] (tz 0 131)::L) (fun _=>P) 0 (Zj _) ⟨rfl,rfl,rfl,rfl,rfl,rfl,trivial⟩ (.refl _ _) (fun i hi=>?_));by_cases hlt:i<n.kids.length
 ·refine .seq (.region (.pu .cy (.nil (.seq (.yes rfl (.skip (.seq (.block (.seq (.region ?_))))))))));have hg:(n.kids.map encI)[((i:Nat):Int).toNat]? =some (encI n.kids[i]):=CZ hlt;obtain⟨k1,k2⟩:=h7 _ (Zz hlt);have hp1:=hpreK i;refine .lk .ia ?_;refine .le hg ?_;refine .pu .as (.nil (.seq (.region (.pu .mv (.pu (.ciw (wrap_u8 n.kids[i])) ?_)))));rw[bq];refine .call (Tx _ _ _ (2::UInt8.ofNat n.kids.length::Hg (n.kids.take i)) (UInt8.ofNat n.kids[i]) (by simp only[Zf];omega)) ?_;rintro _ L P ⟨rfl,rfl,rfl⟩;refine .nil (.region (.pu .mv (.pu .shrN (.pu (.ciw (wrap_u8 (n.kids[i]>>>8))) ?_))));rw[show n.kids[i]>>>8=n.kids[i] /256 from Xe _ 8,bq];refine .call (Tx _ _ _ (2::UInt8.ofNat n.kids.length::Hg (n.kids.take i)++[UInt8.ofNat n.kids[i]]) (UInt8.ofNat (n.kids[i] /256)) (by simp only[Zf,Zd,Zo];omega)) ?_;rintro _ L P ⟨rfl,rfl,rfl⟩
  refine .nil (.region (.pu .add (.pu .mv (.nil ?_))));refine⟨i+1,hlt,by show n.kids.length-(i+1)<n.kids.length-i;omega,⟨rfl,rfl,rfl,rfl,rfl,rfl,trivial⟩,?_⟩;have e:Hg (n.kids.take (i+1))=Hg (n.kids.take i)++[UInt8.ofNat n.kids[i],UInt8.ofNat (n.kids[i] /256)]:=XP hlt;show Ent _ _ (Bld b4 (2::UInt8.ofNat n.kids.length::Hg (n.kids.take (i+1)))::_) P;rw[e];simp only[Y0,Zu,List.nil_append];exact .refl _ _
 ·refine .seq (.region (.pu .cn (.nil (.seq (.no rfl (.exit (.seq (.seq (.region ?_)))))))));have eK:n.kids.take i=n.kids:=Z8 (Xk hlt);rw[eK];have hp2:=hpreK n.kids.length;rw[Ul]at hp2;refine .pu .fa (.ld ?_);refine .lk .ln ?_;refine .pu .mv (.nil ?_);refine .block (W.loop (fun i:Nat=>i≤n.keys.length) (fun i=>n.keys.length-i) (fun i=>[(70,.int .i64 (i:Nat)),(69,.int .i64 (n.keys.map encS).length),(68,kv),(4,pp0 b4),(5,.func (.func 199) #[] #[pp0 b4])]) (fun i=>Bld b4 (2::UInt8.ofNat n.kids.length::(Hg n.kids++G9 (n.keys.take i)))::Pt b1 [.bool false,pv,kv,iv] (tz 0 131)::L) (fun _=>P) 0 (Zj _) ⟨rfl,rfl,rfl,rfl,rfl,trivial⟩ (by rw[List.take_zero,show G9 []=[]from rfl,Z9];exact .refl _ _) (fun j hj=>?_));by_cases hlt2:j<n.keys.length
  ·refine .seq (.region (.pu .cy (.nil (.seq (.yes rfl (.skip (.seq (.block (.seq (.region ?_))))))))));have hg:(n.keys.map encS)[((j:Nat):Int).toNat]? =some (encS n.keys[j]):=Dw hlt2;obtain⟨k1,k2⟩:=Rh (h6 _ (Zz hlt2));have hp1:=hpreS j;refine .lk .ia ?_;refine .le hg ?_;refine .pu .as (.nil (.region (.pu .mv (.pu .mv ?_))));refine .call (XQ _ _ b4 (2::UInt8.ofNat n.kids.length::(Hg n.kids++G9 (n.keys.take j))) n.keys[j] (by omega) (by simp only[Zf,Zd];omega)) ?_;rintro _ L P ⟨-,rfl,rfl⟩;refine .nil (.region (.pu .add (.pu .mv (.nil ?_))));refine⟨j+1,hlt2,by show n.keys.length-(j+1)<n.keys.length-j;omega,⟨rfl,rfl,rfl,rfl,rfl,trivial⟩,?_⟩;have e:G9 (n.keys.take (j+1))=G9 (n.keys.take j)++Mi n.keys[j]:=XP hlt2;show Ent _ _ (Bld b4 (2::UInt8.ofNat n.kids.length::(Hg n.kids++G9 (n.keys.take (j+1))))::_) P
   rw[e];simp only[Y0,Zu];exact .refl _ _
  ·refine .seq (.region (.pu .cn ?_));have hp3:=hpreS j;refine .nil (.seq (.no rfl (.exit (.seq (.region ?_)))));refine .call (DU _ _ _ (2::UInt8.ofNat n.kids.length::(Hg n.kids++G9 (n.keys.take j))) (by simp) (by simp only[Zf,Zd];omega)) ?_;rintro _ L P ⟨rfl,rfl,rfl⟩;refine .pu .as (.pu .as (.nil (.ret ?_)));refine⟨_,.tmp rfl (.tmp rfl .nil),_,_,.d1,?_,rfl,rfl⟩;have e:n.keys.take j=n.keys:=Z8 (Xk hlt2);rw[e];unfold Nd.enc;rw[h1];rfl
theorem VY(v:Value)(n:Nd)(hv:NdV P v n)(hs:n.Sm)(hok:n.ok=true)(hz:n.size≤160):Sp SET 145 [v] L P (fun r L' P'=>r=.tuple ⟨[S n.enc,.int .i64 0]⟩∧L'=L∧P'=P):=by
 cases hl:n.leaf with
 |true=>exact Zen L P v n hv hs (Mj hok hl) hz
 |false=>exact Zeo L P v n hv hs (M6 hok hl) hz
theorem u8_in(c:UInt8):InR .i64 (c.toNat:Int):=by
 have:=c.toNat_lt;simp only[InR];omega
def Rdr(b:Nat)(s:Bs):Asn:=Pt b [S s,.bool false] (tz 0 328)
theorem DJ(b:Nat)(a s:Bs)(hl:(a++s).length≤1000):Sp SET 265 [pp0 b,.int .i64 (a.length:Nat)] (Rdr b (a++s)::L) P (fun r L' P'=>r=S a∧L'=Rdr b s::L∧P'=P):=by
 have hl2:(a++s).length=a.length+s.length:=Zd;refine .bo (fn:=Tryz.f265) (N:=33) ?_;refine .seq (.region (.pu .as (.nil (.seq (.seq (.region (.pu .mv (.pu .mv (.pu .nc (.pu .fa (.ld ?_)))))))))));refine .pu .ls (.pu .cn (.nil ?_));refine .no rfl (.skip (.seq (.region (.pu .mv (.pu .nc (.pu .fa (.ld ?_)))))));refine .pu .mv (.pu (.sls (a:=a++s) (p:=0) (q:=a.length) rfl bdn) ?_);rw[show((a++s).drop 0).take (a.length-0)=a by rw[U7,Yl,Kt]];refine .pu .as (.nil (.seq (.region (.pu .mv (.pu .mv (.pu .nc (.pu .fa (.ld ?_))))))));refine .pu .mv (.pu (.sls (a:=a++s) (p:=a.length) (q:=(a++s).length) bdn rfl) ?_);rw[show((a++s).drop a.length).take ((a++s).length-a.length)=s by rw[Jy,hl2,Nat.add_sub_cancel_left,Ul]];refine .pu .nc (.pu .fa (.st (vs:=[_]) ?_));refine .nil (.seq (.region (.pu .mv (.pu .as (.nil (.ret ?_))))))
 exact⟨_,.tmp rfl .nil,_,_,.refl _ _,rfl,rfl,rfl⟩
theorem Ty(b:Nat)(c:UInt8)(s:Bs)(hl:s.length≤900):Sp SET 234 [pp0 b] (Rdr b (c::s)::L) P (fun r L' P'=>r=.int .i64 (c.toNat:Nat)∧L'=Rdr b s::L∧P'=P):=by
 refine .bo (fn:=Tryz.f234) (N:=6) ?_;refine .seq (.region (.pu .as (.nil (.seq (.region (.pu .mv ?_))))));refine .call (DJ _ _ b [c] s (by simp only[Zd,Zf,Zo];omega)) ?_;rintro _ L P ⟨rfl,rfl,rfl⟩;refine .pu (.ix (a:=[c]) rfl) (.pu (.ci (hv:=u8_in _)) (.pu .as (.nil (.ret ?_))));exact⟨_,.tmp rfl .nil,_,_,.refl _ _,rfl,rfl,rfl⟩
theorem VX(b:Nat)(a s:Bs)(ha:a.length≤255)(hl:s.length≤600):Sp SET 235 [pp0 b] (Rdr b (Mi a++s)::L) P (fun r L' P'=>r=S a∧L'=Rdr b s::L∧P'=P):=by
 refine .bo (fn:=Tryz.f235) (N:=6) ?_;refine .seq (.region (.pu .as (.nil (.seq (.region (.pu .mv (.pu .mv ?_)))))));refine .call (Ty _ _ b (UInt8.ofNat a.length) (a++s) (by rw[Zd];omega)) ?_;rintro _ L P ⟨rfl,rfl,rfl⟩;rw[bj ha];refine .call (DJ _ _ b a s (by rw[Zd];omega)) ?_;rintro _ L P ⟨rfl,rfl,rfl⟩;refine .pu .as (.nil (.ret ?_));exact⟨_,.tmp rfl .nil,_,_,.refl _ _,rfl,rfl,rfl⟩
theorem Zep{ps:List Pr}{i:Nat}(h:i<ps.length):Hq (ps.drop i)=Mi ps[i].1++(Mi ps[i].2++Hq (ps.drop (i+1))):=by
 unfold Hq;rw[X7 h,Zx,Zu]
theorem VV{α β:Type}{f:α→β}{xs:List α}{i:Nat}(h:i<xs.length):(xs.take (i+1)).map f=(xs.take i).map f++[f xs[i]]:=by
 rw[Jw,Zn h,Zp];rfl
theorem Zeq(n:Nd)(hs:n.Sm)(hok:n.leafOk=true)(hne:n.pairs≠[])(hz:n.size≤160):Sp SET 190 [S n.enc] L P (NdR n L P):=by
 obtain⟨h1,h2,h3,h4,h5,h6⟩:=Mh hok;have hsz:=Nf h1;have hpo:=Cf hok;have hel:=wt n;have hen:n.enc=1::UInt8.ofNat n.pairs.length::Hq n.pairs:=by unfold Nd.enc;rw[h1];rfl
 have hpl:1≤n.pairs.length:=by
  rcases Xi n.pairs.length with e|e
  ·exact absurd (Yh.1 e) hne
  ·exact e
 have hpre:∀i,(Hq (n.pairs.drop i)).length≤158:=fun i=>by
  have e:=XW n.pairs;have e2:Hq n.pairs=Hq (n.pairs.take i)++Hq (n.pairs.drop i):=by unfold Hq;rw[←Yd,Ym]
  rw[e2,Zd]at e;omega
 rw[hen]at hel ⊢;refine .bo (fn:=Tryz.f190) (N:=133) ?_;refine .seq (.region ?_);refine .nw (cs:=[.bool false,.slice none 0 0,.slice none 0 0,.slice none 0 0]) fun b2=>?_;refine .pu .as (.nil (.seq (.region (.pu .mv (.pu (.bd (vs:=[_,_])) ?_)))));refine .bx (cs:=[_,_]) fun b15=>?_;refine .pu .as (.nil (.seq (.region (.pu .mv ?_))));refine .call (Ty _ _ b15 1 (UInt8.ofNat n.pairs.length::Hq n.pairs) (by simp only[Zf]at hel ⊢;omega)) ?_;rintro _ L P ⟨rfl,rfl,rfl⟩;rw[show(((1:UInt8).toNat:Nat):Int)=1 from rfl];refine .pu .mv ?_;refine .call (Ty _ _ b15 (UInt8.ofNat n.pairs.length) (Hq n.pairs) (by simp only[Zf]at hel ⊢;omega)) ?_;rintro _ L P ⟨rfl,rfl,rfl⟩;rw[bj h4];refine .pu .as (.pu .as (.nil (.seq (.region (.pu .mv ?_)))));refine .pu (.cy (hq:=by simp[N8])) ?_;refine .pu (.bd (vs:=[_,_,_,_])) ?_
 refine .nw (cs:=[.bool false,.slice none 0 0,.slice none 0 0,.slice none 0 0]) fun b7=>?_;refine .st (vs:=[_,_,_,_]) ?_;refine .ent (Ent.none (k:=2)) ?_;refine .nil (.seq (.seq (.region (.pu .as (.nil ?_)))));refine .block (W.loop (fun a:Nat×Value=>a.1≤n.pairs.length) (fun a=>n.pairs.length-a.1) (fun a=>[(8,.int .i64 (a.1:Nat)),(6,.int .i64 (n.pairs.length:Nat)),(5,.int .i64 1),(4,pp0 b15),(7,pp0 b7),(2,pp0 b2),(0,S (1::UInt8.ofNat n.pairs.length::Hq n.pairs))]) (fun a=>Ow 2 a.2 ((n.pairs.take a.1).map Ge)::Pt b7 [.bool true,a.2,.slice none 0 0,.slice none 0 0] (tz 0 131)::Rdr b15 (Hq (n.pairs.drop a.1))::Pt b2 [.bool false,.slice none 0 0,.slice none 0 0,.slice none 0 0] (tz 0 131)::L) (fun _=>P) (0,.slice none 0 0) (Zj _) ⟨rfl,rfl,rfl,rfl,rfl,rfl,rfl,trivial⟩ (.refl _ _) (fun⟨i,v⟩ hi=>?_))
 refine .fact (Hr .l0) fun⟨av,cv,(hvv:v=.slice av ((n.pairs.take i).map Ge).length cv)⟩=>?_;subst hvv;by_cases hlt:i<n.pairs.length
 ·refine .seq (.seq (.region (.pu .mv (.pu .mv (.pu .cy (.pu .mv (.on (.pu .fa (.on (.ld ?_))))))))));refine .pu .pk (.pu .mv (.on (.pu .mv (.on (.pu .nc (.on (.pu .fa (.on (.ld ?_)))))))));refine .on (.pu .nt (.pu .pk (.nil ?_)));refine .yes rfl (.skip (.seq (.block (.seq (.region (.pu .mv ?_))))));obtain⟨p1,p2,p3⟩:=hpo _ (Zz hlt);have hp1:=hpre i;have hdr:=Zep hlt;rw[hdr];rw[hdr]at hp1;unfold Mi at hp1;simp only[Zd,Zf]at hp1;refine .call (Sp.up (.s (.s .z)) (fun L=>VX L _ b15 n.pairs[i].1 (Mi n.pairs[i].2++Hq (n.pairs.drop (i+1))) (by omega) (by unfold Mi;simp only[Zd,Zf];omega))) ?_;rintro _ L P ⟨rfl,rfl,rfl⟩;refine .pu .as (.nil ?_);refine .drawn fun _=>?_;refine .pu .fa (.lo 0 1 .ld .mk ?_);refine .pu .mv (.pu .mv ?_);refine .call (Sp.up (.s (.s .z)) (fun L=>VX L _ b15 n.pairs[i].2 (Hq (n.pairs.drop (i+1))) (by omega) (by omega))) ?_;rintro _ L P ⟨rfl,rfl,rfl⟩
  refine .pu (.bd (vs:=[_,_])) ?_;refine .bl (k:=2) (es:=[[_,_]]) (hlt:=by show∀x∈([]:Hj),_;simp) fun v47=>?_;refine .ap (.o .l0) (.s .z) (fun v48=>?_) (hn:=by rw[Zc,Zq];simp only[Zf,Zo];show(_+1)*32≤_;omega) (ho:=Tu [n.pairs[i]]);refine .fact (Hr .l0) fun⟨a48,c48,e48⟩=>?_;subst e48;refine .pu .fa (.st (vs:=[_]) ?_);refine .nil (.cons (.yes .mk (.yes .mk (.skip (.skip .nil)))) .nil) (.region (.pu .mv (.pu .add (.pu .as (.nil ?_)))));refine⟨(i+1,.slice a48 ((n.pairs.take i).map Ge++[Ge n.pairs[i]]).length c48),hlt,by show n.pairs.length-(i+1)<n.pairs.length-i;omega,⟨rfl,rfl,rfl,rfl,rfl,rfl,rfl,trivial⟩,?_⟩;show Ent _ _ (Ow 2 _ ((n.pairs.take (i+1)).map Ge)::_) P;rw[VV hlt];exact Ent.swap.trans Ent.drop
 ·refine .seq (.seq (.region (.pu .mv (.pu .mv (.pu .cn (.pu .mv (.off (.off (.pu .pk (.pu .mv (.off (.off (.off (.off (.off (.pu .pk ?_))))))))))))))));have e1:n.pairs.take i=n.pairs:=Z8 (Xk hlt);have e2:n.pairs.drop i=[]:=Vl (Xk hlt);rw[e1,e2];refine .nil ?_;refine .no rfl (.exit (.seq (.seq (.region (.pu .as (.nil ?_))))));refine .block (W.loop (fun _:Unit=>True) (fun _=>0) (fun _=>(10,.int .i64 0)::[(6,.int .i64 (n.pairs.length:Nat)),(5,.int .i64 1),(4,pp0 b15),(7,pp0 b7),(2,pp0 b2),(0,S (1::UInt8.ofNat n.pairs.length::Hq n.pairs))]) (fun _=>Ow 2 (.slice av (n.pairs.map Ge).length cv) (n.pairs.map Ge)::Pt b7 [.bool true,.slice av (n.pairs.map Ge).length cv,.slice none 0 0,.slice none 0 0] (tz 0 131)::Rdr b15 []::Pt b2 [.bool false,.slice none 0 0,.slice none 0 0,.slice none 0 0] (tz 0 131)::L) (fun _=>P) () trivial ⟨rfl,rfl,rfl,rfl,rfl,rfl,rfl,trivial⟩ (.refl _ _) (fun _ _=>?_))
  refine .seq (.seq (.region (.pu .mv (.pu .mv (.pu .cy (.pu .mv (.on (.pu .fa (.on (.ld ?_))))))))));refine .on (.pu .nt (.pu .pk (.pu .mv (.off (.off (.off (.off (.off (.pu .pk (.nil ?_))))))))));refine .no rfl (.exit (.seq (.seq (.region (.pu .as (.nil ?_))))));refine .block (W.loop (fun _:Unit=>True) (fun _=>0) (fun _=>(12,.int .i64 1)::[(6,.int .i64 (n.pairs.length:Nat)),(5,.int .i64 1),(4,pp0 b15),(7,pp0 b7),(2,pp0 b2),(0,S (1::UInt8.ofNat n.pairs.length::Hq n.pairs))]) (fun _=>Ow 2 (.slice av (n.pairs.map Ge).length cv) (n.pairs.map Ge)::Pt b7 [.bool true,.slice av (n.pairs.map Ge).length cv,.slice none 0 0,.slice none 0 0] (tz 0 131)::Rdr b15 []::Pt b2 [.bool false,.slice none 0 0,.slice none 0 0,.slice none 0 0] (tz 0 131)::L) (fun _=>P) () trivial ⟨rfl,rfl,rfl,rfl,rfl,rfl,rfl,trivial⟩ (.refl _ _) (fun _ _=>?_));by_cases h1c:1<n.pairs.length
  ·refine .seq (.seq (.region (.pu .mv (.pu .mv (.pu .cy (.pu .mv (.on (.pu .fa (.on (.ld ?_))))))))));refine .on (.pu .nt (.pu .pk (.pu .mv (.off (.off (.off (.off (.off (.pu .pk (.nil ?_))))))))));refine .no rfl (.exit (.seq (.seq (.region (.pu .mv (.ent ((Ent.slR .z).trans (Ent.sl0 (k:=1) (c:=0))) ?_))))));refine .pu .nc (.pu .fa (.ld ?_));refine .pu .mv (.on (.pu .mv (.on (.pu .nc (.on (.pu .fa (.on (.ld ?_))))))));refine .on (.pu .sne (.pu .pk (.pu .mv (.on (.pu .mv ?_)))));refine .on (.pu (.cn (hq:=by simp[N8])) ?_);refine .on (.pu .mv (.off (.off (.on (.pu .pk (.pu .pk (.pu .mv (.on (.pu .mv (.on (.pu .ls (.on (.pu .cn (.pu .pk (.pu .mv (.on (.lda (vs:=[_,_,_,_]) ?_)))))))))))))))));refine .on ?_;refine .call (Bw _ _ _ n ⟨⟨_,_,_,by rw[h1],.tail _ (.head _),by rw[h2];exact .head _,by rw[h3];exact .head _⟩⟩ hs.small) ?_;rintro _ L P ⟨rfl,rfl,rfl⟩;rw[D3 hok]
   refine .on (.pu .cmp (.pu .pk (.nil ?_)));refine .no rfl (.skip (.seq (.region (.lda (vs:=[_,_,_,_]) ?_))));refine .st (vs:=[_,_,_,_]) ?_;refine .pu .as (.nil (.ret ?_));exact⟨_,.cell rfl .l2 rfl (.tmp rfl .nil),_,_,.d3,_,rfl,⟨⟨_,_,_,by rw[h1];rfl,.tail _ (.head _),by rw[h2];exact .head _,by rw[h3];exact .head _⟩⟩,rfl,fun A hA=>.tail _ (.tail _ hA)⟩
  ·refine .seq (.seq (.region (.pu .mv (.pu .mv (.pu .cn (.pu .mv (.off (.off (.off (.pu .pk (.pu .mv (.off (.off (.off (.off (.off (.pu .pk (.nil ?_))))))))))))))))));refine .no rfl (.exit (.seq (.seq (.region (.pu .mv (.ent ((Ent.slR .z).trans (Ent.sl0 (k:=1) (c:=0))) ?_))))));refine .pu .nc (.pu .fa (.ld ?_));refine .pu .mv (.on (.pu .mv (.on (.pu .nc (.on (.pu .fa (.on (.ld ?_))))))));refine .on (.pu .sne (.pu .pk (.pu .mv (.on (.pu .mv ?_)))));refine .on (.pu (.cn (hq:=by simp[N8])) ?_);refine .on (.pu .mv (.off (.off (.on (.pu .pk (.pu .pk (.pu .mv (.on (.pu .mv (.on (.pu .ls (.on (.pu .cn (.pu .pk (.pu .mv (.on (.lda (vs:=[_,_,_,_]) ?_)))))))))))))))));refine .on ?_;refine .call (Bw _ _ _ n ⟨⟨_,_,_,by rw[h1],.tail _ (.head _),by rw[h2];exact .head _,by rw[h3];exact .head _⟩⟩ hs.small) ?_;rintro _ L P ⟨rfl,rfl,rfl⟩;rw[D3 hok];refine .on (.pu .cmp (.pu .pk (.nil ?_)))
   refine .no rfl (.skip (.seq (.region (.lda (vs:=[_,_,_,_]) ?_))));refine .st (vs:=[_,_,_,_]) ?_;refine .pu .as (.nil (.ret ?_));exact⟨_,.cell rfl .l2 rfl (.tmp rfl .nil),_,_,.d3,_,rfl,⟨⟨_,_,_,by rw[h1];rfl,.tail _ (.head _),by rw[h2];exact .head _,by rw[h3];exact .head _⟩⟩,rfl,fun A hA=>.tail _ (.tail _ hA)⟩
theorem Zes{ks:List Nat}{i:Nat}(h:i<ks.length):Hg (ks.drop i)=UInt8.ofNat ks[i]::UInt8.ofNat (ks[i] /256)::Hg (ks.drop (i+1)):=by
 unfold Hg;rw[X7 h,Zx];rfl
theorem Zet{ks:List Bs}{i:Nat}(h:i<ks.length):G9 (ks.drop i)=Mi ks[i]++G9 (ks.drop (i+1)):=by
 unfold G9;rw[X7 h,Zx]
theorem DK(k:Nat)(h:k≤65535):Nat.lor ((UInt8.ofNat k).toNat) ((UInt8.ofNat (k/256)).toNat* 256)=k:=by
 rw[Jc,Jc];have e:k/256%2^8*256=2^8*(k/256):=by omega
 rw[e];show(k%2^8)|||(2^8*(k/256))=k;rw[Nat.or_comm,←Nat.two_pow_add_eq_or_of_lt (show k%2^8<2^8 by omega)];omega
theorem Zeu(n:Nd)(hs:n.Sm)(hok:n.innerOk=true)(hz:n.size≤160):Sp SET 190 [S n.enc] L P (NdR n L P):=by
 obtain⟨h1,h2,h3,h4,h5,h6,h7,h8⟩:=Mk hok;have hsz:=Db h1;have hel:=wt n;have hok2:n.ok=true:=by unfold Nd.ok;rw[hok,Jd]
 have hen:n.enc=2::UInt8.ofNat n.kids.length::(Hg n.kids++G9 n.keys):=by unfold Nd.enc;rw[h1];rfl
 have hpreK:∀i,(Hg (n.kids.drop i)).length+(G9 n.keys).length≤158:=fun i=>by
  have e:=XL n.kids;have e2:Hg n.kids=Hg (n.kids.take i)++Hg (n.kids.drop i):=by unfold Hg;rw[←Yd,Ym]
  rw[e2,Zd]at e;have e3:=wq n.keys;omega
 have hpreS:∀i,(G9 (n.keys.drop i)).length≤158:=fun i=>by
  have e:=wq n.keys;have e2:G9 n.keys=G9 (n.keys.take i)++G9 (n.keys.drop i):=by unfold G9;rw[←Yd,Ym]
  rw[e2,Zd]at e;omega
 rw[hen]at hel ⊢;refine .bo (fn:=Tryz.f190) (N:=133) ?_;refine .seq (.region ?_);refine .nw (cs:=[.bool false,.slice none 0 0,.slice none 0 0,.slice none 0 0]) fun b2=>?_;refine .pu .as (.nil (.seq (.region (.pu .mv (.pu (.bd (vs:=[_,_])) ?_)))));refine .bx (cs:=[_,_]) fun b15=>?_;refine .pu .as (.nil (.seq (.region (.pu .mv ?_))));refine .call (Ty _ _ b15 2 (UInt8.ofNat n.kids.length::(Hg n.kids++G9 n.keys)) (by simp only[Zf]at hel ⊢;omega)) ?_;rintro _ L P ⟨rfl,rfl,rfl⟩;rw[show(((2:UInt8).toNat:Nat):Int)=2 from rfl];refine .pu .mv ?_;refine .call (Ty _ _ b15 (UInt8.ofNat n.kids.length) (Hg n.kids++G9 n.keys) (by simp only[Zf]at hel ⊢;omega)) ?_;rintro _ L P ⟨rfl,rfl,rfl⟩;rw[bj h4];refine .pu .as (.pu .as (.nil (.seq (.region (.pu .mv ?_)))));refine .pu (.cn (hq:=by simp[N8])) ?_
 refine .pu (.bd (vs:=[_,_,_,_])) ?_;refine .nw (cs:=[.bool false,.slice none 0 0,.slice none 0 0,.slice none 0 0]) fun b7=>?_;refine .st (vs:=[_,_,_,_]) ?_;refine .ent (Ent.none (k:=1)) ?_;refine .nil (.seq (.seq (.region (.pu .as (.nil ?_)))));refine .block (W.loop (fun _:Unit=>True) (fun _=>0) (fun _=>(8,.int .i64 0)::[(6,.int .i64 (n.kids.length:Nat)),(5,.int .i64 2),(4,pp0 b15),(7,pp0 b7),(2,pp0 b2),(0,S (2::UInt8.ofNat n.kids.length::(Hg n.kids++G9 n.keys)))]) (fun _=>Ow 1 (.slice none 0 0) []::Pt b7 [.bool false,.slice none 0 0,.slice none 0 0,.slice none 0 0] (tz 0 131)::Rdr b15 (Hg n.kids++G9 n.keys)::Pt b2 [.bool false,.slice none 0 0,.slice none 0 0,.slice none 0 0] (tz 0 131)::L) (fun _=>P) () trivial ⟨rfl,rfl,rfl,rfl,rfl,rfl,rfl,trivial⟩ (.refl _ _) (fun _ _=>?_));refine .seq (.seq (.region (.pu .mv (.pu .mv (.pu .cy (.pu .mv (.on (.pu .fa (.on (.ld ?_))))))))))
 refine .pu .pk (.pu .mv (.off (.off (.off (.off (.off (.pu .pk (.nil ?_))))))));refine .no rfl (.exit (.seq (.seq (.region (.pu .as (.nil ?_))))));refine .block (W.loop (fun a:Nat×Value=>a.1≤n.kids.length) (fun a=>n.kids.length-a.1) (fun a=>[(10,.int .i64 (a.1:Nat)),(6,.int .i64 (n.kids.length:Nat)),(5,.int .i64 2),(4,pp0 b15),(7,pp0 b7),(2,pp0 b2),(0,S (2::UInt8.ofNat n.kids.length::(Hg n.kids++G9 n.keys)))]) (fun a=>Ow 1 a.2 ((n.kids.take a.1).map encI)::Pt b7 [.bool false,.slice none 0 0,.slice none 0 0,a.2] (tz 0 131)::Rdr b15 (Hg (n.kids.drop a.1)++G9 n.keys)::Pt b2 [.bool false,.slice none 0 0,.slice none 0 0,.slice none 0 0] (tz 0 131)::L) (fun _=>P) (0,.slice none 0 0) (Zj _) ⟨rfl,rfl,rfl,rfl,rfl,rfl,rfl,trivial⟩ (.refl _ _) (fun⟨i,v⟩ hi=>?_));refine .fact (Hr .l0) fun⟨av,cv,(hvv:v=.slice av ((n.kids.take i).map encI).length cv)⟩=>?_
 subst hvv;by_cases hlt:i<n.kids.length
 ·refine .seq (.seq (.region (.pu .mv (.pu .mv (.pu .cy (.pu .mv (.on (.pu .fa (.on (.ld ?_))))))))));refine .on (.pu .nt (.pu .pk (.pu .mv (.on (.pu .mv (.on (.pu .nc (.on (.pu .fa (.on (.ld ?_)))))))))));refine .on (.pu .nt (.pu .pk (.nil ?_)));refine .yes rfl (.skip (.seq (.block (.seq (.region (.pu .mv ?_))))));obtain⟨p1,p2⟩:=h7 _ (Zz hlt);have hp1:=hpreK i;have hdr:=Zes hlt;rw[hdr];rw[hdr]at hp1;simp only[Zf]at hp1;refine .call (Sp.up (.s (.s .z)) (fun L=>Ty L _ b15 (UInt8.ofNat n.kids[i]) (UInt8.ofNat (n.kids[i] /256)::(Hg (n.kids.drop (i+1))++G9 n.keys)) (by simp only[Zd,Zf];omega))) ?_;rintro _ L P ⟨rfl,rfl,rfl⟩;refine .pu .as (.nil ?_);refine .drawn fun _=>?_;refine .pu .fa (.lo 0 1 .ld .mk ?_);refine .pu .mv (.pu .mv ?_);refine .call (Sp.up (.s (.s .z)) (fun L=>Ty L _ b15 (UInt8.ofNat (n.kids[i] /256)) (Hg (n.kids.drop (i+1))++G9 n.keys) (by simp only[Zd];omega))) ?_;rintro _ L P ⟨rfl,rfl,rfl⟩
  have q1:=(UInt8.ofNat (n.kids[i] /256)).toNat_lt;have q2:=(UInt8.ofNat n.kids[i]).toNat_lt;refine .pu (.i_shl (n:=8) (hr:=by simp only[InR];show _∧_*(256:Int)<_;omega)) ?_;refine .pu (.i_or (a:=(UInt8.ofNat n.kids[i]).toNat) (b:=(UInt8.ofNat (n.kids[i] /256)).toNat* 256) (ha:=by show _<18446744073709551616;omega) (hb:=by show _<18446744073709551616;omega) (hr:=by rw[DK _ p2];simp only[InR];omega)) ?_;rw[DK _ p2];refine .bl (k:=1) (es:=[[_]]) (hlt:=by show∀x∈([]:Hj),_;simp) fun v76=>?_;refine .ap (.o .l0) (.s .z) (fun v77=>?_) (hn:=by rw[Zc,Zq];simp only[Zf,Zo];show(_+1)*8≤_;omega) (ho:=Tv [n.kids[i]]);refine .fact (Hr .l0) fun⟨a77,c77,e77⟩=>?_;subst e77;refine .pu .fa (.st (vs:=[_]) ?_);refine .nil (.cons (.yes .mk (.yes .mk (.skip (.skip .nil)))) .nil) (.region (.pu .mv (.pu .add (.pu .as (.nil ?_)))))
  refine⟨(i+1,.slice a77 ((n.kids.take i).map encI++[encI n.kids[i]]).length c77),hlt,by show n.kids.length-(i+1)<n.kids.length-i;omega,⟨rfl,rfl,rfl,rfl,rfl,rfl,rfl,trivial⟩,?_⟩;show Ent _ _ (Ow 1 _ ((n.kids.take (i+1)).map encI)::_) P;rw[VV hlt];exact Ent.swap.trans Ent.drop
 ·refine .seq (.seq (.region (.pu .mv (.pu .mv (.pu .cn (.pu .mv (.off (.off (.off (.pu .pk (.pu .mv (.off (.off (.off (.off (.off (.pu .pk ?_)))))))))))))))));have e1:n.kids.take i=n.kids:=Z8 (Xk hlt);have e2:n.kids.drop i=[]:=Vl (Xk hlt);rw[e1,e2,show Hg []++G9 n.keys=G9 n.keys from rfl];refine .ent (Ent.none (k:=1)) ?_;refine .nil ?_;refine .no rfl (.exit (.seq (.seq (.region (.pu .as (.nil ?_))))));refine .block (W.loop (fun a:Nat×Value=>a.1≤n.keys.length) (fun a=>n.keys.length-a.1) (fun a=>[(12,.int .i64 ((a.1+1:Nat):Int)),(6,.int .i64 (n.kids.length:Nat)),(5,.int .i64 2),(4,pp0 b15),(7,pp0 b7),(2,pp0 b2),(0,S (2::UInt8.ofNat n.kids.length::(Hg n.kids++G9 n.keys)))]) (fun a=>Ow 1 a.2 ((n.keys.take a.1).map encS)::Ow 1 (.slice av (n.kids.map encI).length cv) (n.kids.map encI)::Pt b7 [.bool false,.slice none 0 0,a.2,.slice av (n.kids.map encI).length cv] (tz 0 131)::Rdr b15 (G9 (n.keys.drop a.1))::Pt b2 [.bool false,.slice none 0 0,.slice none 0 0,.slice none 0 0] (tz 0 131)::L) (fun _=>P) (0,.slice none 0 0) (Zj _) ⟨rfl,rfl,rfl,rfl,rfl,rfl,rfl,trivial⟩ (.refl _ _) (fun⟨j,w⟩ hj=>?_))
  refine .fact (Hr .l0) fun⟨aw,cw,(hvw:w=.slice aw ((n.keys.take j).map encS).length cw)⟩=>?_;subst hvw;by_cases hlt2:j<n.keys.length
  ·refine .seq (.seq (.region (.pu .mv (.pu .mv (.pu .cy (.pu .mv (.on (.pu .fa (.on (.ld ?_))))))))));refine .on (.pu .nt (.pu .pk (.pu .mv (.on (.pu .mv (.on (.pu .nc (.on (.pu .fa (.on (.ld ?_)))))))))));refine .on (.pu .nt (.pu .pk (.nil ?_)));refine .yes rfl (.skip ?_);refine .seq (.block (.drawn fun _=>?_));obtain⟨p1,p2⟩:=Rh (h6 _ (Zz hlt2));have hp1:=hpreS j;have hdr:=Zet hlt2;rw[hdr];rw[hdr]at hp1;unfold Mi at hp1;simp only[Zd,Zf]at hp1;refine .pu .fa (.lo 0 1 .ld .mk ?_);refine .pu .mv ?_;refine .call (Sp.up (.s (.s (.s .z))) (fun L=>VX L _ b15 n.keys[j] (G9 (n.keys.drop (j+1))) (by omega) (by omega))) ?_;rintro _ L P ⟨rfl,rfl,rfl⟩;refine .bl (k:=1) (es:=[[_]]) (hlt:=by show∀x∈([]:Hj),_;simp) fun v100=>?_;refine .ap (.o .l0) (.s .z) (fun v101=>?_) (hn:=by rw[Zc,Zq];simp only[Zf,Zo];show(_+1)*16≤_;omega) (ho:=Da [n.keys[j]])
   refine .fact (Hr .l0) fun⟨a101,c101,e101⟩=>?_;subst e101;refine .pu .fa (.st (vs:=[_]) ?_);refine .nil (.cons (.yes .mk (.yes .mk (.skip (.skip .nil)))) .nil) (.region (.pu .mv (.pu .add (.pu .as (.nil ?_)))));refine⟨(j+1,.slice a101 ((n.keys.take j).map encS++[encS n.keys[j]]).length c101),hlt2,by show n.keys.length-(j+1)<n.keys.length-j;omega,⟨rfl,rfl,rfl,rfl,rfl,rfl,rfl,trivial⟩,?_⟩;show Ent _ _ (Ow 1 _ ((n.keys.take (j+1)).map encS)::_) P;rw[VV hlt2];exact Ent.swap.trans Ent.drop
  ·refine .seq (.seq (.region (.pu .mv (.pu .mv (.pu .cn (.pu .mv (.off (.off (.off (.pu .pk (.pu .mv (.off (.off (.off (.off (.off (.pu .pk ?_)))))))))))))))));have e3:n.keys.take j=n.keys:=Z8 (Xk hlt2);have e4:n.keys.drop j=[]:=Vl (Xk hlt2);rw[e3,e4,show G9 []=[]from rfl];refine .nil ?_;refine .no rfl (.exit (.seq (.seq (.region (.pu .mv (.ent ((Ent.slR .z).trans ((Ent.slR .z).trans (Ent.sl0 (k:=2) (c:=0)))) ?_))))));refine .pu .nc (.pu .fa (.ld ?_));refine .pu .mv (.on (.pu .mv (.on (.pu .nc (.on (.pu .fa (.on (.ld ?_))))))));refine .on (.pu .sne (.pu .pk (.pu .mv (.on (.pu .mv ?_)))));refine .on (.pu (.cy (hq:=by simp[N8])) ?_);refine .on (.pu .mv (.on (.pu .mv ?_)));refine .on (.pu (.cn (hq:=by simp[N8])) ?_);refine .on (.pu .pk (.pu .pk (.pu .mv (.on (.pu .mv (.on (.pu .ls (.on (.pu .cn (.pu .pk (.pu .mv (.on (.lda (vs:=[_,_,_,_]) ?_)))))))))))))
   refine .on ?_;refine .call (Bw _ _ _ n ⟨⟨_,_,_,by rw[h1],by rw[h2];exact .head _,.tail _ (.tail _ (.head _)),.tail _ (.head _)⟩⟩ hs.small) ?_;rintro _ L P ⟨rfl,rfl,rfl⟩;rw[hok2];refine .on (.pu .cmp (.pu .pk (.nil ?_)));refine .no rfl (.skip (.seq (.region (.lda (vs:=[_,_,_,_]) ?_))));refine .st (vs:=[_,_,_,_]) ?_;refine .pu .as (.nil (.ret ?_));exact⟨_,.cell rfl .l2 rfl (.tmp rfl .nil),_,_,.d3,_,rfl,⟨⟨_,_,_,by rw[h1];rfl,by rw[h2];exact .head _,.tail _ (.tail _ (.head _)),.tail _ (.head _)⟩⟩,rfl,fun A hA=>.tail _ (.tail _ (.tail _ hA))⟩
theorem Zev(n:Nd)(hs:n.Sm)(hok:n.ok=true)(hne:n.leaf=true→n.pairs≠[])(hz:n.size≤160):Sp SET 190 [S n.enc] L P (NdR n L P):=by
 cases hl:n.leaf with
 |true=>exact Zeq L P n hs (Mj hok hl) (hne hl) hz
 |false=>exact Zeu L P n hs (M6 hok hl) hz
def SpR(a:Nd)(key:Bs)(b:Nd)(L P:List Asn)(r:Value)(L' P':List Asn):Prop:=∃va vb,r=.tuple ⟨[va,S key,vb,.int .i64 0]⟩∧NdV P' va a∧NdV P' vb b∧L'=L∧∀A∈P,A∈P'
theorem jt{α:Type}{f:α→List Value}(xs:List α)(p q:Nat):((xs.map f).drop p).take (q-p)=((xs.drop p).take (q-p)).map f:=by
 rw[←V7,←J2]
theorem Ent.slF{L L' P:List Asn}{e:TypeId}{k:Nat}{v:Value}{es:List (List Value)}(h:Rem (OwF e k v es) L L'):Ent L P L' (Sl k v es::P):=(Ent.perm h.perm).trans (Ent.last (fun _ _=>OwF.sl))
theorem Zew{α:Type}(xs:List α)(i:Nat)(h:i<xs.length):(xs.drop i).take (i+1-i)=[xs[i]]:=by
 rw[show i+1-i=1 by omega,X7 h];rfl
theorem Zex(v:Value)(n:Nd)(hv:NdV P v n)(hs:n.Sm)(hok:n.leafOk=true)(h2l:2≤n.pairs.length)(hw:weight n.pairs≤100000):Sp SET 197 [v] L P (fun r L' P'=>∃(i:Nat) (hi:i<n.pairs.length),1≤i∧SpR (Gj (n.pairs.take i)) n.pairs[i].1 (Gj (n.pairs.drop i)) L P r L' P'):=by
 obtain⟨h1,h2,h3,h4,h5,h6⟩:=Mh hok;have hv0:=hv;obtain⟨pv,kv,iv,rfl,hp,hkk,hii⟩:=hv.ex;have hlen:(n.pairs.map Ge).length=n.pairs.length:=Zc ..;refine .bo (fn:=Tryz.f197) (N:=126) ?_;refine .seq (.region ?_);refine .bx (cs:=[_,_,_,_]) fun b1=>?_;refine .nw (cs:=[.bool false,.slice none 0 0,.slice none 0 0,.slice none 0 0]) fun b2=>?_;refine .pu .as ?_;refine .nw (cs:=[.bool false,.slice none 0 0,.slice none 0 0,.slice none 0 0]) fun b4=>?_;refine .pu .as (.nil (.seq (.block (.seq (.region (.lda (vs:=[_,_,_,_]) ?_))))));refine .call (Bw _ _ _ n hv0 hs.small) ?_;rintro _ L P ⟨rfl,rfl,rfl⟩;rw[D3 hok];refine .pu .cmp (.pu .as (.nil ?_));refine .no rfl (.seq (.seq (.region (.pu .fa (.ld ?_)))));rw[h1];refine .pu .mv (.on (.pu .fa (.on (.ld ?_))));refine .on (.lk .ln ?_);refine .on (.pu .cn (.pu .pk (.pu .as (.nil ?_))))
 refine .no rfl (.region (.pu .fa (.ld ?_)));refine .pu .nt (.pu .mv (.off (.off (.off (.off (.pu .pk (.pu .as (.nil ?_))))))));refine .no rfl (.skip (.seq (.seq (.region (.pu .fa (.ld ?_))))));refine .pu .nt (.nil ?_);refine .no rfl (.skip (.seq (.region (.pu .fa (.ld ?_)))));refine .call (XD _ _ _ n.pairs hp (by omega) (by omega)) ?_;rintro _ L P ⟨rfl,rfl,rfl⟩;refine .pu .as (.pu .as (.pu .as (.nil ?_)));refine .seq (.block (W.loop (fun i:Nat=>i+1≤n.pairs.length) (fun i=>n.pairs.length-i) (fun i=>[(11,.int .i64 (i:Nat)),(10,.int .i64 (weight (n.pairs.take i):Nat)),(9,.int .i64 (weight n.pairs:Nat)),(1,pp0 b1),(2,pp0 b2),(4,pp0 b4)]) (fun _=>Pt b4 [.bool false,.slice none 0 0,.slice none 0 0,.slice none 0 0] (tz 0 131)::Pt b2 [.bool false,.slice none 0 0,.slice none 0 0,.slice none 0 0] (tz 0 131)::Pt b1 [.bool true,pv,kv,iv] (tz 0 131)::L) (fun _=>P) 0 (by omega) ⟨rfl,rfl,rfl,rfl,rfl,rfl,trivial⟩ (.refl _ _) (fun i hi=>?_)))
 have hwi:=XC n.pairs i;refine .seq (.seq (.region (.pu .mv (.pu .fa (.ld ?_)))));refine .lk .ln ?_;rw[hlen];refine .pu .sub (.pu .cmp (.pu .mv ?_));refine .and 87 8 (decide ((i:Int)=0)||decide ((2*(weight (n.pairs.take i):Nat):Int)<(weight n.pairs:Nat))) (fun hq=>?_) ?_
 ·refine .on (.pu .mv (.on (.pu .cmp (.on (.pu .mv ?_)))));refine .or 90 4 (decide ((2*(weight (n.pairs.take i):Nat):Int)<(weight n.pairs:Nat))) (fun hq=>?_) ?_
  ·refine .on (.pu .mv (.on (.pu .mul (.on (.pu .mv (.on (.pu .cmp ?_)))))));exact .fin rfl
  exact .fin rfl
 refine .nil ?_;refine .ite rfl (fun ht96=>?_) (fun ht96=>?_)
 ·refine .skip (.block (.seq (.region (.pu .mv ?_))));have hc:i+1<n.pairs.length:=by
   simp only[Zi,decide_eq_true_eq]at ht96;omega
  have hwt:=CJ (ps:=n.pairs) (i:=i) (by omega);have hwt2:=XC n.pairs (i+1);have hwo:weight [n.pairs[i]]=2+n.pairs[i].1.length+n.pairs[i].2.length:=by unfold weight;simp
  refine .ent (Ent.slp (p:=i) (q:=i+1) hp (by omega) (by rw[hlen];omega)) ?_;rw[jt,Zew n.pairs i (by omega)];refine .pu .fa (.ld ?_);refine .pu .mv (.pu .mv (.pu .add ?_));refine .sl (k:=2) (p:=i) (q:=i+1) (es:=n.pairs.map Ge) (.s (.p (.tail _ hp))) (bdn) (fun m hm=>bdn (n:=i+1) (hn:=by rw[hlen]at hm;omega)) ?_ (by rw[hlen];omega) (by omega);refine .call (XD _ _ _ [n.pairs[i]] (.head _) (by omega) (by simp)) ?_;rintro _ L P ⟨rfl,rfl,rfl⟩;refine .pu .add (.pu .as (.nil (.region (.pu .mv (.pu .add (.pu .as (.nil ?_)))))));refine⟨i+1,by omega,by show n.pairs.length-(i+1)<n.pairs.length-i;omega,⟨rfl,?_,rfl,rfl,rfl,rfl,trivial⟩,Ent.forget⟩;show some (Value.int .i64 _)=some (Value.int .i64 _);rw[hwt,hwo];rfl
 refine .exit (.seq (.region ?_));have hi1:1≤i:=by
  simp only[Bool.and_eq_false_iff,Vu,decide_eq_false_iff_not]at ht96;omega
 refine .ent (Ent.slp (p:=0) (q:=i) hp (by omega) (by rw[hlen];omega)) ?_;rw[jt,U7,Yl];refine .ent (Ent.slp (p:=i) (q:=n.pairs.length) (.tail _ hp) (by omega) (by rw[hlen];omega)) ?_;rw[jt,show(n.pairs.drop i).take (n.pairs.length-i)=n.pairs.drop i from Z8 (by rw[Z5];omega)];refine .pu .fa (.ld ?_);refine .pu .mv ?_;refine .sl (k:=2) (p:=0) (q:=i) (es:=n.pairs.map Ge) (.s (.p (.tail _ (.tail _ hp)))) rfl (fun m hm=>bdn (n:=i) (hn:=by rw[hlen]at hm;omega)) ?_ (by rw[hlen];omega) (by omega);refine .call (XK _ _ _ ((n.pairs.take i).map Ge) (.s (.p (.tail _ (.head _)))) (by rw[Zc,Zq];omega) (Tu _)) ?_;rintro _ _ P ⟨rfl,rfl⟩;refine .fact (Gi (.f (fun _ _=>OwF.sl) .l0)) fun⟨a112,c112,e112⟩=>?_;subst e112;refine .pu (.bd (vs:=[_,_,_,_])) ?_
 refine .nw (cs:=[.bool false,.slice none 0 0,.slice none 0 0,.slice none 0 0]) fun b12=>?_;refine .st (vs:=[_,_,_,_]) ?_;refine .nil (.seq (.region (.pu .fa (.ld ?_))));refine .pu .mv ?_;refine .sl (k:=2) (p:=i) (q:=(n.pairs.map Ge).length) (es:=n.pairs.map Ge) (.s (.p (.tail _ (.tail _ hp)))) (bdn (n:=i) (hn:=by rw[hlen];omega)) (fun m hm=>rfl) ?_ (Ze _) (by rw[hlen];omega);rw[hlen];refine .call (XK _ _ _ ((n.pairs.drop i).map Ge) (.s (.p (.head _))) (by rw[Zc,Z5];omega) (Tu _)) ?_;rintro _ _ P ⟨rfl,rfl⟩;refine .fact (Gi (.f (fun _ _=>OwF.sl) .l0)) fun⟨a118,c118,e118⟩=>?_;subst e118;refine .pu (.bd (vs:=[_,_,_,_])) ?_;refine .nw (cs:=[.bool false,.slice none 0 0,.slice none 0 0,.slice none 0 0]) fun b13=>?_;refine .st (vs:=[_,_,_,_]) ?_;refine .ent ((Ent.slF (.s .z)).trans ((Ent.slF (.s (.s .z))).trans (Ent.sl0 (k:=1) (c:=0)))) ?_
 refine .nil ?_;refine .seq (.drawn fun _=>?_);refine .lo 0 0 .ld .mk ?_;refine .pu .fa (.lo 0 1 .ld .mk ?_);have hg0:((n.pairs.drop i).map Ge)[(0:Int).toNat]? =some (Ge n.pairs[i]):=by
  show((n.pairs.drop i).map Ge)[0]? =_;rw[Zy,List.getElem?_drop,Nat.add_zero,Zn (by omega)];rfl
 refine .lk (.ia (k:=2) (es:=(n.pairs.drop i).map Ge) (hm:=.s (.p (.tail _ (.tail _ (.head _))))) (hn:=⟨by omega,by rw[Zc,Z5];omega⟩)) ?_;refine .pu .fa (.lo 0 1 (.lf (k:=2) (i:=0) (j:=0) (v:=.slice a118 ((n.pairs.drop i).map Ge).length c118)) (.mk hg0 (hm:=.s (.p (.tail _ (.tail _ (.head _)))))) ?_);refine .lo 0 1 .ld .mk ?_;refine .st (vs:=[_,_,_,_]) ?_;refine .pu .as (.st (vs:=[_,_,_,_]) ?_);refine .pu .as (.nil (.cons (.yes .mk (.yes .mk (.skip .nil))) (.cons (.yes (.mk hg0 (hm:=.s (.p (.tail _ (.tail _ (.head _)))))) (.yes (.mk hg0 (hm:=.s (.p (.tail _ (.tail _ (.head _)))))) (.skip .nil))) (.cons (.yes .mk (.yes .mk (.skip .nil))) (.cons (.yes .mk (.skip (.skip .nil))) .nil)))) (.ret ?_));exact⟨_,.cell rfl .l3 rfl (.tmp rfl (.cell rfl .l2 rfl (.tmp rfl .nil))),_,_,(Ent.d3.trans Ent.d2),i,by omega,hi1,_,_,rfl,⟨⟨_,_,_,rfl,.tail _ (.head _),.head _,.head _⟩⟩,⟨⟨_,_,_,rfl,.tail _ (.tail _ (.head _)),.head _,.head _⟩⟩,rfl,fun A hA=>.tail _ (.tail _ (.tail _ (.tail _ (.tail _ hA))))⟩
def M1(keys:List Bs)(kids:List Nat):Nd:=⟨false,[],keys,kids⟩
theorem DG{α:Type}(xs:List α)(i:Nat):(xs.drop i).take (xs.length-i)=xs.drop i:=Z8 (by rw[Z5];exact Ze _)
theorem Zey(v:Value)(n:Nd)(i:Nat)(hie:i=n.kids.length/2)(hv:NdV P v n)(hs:n.Sm)(hok:n.innerOk=true)(h4l:4≤n.kids.length)(hik:i-1<n.keys.length):Sp SET 197 [v] L P (SpR (M1 (n.keys.take (i-1)) (n.kids.take i)) n.keys[i-1] (M1 (n.keys.drop i) (n.kids.drop i)) L P):=by
 obtain⟨h1,h2,h3,h4,h5,h6,h7,h8⟩:=Mk hok;have hok2:n.ok=true:=by unfold Nd.ok;rw[hok,Jd]
 have hv0:=hv;obtain⟨pv,kv,iv,rfl,hp,hkk,hii⟩:=hv.ex;refine Sp.fact (Gi (.s (.p hii))) fun⟨ai,ci,ei⟩=>?_;refine Sp.fact (Gi (.s (.p hkk))) fun⟨ak,ck,ek⟩=>?_;subst ei ek;have hlK:(n.kids.map encI).length=n.kids.length:=Zc ..;have hlS:(n.keys.map encS).length=n.keys.length:=Zc ..;refine .bo (fn:=Tryz.f197) (N:=126) ?_;refine .seq (.region ?_);refine .bx (cs:=[_,_,_,_]) fun b1=>?_;refine .nw (cs:=[.bool false,.slice none 0 0,.slice none 0 0,.slice none 0 0]) fun b2=>?_;refine .pu .as ?_;refine .nw (cs:=[.bool false,.slice none 0 0,.slice none 0 0,.slice none 0 0]) fun b4=>?_;refine .pu .as (.nil (.seq (.block (.seq (.region (.lda (vs:=[_,_,_,_]) ?_))))));refine .call (Bw _ _ _ n hv0 hs.small) ?_;rintro _ L P ⟨rfl,rfl,rfl⟩;rw[hok2];refine .pu .cmp (.pu .as (.nil ?_));refine .no rfl (.seq (.seq (.region (.pu .fa (.ld ?_)))))
 rw[h1];refine .pu .mv (.off (.off (.off (.off (.pu .pk (.pu .as (.nil ?_)))))));refine .no rfl (.region (.pu .fa (.ld ?_)));refine .pu .nt (.pu .mv (.on (.pu .fa (.on (.ld ?_)))));refine .on (.lk .ln ?_);refine .on (.pu .cn (.pu .pk (.pu .as (.nil ?_))));refine .no rfl (.skip (.seq (.seq (.region (.pu .fa (.ld ?_))))));refine .pu .nt (.nil ?_);refine .yes rfl (.seq (.region (.pu .fa (.ld ?_))));refine .lk .ln ?_;rw[show Value.int .i64 ((n.kids.map encI).length:Nat)=Value.int .i64 (n.kids.length:Nat) by rw[hlK]];refine .pu (.i_quo (b:=2)) ?_;rw[←hie];refine .ent (Ent.slp (p:=0) (q:=i) hii (by omega) (by rw[hlK];omega)) ?_;rw[jt,U7,Yl];refine .ent (Ent.slp (p:=i) (q:=(n.kids.map encI).length) (.tail _ hii) (by rw[hlK];omega) (Ze _)) ?_;rw[DG,←V7];refine .ent (Ent.slp (p:=0) (q:=i-1) (.tail _ (.tail _ hkk)) (by omega) (by rw[hlS];omega)) ?_
 rw[jt,U7,Yl];refine .ent (Ent.slp (p:=i) (q:=(n.keys.map encS).length) (.tail _ (.tail _ (.tail _ hkk))) (by rw[hlS];omega) (Ze _)) ?_;rw[DG,←V7];refine .pu .as (.nil ?_);refine .seq (.drawn fun _=>?_);refine .pu .fa (.lo 0 0 .ld .mk ?_);refine .pu .mv ?_;refine .lo 0 0 (.sl (k:=1) (p:=0) (q:=i) (es:=n.kids.map encI) rfl (fun m hm=>bdn (n:=i) (hn:=by rw[hlK]at hm;omega)) (by rw[hlK];omega) (by omega)) (.s (.p (.tail _ (.tail _ (.tail _ (.tail _ hii)))))) ?_;refine .call (XG _ _ _ ((n.kids.take i).map encI) (.s (.p (.tail _ (.tail _ (.tail _ (.head _)))))) (by rw[Zc,Zq];omega) (Tv _)) ?_;rintro _ _ P ⟨rfl,rfl⟩;refine .fact (Gi (.f (fun _ _=>OwF.sl) .l0)) fun⟨a51,c51,e51⟩=>?_;subst e51;refine .pu .fa (.lo 0 1 .ld .mk ?_);refine .pu .mv (.pu (.subN (b:=1)) ?_)
 refine .lo 0 1 (.sl (k:=1) (p:=0) (q:=i-1) (es:=n.keys.map encS) rfl (fun m hm=>bdn (n:=i-1) (hn:=by rw[hlS]at hm;omega)) (by rw[hlS];omega) (by omega)) (.s (.p (.tail _ (.tail _ (.tail _ (.tail _ hkk)))))) ?_;refine .call (XH _ _ _ ((n.keys.take (i-1)).map encS) (.s (.p (.tail _ (.head _)))) (by rw[Zc,Zq];omega) (Da _)) ?_;rintro _ _ P ⟨rfl,rfl⟩;refine .fact (Gi (.f (fun _ _=>OwF.sl) .l0)) fun⟨a57,c57,e57⟩=>?_;subst e57;refine .pu (.bd (vs:=[_,_,_,_])) ?_;refine .nw (cs:=[_,_,_,_]) (hlt:=by show∀x∈([]:Hj),_;simp) fun b7=>?_;refine .st (vs:=[_,_,_,_]) ?_;refine .nil (.cons (.yes (.s (.p (.tail _ (.tail _ (.tail _ (.tail _ hkk)))))) (.yes (.s (.p (.tail _ (.tail _ (.tail _ (.tail _ hkk)))))) (.skip (.skip .nil)))) (.cons (.yes .mk (.yes .mk (.skip (.skip .nil)))) (.cons (.yes (.s (.p (.tail _ (.tail _ (.tail _ (.tail _ hii)))))) (.skip (.skip (.skip .nil)))) (.cons (.yes .mk (.skip (.skip (.skip .nil)))) .nil)))) ?_
 refine .seq (.drawn fun _=>?_);refine .pu .fa (.lo 0 0 .ld .mk ?_);refine .pu .mv ?_;refine .lo 0 0 (.sl (k:=1) (p:=i) (q:=(n.kids.map encI).length) (es:=n.kids.map encI) (bdn (n:=i) (hn:=by rw[hlK];omega)) (fun m hm=>rfl) (Ze _) (by rw[hlK];omega)) (.s (.p (.tail _ (.tail _ (.tail _ (.tail _ hii)))))) ?_;refine .call (XG _ _ _ ((n.kids.drop i).map encI) (.s (.p (.tail _ (.tail _ (.head _))))) (by rw[Zc,Z5];omega) (Tv _)) ?_;rintro _ _ P ⟨rfl,rfl⟩;refine .fact (Gi (.f (fun _ _=>OwF.sl) .l0)) fun⟨a63,c63,e63⟩=>?_;subst e63;refine .pu .fa (.lo 0 1 .ld .mk ?_);refine .pu .mv ?_;refine .lo 0 1 (.sl (k:=1) (p:=i) (q:=(n.keys.map encS).length) (es:=n.keys.map encS) (bdn (n:=i) (hn:=by rw[hlS];omega)) (fun m hm=>rfl) (Ze _) (by rw[hlS];omega)) (.s (.p (.tail _ (.tail _ (.tail _ (.tail _ hkk)))))) ?_
 refine .call (XH _ _ _ ((n.keys.drop i).map encS) (.s (.p (.head _))) (by rw[Zc,Z5];omega) (Da _)) ?_;rintro _ _ P ⟨rfl,rfl⟩;refine .fact (Gi (.f (fun _ _=>OwF.sl) .l0)) fun⟨a68,c68,e68⟩=>?_;subst e68;refine .pu (.bd (vs:=[_,_,_,_])) ?_;refine .nw (cs:=[_,_,_,_]) (hlt:=by show∀x∈([]:Hj),_;simp) fun b8=>?_;refine .st (vs:=[_,_,_,_]) ?_;refine .nil (.cons (.yes (.s (.p (.tail _ (.tail _ (.tail _ (.tail _ hkk)))))) (.yes (.s (.p (.tail _ (.tail _ (.tail _ (.tail _ hkk)))))) (.skip (.skip .nil)))) (.cons (.yes .mk (.yes .mk (.skip (.skip .nil)))) (.cons (.yes (.s (.p (.tail _ (.tail _ (.tail _ (.tail _ hii)))))) (.skip (.skip (.skip .nil)))) (.cons (.yes .mk (.skip (.skip (.skip .nil)))) .nil)))) (.ent ((Ent.slF (.s .z)).trans ((Ent.slF (.s .z)).trans ((Ent.slF (.s (.s .z))).trans ((Ent.slF (.s (.s .z))).trans (Ent.sl0 (k:=2) (c:=0)))))) ?_)
 have hgk:(n.keys.map encS)[((i-1:Nat):Int).toNat]? =some (encS n.keys[i-1]):=Dw hik;refine .seq (.drawn fun _=>?_);refine .lo 0 0 .ld .mk ?_;refine .pu .fa (.lo 0 1 .ld .mk ?_);refine .pu .mv (.pu (.subN (b:=1)) ?_);refine .lk (.ia (k:=1) (es:=n.keys.map encS) (hm:=.s (.p (by repeat (first|exact hkk|refine Zs _ ?_)))) (hn:=⟨Yk _,by rw[hlS];omega⟩)) ?_;refine .lo 0 1 .le (.mk hgk (hm:=.s (.p (by repeat (first|exact hkk|refine Zs _ ?_))))) ?_;refine .lo 0 1 .ld .mk ?_;refine .st (vs:=[_,_,_,_]) ?_;refine .pu .as (.st (vs:=[_,_,_,_]) ?_);refine .pu .as ?_;refine .nil (.cons (.yes .mk (.yes .mk (.skip .nil))) (.cons (.yes (.mk hgk (hm:=.s (.p (by repeat (first|exact hkk|refine Zs _ ?_))))) (.yes (.mk hgk (hm:=.s (.p (by repeat (first|exact hkk|refine Zs _ ?_))))) (.skip .nil))) (.cons (.yes .mk (.yes .mk (.skip .nil))) (.cons (.yes .mk (.skip (.skip .nil))) .nil)))) ?_
 refine .ret ?_;refine⟨_,.cell rfl .l3 rfl (.tmp rfl (.cell rfl .l2 rfl (.tmp rfl .nil))),_,_,(Ent.d3.trans Ent.d2),_,_,rfl,⟨⟨_,_,_,rfl,.head _,.tail _ (.tail _ (.head _)),.tail _ (.head _)⟩⟩,⟨⟨_,_,_,rfl,.head _,.tail _ (.tail _ (.tail _ (.tail _ (.head _)))),.tail _ (.tail _ (.tail _ (.head _)))⟩⟩,rfl,fun A hA=>by repeat (first|exact hA|refine Zs _ ?_)⟩
end Go.Cis
