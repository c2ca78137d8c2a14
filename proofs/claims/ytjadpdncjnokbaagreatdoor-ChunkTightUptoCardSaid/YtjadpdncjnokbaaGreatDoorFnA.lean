/- Words of bits counted; the blocks of an allocator. -/
import Derived.Test.YtjadpdncjnokbaaGreatDoorSgC
import Derived.Test.YtjadpdncjnokbaaGreatDoorLxC
set_option linter.unusedSimpArgs false
set_option linter.unusedVariables false
namespace Go.Cis
open Go Go.Ax Go.Lx Go.Proofs
set_option maxRecDepth 100000
variable (L P:List Asn)
theorem Zow :mk 8 85=6148914691236517205:=by decide
theorem Zox :mk 8 51=3689348814741910323:=by decide
theorem Zoy :mk 8 15=1085102592571150095:=by decide
theorem Zfh(n:Nat):n&&&127=n%128:=Nat.and_two_pow_sub_one_eq_mod n 7
theorem Zoz{x a b c y:Nat}(hx:x<18446744073709551616)(ha:a=(x>>>1&&&6148914691236517205)+(x&&&6148914691236517205))(hb:b=(a>>>2&&&3689348814741910323)+(a&&&3689348814741910323))(hc:c=(b>>>4+b)&&&1085102592571150095)
  (hy:y=(c+c>>>8)+(c+c>>>8)>>>16+((c+c>>>8)+(c+c>>>8)>>>16)>>>32):y&&&127=pop 64 x:=by
 obtain⟨z,h1,h2,h3⟩:=Zxd x hx;have e:z=c:=by
  rw[h1,hc,hb,ha];unfold Lx.st3 Lx.st2 Lx.st1;rw[Zow,Zox,Zoy]
 rw[←h3,Zfh,hy,←e];simp only[Nat.shiftRight_eq_div_pow]
theorem Zo0(x:Nat)(hx:x<18446744073709551616):Sp SET 191 [.int .u64 (x:Nat)] L P (fun r L' P'=>r=.int .i64 (pop 64 x:Nat)∧L'=L∧P'=P):=by
 obtain⟨a,ha⟩:∃a,a=(x>>>1&&&6148914691236517205)+(x&&&6148914691236517205):=⟨_,rfl⟩;obtain⟨b,hb⟩:∃b,b=(a>>>2&&&3689348814741910323)+(a&&&3689348814741910323):=⟨_,rfl⟩;obtain⟨c,hc⟩:∃c,c=(b>>>4+b)&&&1085102592571150095:=⟨_,rfl⟩;obtain⟨y,hy⟩:∃y,y=(c+c>>>8)+(c+c>>>8)>>>16+((c+c>>>8)+(c+c>>>8)>>>16)>>>32:=⟨_,rfl⟩;have k1:x>>>1≤x:=Nat.shiftRight_le ..;have k2:x>>>1&&&6148914691236517205≤6148914691236517205:=Nat.and_le_right;have k3:x&&&6148914691236517205≤6148914691236517205:=Nat.and_le_right;have k4:a>>>2≤a:=Nat.shiftRight_le ..;have k5:a>>>2&&&3689348814741910323≤3689348814741910323:=Nat.and_le_right;have k6:a&&&3689348814741910323≤3689348814741910323:=Nat.and_le_right;have k7:b>>>4≤b:=Nat.shiftRight_le ..;have k7':b>>>4=b/16:=Nat.shiftRight_eq_div_pow ..
 have k8:c≤1085102592571150095:=by rw[hc];exact Nat.and_le_right
 have k9:c>>>8≤c:=Nat.shiftRight_le ..;have k10:(c+c>>>8)>>>16≤(c+c>>>8):=Nat.shiftRight_le ..;have m1:x>>>1<18446744073709551616:=Nat.lt_of_le_of_lt k1 hx;have m2:a<18446744073709551616:=by omega
 have m3:a>>>2<18446744073709551616:=Nat.lt_of_le_of_lt k4 m2;have m4:b≤7378697629483820646:=by omega
 have m5:b>>>4+b<18446744073709551616:=by omega
 have k11:((c+c>>>8)+(c+c>>>8)>>>16)>>>32≤((c+c>>>8)+(c+c>>>8)>>>16):=Nat.shiftRight_le ..;refine .bo (fn:=Tryz.f191) (N:=34) ?_;refine .seq (.region (.pu .as (.nil (.seq (.region (.pu .mv (.pu .shrN (.pu .andU (.pu .mv (.pu .andU (.pu .addN ?_)))))))))));rw[←ha];refine .pu .as (.nil (.seq (.region (.pu .mv (.pu .shrN (.pu .andU (.pu .mv (.pu .andU (.pu .addN ?_)))))))));rw[←hb];refine .pu .as (.nil (.seq (.region (.pu .mv (.pu .shrN (.pu .mv ?_))))));refine .pu (.addN (hr:=by simp only[InR];exact⟨Int.natCast_nonneg _,Int.ofNat_lt.2 m5⟩)) ?_;refine .pu .andU ?_;rw[←hc];refine .pu .as (.nil (.seq (.region (.pu .mv (.pu .mv (.pu .shrN (.pu .addN (.pu .as (.nil (.seq (.region (.pu .mv (.pu .mv (.pu .shrN (.pu .addN (.pu .as (.nil (.seq (.region (.pu .mv (.pu .mv (.pu .shrN (.pu .addN ?_)))))))))))))))))))))));rw[←hy];refine .pu .as (.nil (.seq (.region (.pu .mv (.pu .ci ?_)))))
 refine .pu (.i_and (hr:=by have e:Nat.land y 127=y&&&127:=rfl;rw[e,Zfh];simp only[InR];omega)) ?_;refine .pu .as (.nil (.ret ?_));exact⟨_,.tmp rfl .nil,_,_,.refl _ _,congrArg (fun n:Nat=>Value.int .i64 (n:Int)) (Zoz hx ha hb hc hy),rfl,rfl⟩
def Yi :List Value:=Lib.deBruijn64tab.map fun n=>Value.int .u8 (n:Nat)
theorem e58 :(2:Nat)^58=288230376151711744:=by decide
theorem Zo1{x k:Nat}(hl:x&&&(18446744073709551616-x)=2^k):((x&&&(18446744073709551616-x))*285870213051353865%18446744073709551616)>>>58=2^k*285870213051353865%18446744073709551616/288230376151711744:=by
 rw[hl,Nat.shiftRight_eq_div_pow,e58]
theorem Zo2{i k:Nat}(hi:i<64)(h:Lib.deBruijn64tab.getD i 0=k):Yi[i]? =some (.int .u8 (k:Nat)):=by
 have h3:Lib.deBruijn64tab.length=64:=by decide
 have h4:=List.getElem?_eq_getElem (l:=Lib.deBruijn64tab) (i:=i) (by omega);rw[List.getD_eq_getElem?_getD,h4]at h;unfold Yi;rw[List.getElem?_map,h4];have h:Lib.deBruijn64tab[i]=k:=h;subst h;rfl
theorem Zo3(x:Nat)(hx:x<18446744073709551616)(h0:x≠0)(hT:Ro 0 Yi∈P):Sp SET 142 [.int .u64 (x:Nat)] L P (fun r L' P'=>r=.int .i64 (Lib.ctz 64 x:Nat)∧L'=L∧P'=P):=by
 obtain⟨hl,hk⟩:=Lib.lowest_bit 64 x h0 hx;have hl:x&&&(18446744073709551616-x)=2^Lib.ctz 64 x:=hl;have hi:=(Lib.deBruijn64_at _ hk).1;refine .bo (fn:=Tryz.f142) (N:=13) ?_;refine .seq (.region (.pu .as (.nil (.seq (.seq (.region (.pu .mv (.pu .cn (.nil ?_)))))))));refine .no rfl (.skip (.seq (.region (.pu .mv (.pu .mv (.pu .negU (.pu .andU (.pu .mulU (.pu .shrN ?_)))))))));rw[Zo1 hl];refine .pu (.iaA (hn:=⟨Int.natCast_nonneg _,Int.ofNat_lt.2 hi⟩)) ?_;rw[Int.toNat_natCast,Nat.mul_one,Nat.zero_add];refine .lo .ro ⟨_,.p hT,Zo2 hi (Lib.deBruijn64_at _ hk).2⟩ ?_;refine .pu (.ci (hv:=by simp only[InR];omega)) ?_;refine .pu .as (.nil (.ret ?_));exact⟨_,.tmp rfl .nil,_,_,.refl _ _,rfl,rfl,rfl⟩
def Z9(u:Nat):List Value:=[.int .u64 (u:Nat)]
theorem Zo4(u k:Nat)(hk:k<64):((u>>>k)&&&1=1)↔u.testBit k=true:=by
 rw[Nat.testBit];simp[Nat.and_comm,Nat.shiftRight_eq_div_pow,bne_iff_ne]
theorem Zo5(v:Value)(us:List Nat)(b:Nat)(hv:Zj 1 v (us.map Z9) L P)(hb:b<64*us.length)(hw:∀u∈us,u<18446744073709551616)(hl:us.length≤1099511627776):Sp SET 135 [v,.int .i64 (b:Nat)] L P (fun r L' P'=>r=.bool (mem us b)∧L'=L∧P'=P):=by
 have hi:b/64<us.length:=by omega
 have hu:us[b/64]<18446744073709551616:=hw _ (List.getElem_mem hi);have hu1:us[b/64]>>>(b%64)<18446744073709551616:=Nat.lt_of_le_of_lt (Nat.shiftRight_le ..) hu;have he:(us.map Z9)[b/64]? =some [.int .u64 (us[b/64]:Nat)]:=by simp[hi,Z9]
 refine .bo (fn:=Tryz.f135) (N:=14) ?_;refine .seq (.region (.pu .as (.nil (.seq (.region (.pu .mv (.pu .mv (.pu (.i_quo (b:=64)) ?_))))))));refine .lk (.ia (hn:=⟨Int.natCast_nonneg _,by rw[List.length_map];omega⟩)) ?_;refine .le he ?_;refine .pu .mv (.pu (.i_rem (b:=64)) ?_);refine .pu (.shrN (hn:=show b%64≤64 by omega)) ?_;refine .pu .andU (.pu .cmp (.pu .as (.nil (.ret ?_))));refine⟨_,.tmp rfl .nil,_,_,.refl _ _,?_,rfl,rfl⟩;refine congrArg Value.bool ?_;unfold mem;rw[List.getElem?_eq_getElem hi,Option.getD_some];have:=Zo4 us[b/64] (b%64) (by omega);cases ht:us[b/64].testBit (b%64)with
 |true=>rw[this.2 ht];rfl
 |false=>
  refine decide_eq_false (fun e=>?_);rw[this.1 (Int.ofNat_inj.1 e)]at ht;cases ht
theorem Zfi(v:Value)(us:List Nat)(b:Nat)(hb:b<64*us.length)(hw:∀u∈us,u<18446744073709551616)(hl:us.length≤1099511627776):Sp SET 136 [v,.int .i64 (b:Nat)] (Ow 1 v (us.map Z9)::L) P (fun r L' P'=>r=.tuple ⟨[]⟩∧L'=Ow 1 v ((Zl us b).map Z9)::L∧P'=P):=by
 have hi:b/64<us.length:=by omega
 have hu:us[b/64]<18446744073709551616:=hw _ (List.getElem_mem hi);have h2:2^(b%64)<18446744073709551616:=Nat.pow_lt_pow_right (a:=2) (by decide) (show b%64<64 by omega);have he:(us.map Z9)[b/64]? =some [.int .u64 (us[b/64]:Nat)]:=by simp[hi,Z9]
 refine .bo (fn:=Tryz.f136) (N:=13) ?_;refine .drawn (by kernel_rfl) fun base=>?_;refine .pu .mv (.pu .mv (.pu (.i_quo (b:=64)) ?_));refine .lk (.ia (hn:=⟨Int.natCast_nonneg _,by rw[List.length_map];omega⟩)) ?_;refine .lo 0 0 .le (.mk he) ?_;refine .pu .mv (.pu (.i_rem (b:=64)) ?_);refine .pu (.bitU (hn:=by omega)) ?_;refine .pu .orU ?_;refine .lk (.ia (hn:=⟨Int.natCast_nonneg _,by rw[List.length_map];omega⟩)) ?_;refine .se he ?_;refine .nil (.cons (.yes (.mk he) (.skip .nil)) .nil) ?_;refine⟨_,.nil,_,_,.refl _ _,rfl,?_,rfl⟩;unfold Zl;rw[List.map_set,List.getElem?_eq_getElem hi];rfl
theorem Zo6(v:Value)(us:List Nat)(b:Nat)(hb:b<64*us.length)(hw:∀u∈us,u<18446744073709551616)(hl:us.length≤1099511627776):Sp SET 163 [v,.int .i64 (b:Nat)] (Ow 1 v (us.map Z9)::L) P (fun r L' P'=>r=.tuple ⟨[]⟩∧L'=Ow 1 v ((Xm us b).map Z9)::L∧P'=P):=by
 have hi:b/64<us.length:=by omega
 have hu:us[b/64]<18446744073709551616:=hw _ (List.getElem_mem hi);have h2:2^(b%64)<18446744073709551616:=Nat.pow_lt_pow_right (a:=2) (by decide) (show b%64<64 by omega);have he:(us.map Z9)[b/64]? =some [.int .u64 (us[b/64]:Nat)]:=by simp[hi,Z9]
 refine .bo (fn:=Tryz.f163) (N:=13) ?_;refine .drawn (by kernel_rfl) fun base=>?_;refine .pu .mv (.pu .mv (.pu (.i_quo (b:=64)) ?_));refine .lk (.ia (hn:=⟨Int.natCast_nonneg _,by rw[List.length_map];omega⟩)) ?_;refine .lo 0 0 .le (.mk he) ?_;refine .pu .mv (.pu (.i_rem (b:=64)) ?_);refine .pu (.bitU (hn:=by omega)) ?_;refine .pu .andNotU ?_;refine .lk (.ia (hn:=⟨Int.natCast_nonneg _,by rw[List.length_map];omega⟩)) ?_;refine .se he ?_;refine .nil (.cons (.yes (.mk he) (.skip .nil)) .nil) ?_;refine⟨_,.nil,_,_,.refl _ _,rfl,?_,rfl⟩;unfold Xm;rw[List.map_set,List.getElem?_eq_getElem hi];rfl
theorem Zac(v:Value)(us:List Nat)(hv:Zj 1 v (us.map Z9) L P)(hw:∀u∈us,u<18446744073709551616)(hl:us.length≤1099511627776):Sp SET 137 [v] L P (fun r L' P'=>r=.int .i64 (Yc us:Nat)∧L'=L∧P'=P):=by
 refine .bo (fn:=Tryz.f137) (N:=17) ?_;refine .seq (.region (.pu .as (.nil (.seq (.region (.pu .as (.nil (.seq (.seq (.region (.pu .mv (.lk .ln ?_))))))))))));refine .pu .mv (.nil ?_);refine .block (W.loop (fun i:Nat=>i≤us.length) (fun i=>us.length-i) (fun i=>[(8,.int .i64 (i:Nat)),(7,.int .i64 (us.map Z9).length),(6,v),(3,.int .i64 (Yc (us.take i):Nat))]) (fun _=>L) (fun _=>P) 0 (Nat.zero_le _) ⟨rfl,rfl,rfl,rfl,trivial⟩ (.refl _ _) (fun i hi=>?_));have hlen:(us.map Z9).length=us.length:=List.length_map ..;by_cases hlt:i<us.length
 ·refine .seq (.region (.pu .cy (.nil (.seq (.yes rfl (.skip (.seq (.block (.seq (.region ?_))))))))));have hg:(us.map Z9)[((i:Nat):Int).toNat]? =some (Z9 us[i]):=by simp[hlt]
  have hc:=Zkf hlt;have hb:=Zc1 (us.take (i+1));have hb2:(us.take (i+1)).length≤us.length:=by rw[List.length_take];omega
  refine .lk .ia ?_;refine .le hg ?_;refine .pu .as (.nil (.region (.pu .mv (.pu .mv ?_))));refine .call (Zo0 _ _ _ (hw _ (List.getElem_mem hlt))) ?_;rintro _ L P ⟨rfl,rfl,rfl⟩;refine .pu .addN (.pu .as (.nil (.region (.pu .add (.pu .mv (.nil ?_))))));refine⟨i+1,hlt,by show us.length-(i+1)<us.length-i;omega,⟨rfl,rfl,rfl,?_,trivial⟩,.refl _ _⟩;show some (Value.int .i64 _)=some (Value.int .i64 _);rw[hc]
 ·refine .seq (.region (.pu .cn (.nil (.seq (.no rfl (.exit (.seq (.region (.pu .mv (.pu .as (.nil (.ret ?_))))))))))));refine⟨_,.tmp rfl .nil,_,_,.refl _ _,?_,rfl,rfl⟩;have e:us.take i=us:=List.take_of_length_le (by omega);rw[e];rfl
structure AS0 where
 n:Nat
 us:List Nat
 ls:List Nat
 back:Nat
structure AS0.Ok(a:AS0):Prop where
 n0:1≤a.n
 n1:a.n≤4096
 ul:a.us.length=(a.n+63)/64
 ll:a.ls.length=(a.n+63)/64
 uw:∀u∈a.us,u<18446744073709551616
 lw:∀u∈a.ls,u<18446744073709551616
 uo:∀b,mem a.us b=true→b<a.n
 lo:∀b,mem a.ls b=true→b<a.n
 dj:∀b,mem a.us b=true→mem a.ls b=false
def Vf(p:Nat)(a:AS0)(x:Value×Value):List Asn:=[Pt p [.int .i64 (a.n:Nat),x.1,x.2,.int .i64 (a.back:Nat)] (tz 0 214),Ow 1 x.1 (a.us.map Z9),Ow 1 x.2 (a.ls.map Z9)]
def Alc(p:Nat)(a:AS0):Asn:=Bx (fun _=>a.Ok) (Vf p a)
def AS0.free(a:AS0):Int:=(a.n:Int)-Yc a.us-Yc a.ls-a.back
theorem AS0.Ok.small{a:AS0}(h:a.Ok):Yc a.us≤4096+64∧Yc a.ls≤4096+64∧a.us.length≤64∧a.ls.length≤64:=by
 have h1:=Zc1 a.us;have h2:=Zc1 a.ls;have:=h.n1;have:=h.ul;have:=h.ll;omega
theorem Zfj(p:Nat)(a:AS0)(x:Value×Value)(ha:a.Ok)(hb:a.back≤1000000):Sp SET 73 [.pointer (some ⟨p,0,none⟩)] (Vf p a x++L) P (fun r L' P'=>r=.int .i64 a.free∧L'=Vf p a x++L∧P'=P):=by
 have hs:=ha.small;have hn1:=ha.n1;refine .bo (fn:=Tryz.f73) (N:=25) ?_;refine .seq (.region (.pu .as (.nil (.seq (.seq (.region (.pu .mv (.pu .peq (.nil ?_)))))))));refine .no rfl (.skip ?_);refine .seq (.drawn (by kernel_rfl) fun base=>?_);refine .pu .mv (.pu .nc (.pu .fa (.lo 0 2 .ld .mk ?_)));refine .pu .mv (.pu .nc (.pu .fa (.lo 0 0 .ld .mk ?_)));refine .call (Zac _ _ _ _ (.o .l1) ha.uw (by omega)) ?_;rintro _ L P ⟨rfl,rfl,rfl⟩;refine .pu .sub (.pu .mv (.pu .nc (.pu .fa (.lo 0 1 .ld .mk ?_))));refine .call (Zac _ _ _ _ (.o .l2) ha.lw (by omega)) ?_;rintro _ L P ⟨rfl,rfl,rfl⟩;refine .pu .sub (.pu .mv (.pu .nc (.pu .fa (.lo 0 2 .ld .mk ?_))));refine .pu .sub (.pu .as (.nil (.cons (.yes .mk (.yes .mk (.yes .mk .nil))) (.cons (.yes .mk (.yes .mk (.skip .nil))) (.cons (.yes .mk (.skip (.skip .nil))) (.cons (.yes .mk (.yes .mk (.yes .mk .nil))) .nil)))) (.ret ?_)))
 exact⟨_,.tmp rfl .nil,_,_,.refl _ _,rfl,rfl,rfl⟩
theorem AS0.Ok.some_free{a:AS0}(h:a.Ok)(hf:0<a.free):∃b,b<a.n∧mem a.us b=false∧mem a.ls b=false:=by
 refine Classical.byContradiction (fun hn=>?_);have h1:=Zkd (f:=mem a.us) (g:=mem a.ls) a.n (fun j hj=>by
  cases hu:mem a.us j with
  |true=>exact .inl rfl
  |false=>cases hl:mem a.ls j with
   |true=>exact .inr rfl
   |false=>exact absurd ⟨j,hj,hu,hl⟩ hn)
 have hul:=h.ul;have hll:=h.ll;have h2:=Zc0 (mem a.us) a.n (64*a.us.length-a.n);have h3:=Zc0 (mem a.ls) a.n (64*a.ls.length-a.n);rw[show a.n+(64*a.us.length-a.n)=64*a.us.length by omega,←Ua]at h2;rw[show a.n+(64*a.ls.length-a.n)=64*a.ls.length by omega,←Ua]at h3;unfold AS0.free at hf;omega
theorem AS0.Ok.add{a:AS0}(h:a.Ok){b:Nat}(hb:b<a.n)(hl:mem a.ls b=false):({a with us:=Zl a.us b}:AS0).Ok:=by
 have hul:=h.ul;have hm:=Mi a.us b (by omega);refine⟨h.n0,h.n1,?_,h.ll,Zkj h.uw,h.lw,fun j hj=>?_,h.lo,fun j hj=>?_⟩
 ·show(Zl a.us b).length=_;unfold Zl;rw[List.length_set];exact hul
 ·have hj:mem (Zl a.us b) j=true:=hj;rw[hm,Bool.or_eq_true,decide_eq_true_eq]at hj;rcases hj with hj|hj
  ·exact h.uo j hj
  ·rw[hj];exact hb
 ·have hj:mem (Zl a.us b) j=true:=hj;rw[hm,Bool.or_eq_true,decide_eq_true_eq]at hj;rcases hj with hj|hj
  ·exact h.dj j hj
  ·rw[hj];exact hl
def Fq(a a':AS0)(r:Value):Prop:=(a.free≤0∧a'=a∧r=.tuple ⟨[.int .i64 0,.int .i64 5]⟩)∨(0<a.free∧∃b:Nat,b<a.n∧mem a.us b=false∧mem a.ls b=false∧(∀j,j<b→mem a.us j=true∨mem a.ls j=true)∧a'= {a with us:=Zl a.us b}∧a'.Ok∧r=.tuple ⟨[.int .i64 (b:Nat),.int .i64 0]⟩)
theorem Zo7{u l:Nat}(hu:u<18446744073709551616)(hl:l<18446744073709551616)(h:18446744073709551615-(u|||l)=0)(j:Nat)(hj:j<64):u.testBit j=true∨l.testBit j=true:=by
 have h1:u|||l<2^64:=Nat.or_lt_two_pow hu hl;have h2:u|||l=2^64-1:=by omega
 have h3:(u|||l).testBit j=true:=by rw[h2,Nat.testBit_two_pow_sub_one,decide_eq_true hj]
 rw[Nat.testBit_or,Bool.or_eq_true]at h3;exact h3
theorem Zfk{u l k:Nat}(hu:u<18446744073709551616)(hl:l<18446744073709551616)(hk:k<64):(18446744073709551615-(u|||l)).testBit k=(!u.testBit k&& !l.testBit k):=by
 have h1:u|||l<2^64:=Nat.or_lt_two_pow hu hl;rw[show 18446744073709551615-(u|||l)=2^64-((u|||l)+1) by omega,Nat.testBit_two_pow_sub_succ h1,decide_eq_true hk,Bool.true_and,Nat.testBit_or,Bool.not_or]
theorem M7{us:List Nat}{i k:Nat}(hi:i<us.length)(hk:k<64):mem us (64*i+k)=us[i].testBit k:=by
 unfold mem;rw[show(64*i+k)/64=i by omega,show(64*i+k)%64=k by omega,List.getElem?_eq_getElem hi];rfl
theorem Zo8(p:Nat)(a:AS0)(x:Value×Value)(ha:a.Ok)(hb:a.back≤1000000)(hT:Ro 0 Yi∈P):Sp SET 76 [.pointer (some ⟨p,0,none⟩)] (Vf p a x++L) P (fun r L' P'=>∃a',Fq a a' r∧L'=Vf p a' x++L∧P'=P):=by
 have hs:=ha.small;have hn1:=ha.n1;refine .bo (fn:=Tryz.f76) (N:=52) ?_;refine .seq (.region (.pu .as (.pu .as (.nil (.seq (.block (.seq (.region (.pu .mv (.pu .peq (.pu .as (.nil ?_))))))))))));refine .no rfl (.seq (.region (.pu .mv ?_)));refine .call (Zfj _ _ _ _ _ ha hb) ?_;rintro _ L P ⟨rfl,rfl,rfl⟩;refine .pu .cmp (.pu .as (.nil ?_));refine .ite rfl (fun hf=>?_) (fun hf=>?_)
 ·refine .seq (.region (.pu .as (.pu .as (.nil (.ret ?_)))));exact⟨_,.tmp rfl (.tmp rfl .nil),_,_,.refl _ _,a,.inl ⟨of_decide_eq_true hf,rfl,rfl⟩,rfl,rfl⟩
 refine .skip (.seq (.seq (.region (.pu .mv (.pu .nc (.pu .fa (.ld ?_)))))));refine .lk .ln ?_;refine .pu .mv (.nil ?_);refine .block (W.loop (fun i:Nat=>i≤a.us.length∧∀j,j<64*i→mem a.us j=true∨mem a.ls j=true) (fun i=>a.us.length-i) (fun i=>[(19,.int .i64 (i:Nat)),(18,.int .i64 (a.us.map Z9).length),(0,.pointer (some ⟨p,0,none⟩))]) (fun _=>Vf p a x++L) (fun _=>P) 0 ⟨Nat.zero_le _,fun j hj=>by omega⟩ ⟨rfl,rfl,rfl,trivial⟩ (.refl _ _) (fun i hi=>?_));have hlen:(a.us.map Z9).length=a.us.length:=List.length_map ..;have hlen2:(a.ls.map Z9).length=a.ls.length:=List.length_map ..;have hul:=ha.ul;have hll:=ha.ll;have hf:0<a.free:=by have:=of_decide_eq_false hf;omega
 obtain⟨hi,hfull⟩:=hi;by_cases hlt:i<a.us.length
 ·refine .seq (.region ?_);have hlt2:i<a.ls.length:=by omega
  have hg:(a.us.map Z9)[((i:Nat):Int).toNat]? =some [.int .u64 (a.us[i]:Nat)]:=by simp[hlt,Z9]
  have hg2:(a.ls.map Z9)[((i:Nat):Int).toNat]? =some [.int .u64 (a.ls[i]:Nat)]:=by simp[hlt2,Z9]
  have w1:a.us[i]<18446744073709551616:=ha.uw _ (List.getElem_mem hlt);have w2:a.ls[i]<18446744073709551616:=ha.lw _ (List.getElem_mem hlt2);have w3:a.us[i]|||a.ls[i]<18446744073709551616:=Nat.or_lt_two_pow (n:=64) w1 w2;refine .pu .cy (.nil (.seq (.yes rfl (.skip (.seq (.block (.seq (.region (.pu .mv (.pu .as (.nil ?_)))))))))));refine .seq (.quiet (by kernel_rfl) ?_);refine .pu .mv (.pu .nc (.pu .fa (.ld ?_)));refine .pu .mv (.lk .ia ?_);refine .le hg ?_;refine .pu .mv (.pu .nc (.pu .fa (.ld ?_)));refine .pu .mv (.lk .ia ?_);refine .le hg2 ?_;refine .pu .orU (.pu .notU (.pu .as (.nil (.seq (.region (.pu .mv (.pu .cmp (.nil ?_))))))));refine .ite rfl (fun hz=>?_) (fun hz=>?_)
  ·refine .seq (.region (.pu .mv ?_));have w4:18446744073709551615-(a.us[i]|||a.ls[i])<18446744073709551616:=by omega
   have w5:18446744073709551615-(a.us[i]|||a.ls[i])≠0:=fun e=>(of_decide_eq_true hz) (by rw[e];rfl);obtain⟨c1,c2,c3⟩:=Zxi w5 w4;have hi63:i<64:=by omega
   refine .pu (.mulN (a:=64)) (.pu .mv ?_);refine .call (Zo3 _ _ _ w4 w5 hT) ?_;rintro _ L P ⟨rfl,rfl,rfl⟩;refine .pu .addN (.pu .as (.nil (.seq (.region (.pu .mv (.pu .nc (.pu .fa (.ld ?_))))))));refine .pu .mv ?_;refine .call (Sp.up (.s .z) (fun L=>Zfi L _ _ a.us (64*i+Lib.ctz 64 (18446744073709551615-(a.us[i]|||a.ls[i]))) (by omega) ha.uw (by omega))) ?_;rintro _ L P ⟨rfl,rfl,rfl⟩;refine .nil (.seq (.region (.pu .mv (.pu .as (.pu .as (.nil (.ret ?_)))))));refine⟨_,.tmp rfl (.tmp rfl .nil),_,_,.refl _ _,{a with us:=Zl a.us (64*i+Lib.ctz 64 (18446744073709551615-(a.us[i]|||a.ls[i])))},.inr ⟨hf,64*i+Lib.ctz 64 (18446744073709551615-(a.us[i]|||a.ls[i])),?_⟩,rfl,rfl⟩
   rw[Zfk w1 w2 c1,Bool.and_eq_true,Bool.not_eq_true',Bool.not_eq_true']at c2;have hleast:∀j,j<64*i+Lib.ctz 64 (18446744073709551615-(a.us[i]|||a.ls[i]))→mem a.us j=true∨mem a.ls j=true:=fun j hj=>by
    by_cases hj2:j<64*i
    ·exact hfull j hj2
    ·obtain⟨k,rfl⟩:∃k,j=64*i+k:=⟨j-64*i,by omega⟩;have hk:=c3 k (by omega);rw[Zfk w1 w2 (by omega)]at hk;rw[M7 hlt (by omega),M7 hlt2 (by omega)]
     revert hk
     cases a.us[i].testBit k<;>cases a.ls[i].testBit k<;>simp
   have hlt3:64*i+Lib.ctz 64 (18446744073709551615-(a.us[i]|||a.ls[i]))<a.n:=by
    obtain⟨b0,g1,g2,g3⟩:=ha.some_free hf;refine Nat.lt_of_le_of_lt (Nat.le_of_not_lt (fun hlt4=>?_)) g1;rcases hleast b0 hlt4 with e|e
    ·rw[g2]at e;cases e
    ·rw[g3]at e;cases e
   have hm1:mem a.us (64*i+Lib.ctz 64 (18446744073709551615-(a.us[i]|||a.ls[i])))=false:=by rw[M7 hlt c1];exact c2.1
   have hm2:mem a.ls (64*i+Lib.ctz 64 (18446744073709551615-(a.us[i]|||a.ls[i])))=false:=by rw[M7 hlt2 c1];exact c2.2
   exact⟨hlt3,hm1,hm2,hleast,rfl,ha.add hlt3 hm2,rfl⟩
  refine .skip (.region (.pu .add (.pu .mv (.nil ?_))));refine⟨i+1,⟨hlt,fun j hj=>?_⟩,by show a.us.length-(i+1)<a.us.length-i;omega,⟨rfl,rfl,rfl,trivial⟩,.refl _ _⟩;by_cases hj2:j<64*i
  ·exact hfull j hj2
  ·obtain⟨k,rfl⟩:∃k,j=64*i+k:=⟨j-64*i,by omega⟩;rw[M7 hlt (by omega),M7 hlt2 (by omega)];have hz0:=of_decide_eq_false hz;exact Zo7 w1 w2 (by omega) k (by omega)
 ·refine .seq (.region (.pu .cn (.nil (.seq (.no rfl (.exit (.seq (.region (.pu .as (.pu .as (.nil (.ret ?_))))))))))));refine⟨_,.tmp rfl (.tmp rfl .nil),_,_,.refl _ _,a,?_,rfl,rfl⟩;obtain⟨b0,g1,g2,g3⟩:=ha.some_free hf;rcases hfull b0 (by omega)with e|e
  ·rw[g2]at e;cases e
  ·rw[g3]at e;cases e
theorem AS0.Ok.drop{a:AS0}(h:a.Ok){b:Nat}(hb:mem a.us b=true):({a with us:=Xm a.us b,ls:=Zl a.ls b}:AS0).Ok:=by
 have hul:=h.ul;have hll:=h.ll;have hlt:=h.uo b hb;have hm:=R6 a.us b (by omega);have hm2:=Mi a.ls b (by omega);refine⟨h.n0,h.n1,?_,?_,Zxh h.uw,Zkj h.lw,fun j hj=>?_,fun j hj=>?_,fun j hj=>?_⟩
 ·show(Xm a.us b).length=_;unfold Xm;rw[List.length_set];exact hul
 ·show(Zl a.ls b).length=_;unfold Zl;rw[List.length_set];exact hll
 ·have hj:mem (Xm a.us b) j=true:=hj;rw[hm,Bool.and_eq_true]at hj;exact h.uo j hj.1
 ·have hj:mem (Zl a.ls b) j=true:=hj;rw[hm2,Bool.or_eq_true,decide_eq_true_eq]at hj;rcases hj with hj|hj
  ·exact h.lo j hj
  ·rw[hj];exact hlt
 ·have hj:mem (Xm a.us b) j=true:=hj;show mem (Zl a.ls b) j=false;rw[hm,Bool.and_eq_true,Bool.not_eq_true',decide_eq_false_iff_not]at hj;rw[hm2,h.dj j hj.1,decide_eq_false hj.2];rfl
theorem Zo9(p:Nat)(a:AS0)(x:Value×Value)(ha:a.Ok)(b:Nat)(hb:mem a.us b=true):Sp SET 94 [.pointer (some ⟨p,0,none⟩),.int .i64 (b:Nat)] (Vf p a x++L) P (fun r L' P'=>r=.int .i64 0∧L'=Vf p {a with us:=Xm a.us b,ls:=Zl a.ls b} x++L∧P'=P):=by
 have hlt:=ha.uo b hb;have hul:=ha.ul;have hll:=ha.ll;have hn1:=ha.n1;refine .bo (fn:=Tryz.f94) (N:=39) ?_;refine .seq (.region (.pu .as (.nil (.seq (.block (.seq (.region (.pu .mv (.pu .peq (.pu .mv (.on (.pu .mv (.on (.pu .cn (.pu .pk (.pu .mv (.on (.pu .mv (.on (.pu .mv (.on (.pu .nc (.on (.pu .fa (.on (.ld ?_))))))))))))))))))))))))));refine .on (.pu .cn (.pu .pk (.pu .as (.nil ?_))));refine .no rfl (.seq (.region (.pu .mv (.pu .nc (.pu .fa (.ld ?_))))));refine .pu .mv ?_;refine .call (Zo5 _ _ _ _ b (.o .l1) (by omega) ha.uw (by omega)) ?_;rintro _ L P ⟨rfl,rfl,rfl⟩;rw[hb];refine .pu .nt (.pu .as (.nil ?_));refine .no rfl (.skip (.seq (.region (.pu .mv (.pu .nc (.pu .fa (.ld ?_)))))));refine .pu .mv ?_;refine .call (Sp.up (.s .z) (fun L=>Zo6 L _ _ a.us b (by omega) ha.uw (by omega))) ?_;rintro _ L P ⟨rfl,rfl,rfl⟩;refine .nil (.seq (.region (.pu .mv (.pu .nc (.pu .fa (.ld ?_))))))
 refine .pu .mv ?_;refine .call (Sp.up (.s (.s .z)) (fun L=>Zfi L _ _ a.ls b (by omega) ha.lw (by omega))) ?_;rintro _ L P ⟨rfl,rfl,rfl⟩;refine .nil (.seq (.region (.pu .as (.nil (.ret ?_)))));exact⟨_,.tmp rfl .nil,_,_,.refl _ _,rfl,rfl,rfl⟩
theorem By(n b:Nat):mem (List.replicate n 0) b=false:=by
 unfold mem;rw[List.getElem?_replicate];split<;>simp
theorem AS0.Ok.settle{a:AS0}(h:a.Ok):({a with ls:=List.replicate a.ls.length 0}:AS0).Ok where
 n0:=h.n0
 n1:=h.n1
 ul:=h.ul
 ll:=by show(List.replicate _ _).length=_;rw[List.length_replicate];exact h.ll
 uw:=h.uw
 lw:=fun u hu=>by
  have:=List.eq_of_mem_replicate hu;omega
 uo:=h.uo
 lo:=fun b hb=>by
  have hb:mem (List.replicate _ 0) b=true:=hb;rw[By]at hb;cases hb
 dj:=fun b _=>By ..
theorem Zfl :∀ls:List Nat,(ls.map Z9).map (fun _=>[Value.int .u64 0])=(List.replicate ls.length 0).map Z9
 |[]=>rfl
 |u::ls=>by
  rw[List.map_cons,List.map_cons,Zfl ls,List.length_cons,List.replicate_succ];rfl
theorem Zpa(p:Nat)(a:AS0)(x:Value×Value)(ha:a.Ok):Sp SET 97 [.pointer (some ⟨p,0,none⟩)] (Vf p a x++L) P (fun r L' P'=>r=.int .i64 (Yc a.ls:Nat)∧L'=Vf p {a with ls:=List.replicate a.ls.length 0} x++L∧P'=P):=by
 have hll:=ha.ll;have hn1:=ha.n1;refine .bo (fn:=Tryz.f97) (N:=15) ?_;refine .seq (.region (.pu .as (.nil (.seq (.seq (.region (.pu .mv (.pu .peq (.nil ?_)))))))));refine .no rfl (.skip (.seq (.region (.pu .mv (.pu .nc (.pu .fa (.ld ?_)))))));refine .call (Zac _ _ _ _ (.o .l2) ha.lw (by omega)) ?_;rintro _ L P ⟨rfl,rfl,rfl⟩;refine .pu .as (.nil (.seq (.region (.pu .mv (.pu .nc (.pu .fa (.ld ?_)))))));refine .clearO (.nil (.seq (.region (.pu .mv (.pu .as (.nil (.ret ?_)))))));refine⟨_,.tmp rfl .nil,_,_,.refl _ _,rfl,?_,rfl⟩;rw[Zfl];rfl
theorem Zfm(us:List Nat):∀f∈us.map Z9,ones f=true:=fun f hf=>by
 obtain⟨u,_,rfl⟩:=List.mem_map.1 hf;rfl
theorem Zpb{A B C:Asn}{R:List Asn}:(A::B::C::R).Perm (C::B::A::R):=
 (List.Perm.swap B A _).trans (((List.Perm.swap C A _).cons B).trans (List.Perm.swap C B _))
theorem Zpc(p:Nat)(a:AS0)(x:Value×Value)(ha:a.Ok):Sp SET 192 [.pointer (some ⟨p,0,none⟩)] (Vf p a x++L) P (fun r L' P'=>∃p' x',r=.pointer (some ⟨p',0,none⟩)∧L'=Vf p' a x'++(Vf p a x++L)∧P'=P):=by
 have hll:=ha.ll;have hul:=ha.ul;have hn1:=ha.n1;obtain⟨x1,x2⟩:=x;refine .bo (fn:=Tryz.f192) (N:=20) ?_;refine .seq (.region (.pu .as (.nil (.seq (.seq (.region (.pu .mv (.pu .peq (.nil ?_)))))))));refine .no rfl (.skip (.seq (.region (.pu .mv ?_))));refine .fact (Yo .l1) fun⟨a1,c1,(hx1:x1=_)⟩=>?_;refine .fact (Yo .l2) fun⟨a2,c2,(hx2:x2=_)⟩=>?_;subst hx1 hx2;refine .pu .nc (.lda (vs:=[_,_,_,_]) ?_);refine .nw (cs:=[.int .i64 0,.slice none 0 0,.slice none 0 0,.int .i64 0]) fun b3=>?_;refine .st (vs:=[_,_,_,_]) ?_;refine .ent (Ent.none (k:=1)) ?_;refine .ent (Ent.none (k:=1)) ?_;refine .nil ?_;refine .seq (.drawn (by kernel_rfl) fun base=>?_);refine .pu .mv (.pu .nc (.pu .fa (.lo 0 0 .ld .mk ?_)));refine .ap (.o .l4) .z (fun v13=>?_) (hn:=by rw[List.length_map,List.length_nil];show(0+a.us.length)*8≤_;omega) (ho:=Zfm a.us)
 refine .fact (Yo .l0) fun⟨a13,c13,h13⟩=>?_;subst h13;refine .pu .mv (.pu .nc (.pu .fa (.lo 0 1 .ld .mk ?_)));refine .ap (.o .l5) (.s .z) (fun v18=>?_) (hn:=by rw[List.length_map,List.length_nil];show(0+a.ls.length)*8≤_;omega) (ho:=Zfm a.ls);refine .fact (Yo .l0) fun⟨a18,c18,h18⟩=>?_;subst h18;refine .pu .fa (.st (vs:=[_]) ?_);refine .pu .fa (.st (vs:=[_]) ?_);refine .nil (.cons (.yes .mk (.yes .mk (.skip (.skip (.skip .nil))))) (.cons (.yes .mk (.skip (.skip (.skip (.skip .nil))))) .nil)) (.seq (.region (.pu .as (.nil (.ret ?_)))));exact⟨_,.tmp rfl .nil,_,_,.perm Zpb,b3,(_,_),rfl,rfl,rfl⟩
structure PSt where
 d:Nat
 lg:Nat
 logs:Nat
 n:Nat
 gen:Int
 ep:Int
 ls:List (Int×Bs)
 w:List (Int×Bs)
 turn:Int
def pgL(p:Nat)(σ:PSt)(b:Nat×Nat):List Asn:=[Pt p [.pointer (some ⟨σ.d,0,none⟩),.pointer (some ⟨σ.lg,0,none⟩),.int .i64 (σ.logs:Nat),.int .i64 (σ.n:Nat),.int .i64 σ.gen,.int .i64 σ.ep,.map (some b.1),.map (some b.2),.int .i64 σ.turn] (tz 0 146),Mp b.1 (Kk σ.ls),Mp b.2 (Kk σ.w)]
def PgS(p:Nat)(σ:PSt):Asn:=Bx (fun _=>True) (pgL p σ)
def PSt.get(σ:PSt)(k:Int):Option Bs:=match X7 σ.w k with
 |some s=>some s
 |none=>X7 σ.ls k
theorem Zfn(p:Nat)(σ:PSt)(b:Nat×Nat)(k:Int)(h0:0≤k)(h1:k<σ.n):Sp SET 130 [.pointer (some ⟨p,0,none⟩),.int .i64 k] (pgL p σ b++L) P (fun r L' P'=>r=.bool true∧L'=pgL p σ b++L∧P'=P):=by
 refine .bo (fn:=Tryz.f130) (N:=18) ?_;refine .seq (.region (.pu .as (.nil (.seq (.region (.pu .mv (.pu .pne (.pu .mv (.on (.pu .mv (.on (.pu .cy (.pu .pk (.pu .mv (.on (.pu .mv (.on (.pu .mv (.on (.pu .nc (.on (.pu .fa (.on (.ld ?_))))))))))))))))))))))));refine .on (.pu .cy (.pu .pk (.pu .as (.nil (.ret ?_)))));exact⟨_,.tmp rfl .nil,_,_,.refl _ _,rfl,rfl,rfl⟩
theorem Zpd(p:Nat)(σ:PSt)(b:Nat×Nat)(k:Int)(s:Bs)(h0:0≤k)(h1:k<σ.n)(hs:σ.get k=some s):Sp SET 70 [.pointer (some ⟨p,0,none⟩),.int .i64 k] (pgL p σ b++L) P (fun r L' P'=>r=.tuple ⟨[S s,.int .i64 0]⟩∧L'=pgL p σ b++L∧P'=P):=by
 unfold PSt.get at hs;refine .bo (fn:=Tryz.f70) (N:=40) ?_;refine .seq (.region (.pu .as (.pu .as (.nil (.seq (.seq (.region (.pu .mv (.pu .mv ?_)))))))));refine .call (Zfn _ _ _ _ _ _ h0 h1) ?_;rintro _ L P ⟨rfl,rfl,rfl⟩;refine .pu .nt (.nil ?_);refine .no rfl (.skip ?_);by_cases hw:X7 σ.w k=some s
 ·refine .seq (.seq (.region (.pu .mv (.pu .nc (.pu .fa (.ld ?_))))));refine .pu .mv ?_;refine .lo (.lu2 (o:=some (S s)) ((Rz k σ.w).trans (by rw[hw];rfl))) .l2 ?_;refine .pu .mv (.pu .ex (.pu .ex (.pu .as (.pu .as (.nil (.seq (.region (.pu .mv (.nil ?_)))))))));refine .yes rfl (.seq (.region (.pu .mv (.pu .as (.pu .as (.nil (.ret ?_)))))));exact⟨_,.tmp rfl (.tmp rfl .nil),_,_,.refl _ _,rfl,rfl,rfl⟩
 ·refine .seq (.seq (.region (.pu .mv ?_)));obtain⟨hn,hl⟩:X7 σ.w k=none∧X7 σ.ls k=some s:=by
   cases hq:X7 σ.w k with
   |none=>rw[hq]at hs;exact⟨rfl,hs⟩
   |some u=>rw[hq]at hs hw;exact absurd hs hw
  refine .pu .nc (.pu .fa (.ld ?_));refine .pu .mv ?_;refine .lo (.lu2 (o:=none) ((Rz k σ.w).trans (by rw[hn];rfl))) .l2 ?_;refine .pu .mv (.pu .ex (.pu .ex (.pu .as (.pu .as (.nil (.seq (.region (.pu .mv (.nil ?_)))))))));refine .no rfl (.skip (.seq (.seq (.region (.pu .mv (.pu .nc (.pu .fa (.ld ?_))))))));refine .pu .mv ?_;refine .lo (.lu2 (o:=some (S s)) ((Rz k σ.ls).trans (by rw[hl];rfl))) .l1 ?_;refine .pu .mv (.pu .ex (.pu .ex (.pu .as (.pu .as (.nil (.seq (.region (.pu .mv (.nil ?_)))))))));refine .yes rfl (.seq (.region (.pu .mv (.pu .as (.pu .as (.nil (.ret ?_)))))));exact⟨_,.tmp rfl (.tmp rfl .nil),_,_,.refl _ _,rfl,rfl,rfl⟩
theorem Zpe(p:Nat)(σ:PSt)(b:Nat×Nat)(k:Int)(s:Bs)(h0:0≤k)(h1:k<σ.n)(hl:s.length≤160):Sp SET 139 [.pointer (some ⟨p,0,none⟩),.int .i64 k,S s] (pgL p σ b++L) P (fun r L' P'=>r=.int .i64 0∧L'=pgL p {σ with w:=Jr σ.w k s} b++L∧P'=P):=by
 refine .bo (fn:=Tryz.f139) (N:=21) ?_;refine .seq (.region (.pu .as (.nil (.seq (.block (.seq (.region (.pu .mv (.pu .mv ?_)))))))));refine .call (Zfn _ _ _ _ _ _ h0 h1) ?_;rintro _ L P ⟨rfl,rfl,rfl⟩;refine .pu .nt (.pu .as (.nil ?_));refine .no rfl (.seq (.region (.pu .mv (.pu .ls (.pu .cn (.pu .as (.nil ?_)))))));refine .no rfl (.skip (.seq (.region (.pu .mv (.pu .nc (.pu .fa (.ld ?_)))))));refine .pu .mv (.pu .mv (.mu (Zjx k s σ.w) (.nil (.seq (.region (.pu .as (.nil (.ret ?_))))))));exact⟨_,.tmp rfl .nil,_,_,.refl _ _,rfl,rfl,rfl⟩
theorem Zfo(r:Nat)(es:List (Value×Value))(hm:In (Mp r es) L P):Sp SET 236 [.map (some r)] L P (fun v L' P'=>∃b,v=.map (some b)∧L'=Mp b es::L∧P'=P):=by
 refine .bo (fn:=Tryz.f236) (N:=8) ?_;refine .seq (.region (.pu .as (.nil (.seq (.seq (.region (.pu .mv (.pu .peq (.nil ?_)))))))));refine .no rfl (.skip (.seq (.region (.pu .mv (.pu .mi ?_)))));refine .call (Zxf (by kernel_rfl) _ r es hm) ?_;rintro _ L P ⟨b,rfl,rfl,rfl⟩;refine .pu .ta (.pu .as (.nil (.ret ?_)));exact⟨_,.tmp rfl .nil,_,_,.refl _ _,b,rfl,rfl,rfl⟩
def mkL(m p:Nat)(w:List (Int×Bs))(turn:Int)(b:Nat):List Asn:=[Pt m [.pointer (some ⟨p,0,none⟩),.map (some b),.int .i64 turn] (tz 0 331),Mp b (Kk w)]
theorem Zpf(p:Nat)(σ:PSt)(b:Nat×Nat):Sp SET 193 [.pointer (some ⟨p,0,none⟩)] (pgL p σ b++L) P (fun r L' P'=>∃m b',r=.pointer (some ⟨m,0,none⟩)∧L'=mkL m p σ.w σ.turn b'++(pgL p σ b++L)∧P'=P):=by
 refine .bo (fn:=Tryz.f193) (N:=16) ?_;refine .seq (.region (.pu .as (.nil (.seq (.seq (.region (.pu .mv (.pu .peq (.nil ?_)))))))));refine .no rfl (.skip ?_);refine .seq (.drawn (by kernel_rfl) fun base=>?_);refine .pu .mv (.pu .mv (.pu .nc (.pu .fa (.lo 0 0 .ld .mk ?_))));refine .call (Zfo _ _ b.2 _ .l2) ?_;rintro _ L P ⟨b',rfl,rfl,rfl⟩;refine .pu .mv (.pu .nc (.pu .fa (.lo 0 1 .ld .mk ?_)));refine .pu (.bd (vs:=[_,_,_])) ?_;refine .bx (cs:=[_,_,_]) (hlt:=by show∀x∈([]:Yh),_;simp) fun b16=>?_;refine .pu .as (.nil (.cons (.yes .mk (.yes .mk .nil)) (.cons (.yes .mk (.skip .nil)) .nil)) (.ret ?_));exact⟨_,.tmp rfl .nil,_,_,.refl _ _,b16,b',rfl,rfl,rfl⟩
theorem Zpg{A B C D:Asn}{R:List Asn}:(A::B::C::D::R).Perm (D::B::C::A::R):=
 (List.Perm.swap B A _).trans (((List.Perm.swap C A _).cons B).trans ((((List.Perm.swap D A _).cons C).cons B).trans ((((List.Perm.swap D C _)).cons B).trans (List.Perm.swap D B _))))
theorem Zph(p m:Nat)(σ:PSt)(b:Nat×Nat)(w:List (Int×Bs))(bm:Nat):Sp SET 194 [.pointer (some ⟨p,0,none⟩),.pointer (some ⟨m,0,none⟩)] (pgL p σ b++(mkL m p w σ.turn bm++L)) P (fun r L' P'=>∃b',r=.int .i64 0∧L'=pgL p {σ with w:=w} (b.1,b')++(mkL m p w σ.turn bm++L)∧P'=P):=by
 refine .bo (fn:=Tryz.f194) (N:=37) ?_;refine .seq (.region (.pu .as (.nil ?_)));refine .seq (.seq (.quiet (by kernel_rfl) ?_));refine .pu .mv (.pu .peq (.pu .mv (.on (.pu .mv (.on (.pu .peq (.pu .pk (.pu .mv (.on (.pu .mv (.on (.pu .nc (.on (.pu .fa (.on (.ld ?_))))))))))))))));refine .on (.pu .mv (.on (.pu .pdiff (.pu .pk (.pu .mv (.on (.pu .mv (.on (.pu .nc (.on (.pu .fa (.on (.ld ?_)))))))))))));refine .on (.pu .mv (.on (.pu .nc (.on (.pu .fa (.on (.ld ?_)))))));refine .on (.pu (.cn (hq:=by simp[Vu])) ?_);refine .pu .pk (.nil ?_);refine .no rfl (.skip (.seq (.region (.pu .mv (.pu .mv (.pu .nc (.pu .fa (.ld ?_))))))));refine .call (Zfo _ _ bm _ .l4) ?_;rintro _ L P ⟨b',rfl,rfl,rfl⟩;refine .pu .nc (.pu .fa (.st (vs:=[_]) ?_));refine .nil (.seq (.region (.pu .as (.nil (.ret ?_)))));exact⟨_,.tmp rfl .nil,_,_,(Ent.trans (.perm Zpg) Ent.drop),b',rfl,rfl,rfl⟩
theorem Sp.fact{E:Env}{L P:List Asn}{p:Prop}{f:FuncId}{args:List Value}{Q:Value→List Asn→List Asn→Prop}(hf:∀S s,Sat L P S s→p)(h:p→Sp E f args L P Q):Sp E f args L P Q:=fun S s hs=>h (hf S s hs) S s hs
theorem Fs{L P:List Asn}{k:Nat}{v:Value}{es:List (List Value)}(h:Zj k v es L P)(S:Nat→Prop)(s:AS)(hs:Sat L P S s):(es=[]∧∃c,v=.slice none 0 c)∨∃a c,v=.slice (some a) es.length c:=by
 obtain⟨a,c,h1,h2⟩:=h.holds hs;cases a with
 |some a=>exact .inr ⟨a,c,h1⟩
 |none=>
  rcases h2 with h2|⟨b,o,m,z,t,e,_⟩
  ·subst h2;exact .inl ⟨rfl,c,h1⟩
  ·cases e
theorem Ft{xs:List (Value×List (List Value))}(hc:∀x∈xs,x.2.length≤1000):∀i,i≤xs.length→((xs.take i).flatMap (·.2)).length≤1000*i
 |0,_=>by simp
 |i+1,h=>by
  have ih:=Ft hc i (by omega);have hi:=hc xs[i] (List.getElem_mem (by omega));rw[List.take_add_one,List.getElem?_eq_getElem (show i<xs.length by omega),List.flatMap_append,List.length_append];simp only[Option.toList_some,List.flatMap_cons,List.flatMap_nil,List.append_nil];omega
theorem M8{xs:List (Value×List (List Value))}{i:Nat}(h:i<xs.length):(xs.take (i+1)).flatMap (·.2)=(xs.take i).flatMap (·.2)++xs[i].2:=by
 rw[List.take_add_one,List.getElem?_eq_getElem h,List.flatMap_append];simp only[Option.toList_some,List.flatMap_cons,List.flatMap_nil,List.append_nil]
theorem Zpi(c:Nat):Sp SET 151 [.slice none 0 c] L P (fun r L' P'=>L'=OwF 42 2 r []::L∧P'=P):=by
 refine .bo (fn:=Tryz.f151) (N:=7) ?_;refine .seq (.region (.pu .as (.nil (.seq (.seq (.region (.pu .mv (.pu .peq (.nil ?_)))))))));refine .yes rfl (.seq (.region (.pu .as (.nil (.ret ?_)))));exact⟨_,.tmp rfl .nil,_,_,(Ent.nonef (k:=2) (e:=42)),rfl,rfl⟩
theorem Zpj(a:Addr)(c:Nat)(es:List (List Value))(hv:Zj 2 (.slice (some a) es.length c) es L P)(hl:es.length≤1000000)(ho:∀f∈es,ones f=true):Sp SET 151 [.slice (some a) es.length c] L P (fun r L' P'=>L'=OwF 42 2 r es::L∧P'=P):=by
 refine .bo (fn:=Tryz.f151) (N:=7) ?_;refine .seq (.region (.pu .as (.nil (.seq (.seq (.region (.pu .mv (.pu .peq (.nil ?_)))))))));refine .no rfl (.skip (.seq (.region ?_)));refine .bl0 (e:=42) (k:=2) fun b5=>?_;refine .pu .mv ?_;refine .apf (.sl hv.bel) (fun v7=>?_) (hn:=by rw[List.length_nil];show(0+es.length)*32≤_;omega) (ho:=ho);refine .pu .as (.nil (.ret ?_));exact⟨_,.tmp rfl .nil,_,_,.refl _ _,rfl,rfl⟩
theorem Zad(v:Value)(es:List (List Value))(hv:Zj 2 v es L P)(hl:es.length≤1000000)(ho:∀f∈es,ones f=true):Sp SET 151 [v] L P (fun r L' P'=>L'=OwF 42 2 r es::L∧P'=P):=
 Sp.fact (Fs hv) (fun h=>by
  rcases h with⟨rfl,c,rfl⟩|⟨a,c,rfl⟩
  ·exact Zpi L P c
  ·exact Zpj L P a c es hv hl ho)
theorem Zpk:Sp SET 244 [.slice none 0 0,.int .i64 0] L P (fun r L' P'=>L'=Ow 2 r []::L∧P'=P):=by
 refine .bo (fn:=Tryz.f244) (N:=26) ?_;refine .seq (.region (.pu .as (.nil (.seq (.seq (.region (.pu .mv (.pu .cn (.nil ?_)))))))));refine .no rfl (.skip (.seq (.seq (.region (.pu .mv (.pu .mv (.ent (Ent.none (k:=2)) ?_)))))));refine .pu .cap0 (.pu .mv (.lk (.ln (k:=2) (es:=[]) (hm:=.o .l0)) ?_));rw[List.length_nil];refine .pu .sub (.pu .sub (.pu .as (.nil (.seq (.region (.pu .mv (.pu .cn (.nil ?_))))))));refine .no rfl (.skip (.seq (.region (.pu .mv (.pu .as (.nil (.ret ?_)))))));exact⟨_,.tmp rfl .nil,_,_,.refl _ _,rfl,rfl⟩
theorem Zpl(n:Nat)(hn:n≠0)(hl:n≤1000000):Sp SET 244 [.slice none 0 0,.int .i64 (n:Nat)] L P (fun r L' P'=>L'=Ow 2 r []::L∧P'=P):=by
 refine .bo (fn:=Tryz.f244) (N:=26) ?_;refine .seq (.region (.pu .as (.nil (.seq (.seq (.region (.pu .mv (.pu .cn (.nil ?_)))))))));refine .no rfl (.skip (.seq (.seq (.region (.pu .mv (.pu .mv (.ent (Ent.none (k:=2)) ?_)))))));refine .pu .cap0 (.pu .mv (.lk (.ln (k:=2) (es:=[]) (hm:=.o .l0)) ?_));rw[List.length_nil];refine .pu .sub (.pu .sub (.pu .as (.nil (.seq (.region (.pu .mv (.pu .cy (.nil ?_))))))));refine .yes rfl (.region (.pu .mv (.pu .mv (.pu .cap0 ?_))));refine .sl (k:=2) (p:=0) (q:=0) (es:=[]) (.o .l0) rfl (fun m hm=>bdn (n:=0) (hn:=Nat.zero_le _)) ?_;refine .pu .mv ?_;refine .apzero (k:=2) (m:=n) hn (fun b22=>?_) (hn:=by show n*32≤_;omega);refine .pu .mv (.lk (.ln (k:=2) (es:=[]) (hm:=.o .l1)) ?_);rw[List.length_nil];refine .sl (k:=2) (p:=0) (q:=0) (es:=List.replicate n _) (.f (fun _ _=>OwF.sl) .l0) rfl (fun m hm=>bdn (n:=0) (hn:=Nat.zero_le _)) ?_
 refine .pu .as (.nil (.seq (.region (.pu .mv (.pu .as (.nil (.ret ?_)))))));exact⟨_,.tmp rfl .nil,_,_,(Ent.ofF.trans ((Ent.owp (q:=0) (Nat.zero_le _)).trans (Ent.swap.trans Ent.drop))),rfl,rfl⟩
theorem Zpm(n:Nat)(hl:n≤1000000):Sp SET 244 [.slice none 0 0,.int .i64 (n:Nat)] L P (fun r L' P'=>L'=Ow 2 r []::L∧P'=P):=by
 by_cases hn:n=0
 ·subst hn;exact Zpk L P
 ·exact Zpl L P n hn hl
theorem Zpn(v:Value)(xs:List (Value×List (List Value)))(hv:Zj 1 v (xs.map fun x=>[x.1]) L P)(hx:∀x∈xs,Zj 2 x.1 x.2 L P)(hl:xs.length≤1000)(hc:∀x∈xs,x.2.length≤1000)(ho:∀x∈xs,∀f∈x.2,ones f=true):Sp SET 216 [v] L P (fun r L' P'=>L'=Ow 2 r (xs.flatMap (·.2))::L∧P'=P):=by
 refine .bo (fn:=Tryz.f216) (N:=35) ?_;refine .seq (.region (.pu .as (.nil (.seq (.region (.pu .as (.nil (.seq (.seq (.region (.pu .mv (.lk .ln ?_))))))))))));refine .pu .mv (.nil ?_);refine .block (W.loop (fun i:Nat=>i≤xs.length) (fun i=>xs.length-i) (fun i=>[(11,.int .i64 (i:Nat)),(10,.int .i64 (xs.map fun x=>[x.1]).length),(9,v),(3,.int .i64 ((xs.take i).flatMap (·.2)).length),(0,v)]) (fun _=>L) (fun _=>P) 0 (Nat.zero_le _) ⟨rfl,rfl,rfl,rfl,rfl,trivial⟩ (.refl _ _) (fun i hi=>?_));have hlen:(xs.map fun x=>[x.1]).length=xs.length:=List.length_map ..;have hcat:∀i,i≤xs.length→((xs.take i).flatMap (·.2)).length≤1000*i:=Ft hc;by_cases hlt:i<xs.length
 ·refine .seq (.region (.pu .cy (.nil (.seq (.yes rfl (.skip (.seq (.block (.seq (.region ?_))))))))));have hg:(xs.map fun x=>[x.1])[((i:Nat):Int).toNat]? =some [xs[i].1]:=by simp[hlt]
  have hs:=M8 hlt;have hb:=hcat (i+1) hlt;have hs2:=congrArg List.length hs;rw[List.length_append]at hs2;have hxi:=hx _ (List.getElem_mem hlt);refine .lk .ia ?_;refine .le hg ?_;refine .pu .as (.nil (.seq (.region (.pu .mv (.pu .mv (.lk (.ln (hm:=hxi)) ?_))))));refine .pu .add (.pu .as (.nil (.seq (.region (.pu .mv (.pu .cn (.nil ?_)))))));refine .no rfl (.skip (.region (.pu .add (.pu .mv (.nil ?_)))));refine⟨i+1,hlt,by show xs.length-(i+1)<xs.length-i;omega,⟨rfl,rfl,rfl,?_,rfl,trivial⟩,.refl _ _⟩;show some (Value.int .i64 _)=some (Value.int .i64 _);rw[hs,List.length_append];rfl
 ·refine .seq (.region ?_);have e:xs.take i=xs:=List.take_of_length_le (by omega);have hall:=hcat xs.length (Nat.le_refl _);rw[List.take_of_length_le (Nat.le_refl _)]at hall;rw[e];refine .pu .cn (.nil (.seq (.no rfl (.exit (.seq (.region (.pu .mv ?_)))))));refine .call (Zpm _ _ (xs.flatMap (·.2)).length (by omega)) ?_;rintro _ _ P ⟨rfl,rfl⟩;refine .pu .as (.nil (.seq (.seq (.region (.pu .mv (.lk (.ln (hm:=hv.bel)) ?_))))));refine .pu .mv (.nil ?_);refine .block (W.loop (fun a:Nat×Value=>a.1≤xs.length) (fun a=>xs.length-a.1) (fun a=>[(27,.int .i64 (a.1:Nat)),(26,.int .i64 (xs.map fun x=>[x.1]).length),(25,v),(6,a.2)]) (fun a=>Ow 2 a.2 ((xs.take a.1).flatMap (·.2))::L) (fun _=>P) (0,_) (Nat.zero_le _) ⟨rfl,rfl,rfl,rfl,trivial⟩ (.refl _ _) (fun⟨i,r⟩ hi=>?_));by_cases hlt2:i<xs.length
  ·refine .seq (.region (.pu .cy (.nil (.seq (.yes rfl (.skip (.seq (.block (.seq (.region ?_))))))))));have hg:(xs.map fun x=>[x.1])[((i:Nat):Int).toNat]? =some [xs[i].1]:=by simp[hlt2]
   have hs:=M8 hlt2;have hb:=hcat (i+1) hlt2;have hs2:=congrArg List.length hs;rw[List.length_append]at hs2;have hxi:=hx _ (List.getElem_mem hlt2);refine .lk (.ia (hm:=hv.bel)) ?_;refine .le hg ?_ (hm:=hv.bel);refine .pu .as (.nil (.region (.pu .mv (.pu .mv ?_))));refine .ap (fun v33=>?_) (hw:=hxi.bel) (hn:=by show(((xs.take i).flatMap (·.2)).length+xs[i].2.length)*32≤_;omega) (ho:=ho _ (List.getElem_mem hlt2));refine .pu .as (.nil (.region (.pu .add (.pu .mv (.nil ?_)))));refine⟨(i+1,_),hlt2,by show xs.length-(i+1)<xs.length-i;omega,⟨rfl,rfl,rfl,rfl,trivial⟩,?_⟩;show Ent _ _ (Ow 2 _ ((xs.take (i+1)).flatMap (·.2))::L) P;rw[hs];exact .refl _ _
  ·refine .seq (.region (.pu .cn (.nil (.seq (.no rfl (.exit (.seq (.region (.pu .mv (.pu .as (.nil (.ret ?_))))))))))));refine⟨_,.tmp rfl .nil,_,_,.refl _ _,?_,rfl⟩;have e:xs.take i=xs:=List.take_of_length_le (Nat.le_of_not_lt hlt2);rw[e];rfl
theorem Zpo(c:Nat):Sp SET 205 [.slice none 0 c] L P (fun r L' P'=>L'=OwF 3 1 r []::L∧P'=P):=by
 refine .bo (fn:=Tryz.f205) (N:=7) ?_;refine .seq (.region (.pu .as (.nil (.seq (.seq (.region (.pu .mv (.pu .peq (.nil ?_)))))))));refine .yes rfl (.seq (.region (.pu .as (.nil (.ret ?_)))));exact⟨_,.tmp rfl .nil,_,_,(Ent.nonef (k:=1) (e:=3)),rfl,rfl⟩
theorem Zpp(a:Addr)(c:Nat)(es:List (List Value))(hv:Zj 1 (.slice (some a) es.length c) es L P)(hl:es.length≤1000000)(ho:∀f∈es,ones f=true):Sp SET 205 [.slice (some a) es.length c] L P (fun r L' P'=>L'=OwF 3 1 r es::L∧P'=P):=by
 refine .bo (fn:=Tryz.f205) (N:=7) ?_;refine .seq (.region (.pu .as (.nil (.seq (.seq (.region (.pu .mv (.pu .peq (.nil ?_)))))))));refine .no rfl (.skip (.seq (.region ?_)));refine .bl0 (e:=3) (k:=1) fun b5=>?_;refine .pu .mv ?_;refine .apf (.sl hv.bel) (fun v7=>?_) (hn:=by rw[List.length_nil];show(0+es.length)*8≤_;omega) (ho:=ho);refine .pu .as (.nil (.ret ?_));exact⟨_,.tmp rfl .nil,_,_,.refl _ _,rfl,rfl⟩
theorem Zae(v:Value)(es:List (List Value))(hv:Zj 1 v es L P)(hl:es.length≤1000000)(ho:∀f∈es,ones f=true):Sp SET 205 [v] L P (fun r L' P'=>L'=OwF 3 1 r es::L∧P'=P):=
 Sp.fact (Fs hv) (fun h=>by
  rcases h with⟨rfl,c,rfl⟩|⟨a,c,rfl⟩
  ·exact Zpo L P c
  ·exact Zpp L P a c es hv hl ho)
theorem Zpq(b c i p:Nat)(es:List (List Value))(hip:i<p)(hp:p≤es.length)(hc:es.length≤c/2)(hl:es.length≤1000000)(ho:∀f∈es,ones f=true):Sp SET 204 [.slice (some ⟨b,0,none⟩) es.length c,.int .i64 (i:Nat),.int .i64 (p:Nat)] (Ow 1 (.slice (some ⟨b,0,none⟩) es.length c) es::L) P (fun r L' P'=>r=.slice (some ⟨b,0,none⟩) (i+(es.length-p)) c∧L'=Ow 1 r (es.take i++es.drop p)::L∧P'=P):=by
 refine .bo (fn:=Tryz.f204) (N:=32) ?_;refine .seq (.region (.pu .as (.nil (.seq (.region (.pu .mv (.pu .mv (.pu .mv (.pu .mv (.lk .ln ?_))))))))));refine .pu (.sl3 (k:=1) (p:=i) (q:=p) (m:=es.length) hc hp (by omega)) ?_;refine .nil (.seq (.seq (.region (.pu .mv (.pu .mv (.pu .cn (.nil ?_)))))));refine .no rfl (.skip (.seq (.region (.pu .mv (.lk .ln ?_)))));refine .pu .as (.nil ?_);refine .seq (.drawn (by kernel_rfl) fun base=>?_);refine .pu .mv (.pu .mv ?_);refine .lo 0 0 (.sl (k:=1) (p:=0) (q:=i) (es:=es) rfl (fun m hm=>bdn)) (.o .l0) ?_;refine .pu .mv (.pu .mv ?_);refine .lo 0 0 (.sl (k:=1) (p:=p) (q:=es.length) (es:=es) bdn (fun m hm=>rfl)) (.o .l0) ?_;refine .wo (WO.apself (k:=1) (i:=i) (p:=p) (es:=es) rfl rfl rfl rfl rfl rfl rfl rfl .z rfl (by omega) hp (by show es.length*8≤_;omega) ho ?_);refine .pu .as (.nil (.cons (.yes (.o .l0) (.skip .nil)) (.cons (.yes (.o .l0) (.skip .nil)) .nil)) (.seq (.region (.pu .mv (.pu .mv ?_)))))
 have hlen:(es.take i++es.drop p).length=i+(es.length-p):=by rw[List.length_append,List.length_take,List.length_drop];omega
 refine .lk .ln ?_;refine .pu .mv ?_;refine .slb (k:=1) .l0 (bdn (n:=(es.take i++es.drop p).length) (hn:=by omega)) (bdn (n:=es.length)) hc ?_;refine .clrt (k:=1) (b:=b) (o:=0+(es.take i++es.drop p).length*1) (es:=es.take i++es.drop p) (r:=es.length-(es.take i++es.drop p).length) ?_ .z (by omega) (by omega) (.inr (by omega));refine .nil (.seq (.region (.pu .mv (.pu .as (.nil (.ret ?_))))));exact⟨_,.tmp rfl .nil,_,_,.refl _ _,rfl,rfl,rfl⟩
theorem Zpr:Sp SET 245 [.slice none 0 0,.int .i64 0] L P (fun r L' P'=>L'=Ow 1 r []::L∧P'=P):=by
 refine .bo (fn:=Tryz.f245) (N:=26) ?_;refine .seq (.region (.pu .as (.nil (.seq (.seq (.region (.pu .mv (.pu .cn (.nil ?_)))))))));refine .no rfl (.skip (.seq (.seq (.region (.pu .mv (.pu .mv (.ent (Ent.none (k:=1)) ?_)))))));refine .pu .cap0 (.pu .mv (.lk (.ln (k:=1) (es:=[]) (hm:=.o .l0)) ?_));rw[List.length_nil];refine .pu .sub (.pu .sub (.pu .as (.nil (.seq (.region (.pu .mv (.pu .cn (.nil ?_))))))));refine .no rfl (.skip (.seq (.region (.pu .mv (.pu .as (.nil (.ret ?_)))))));exact⟨_,.tmp rfl .nil,_,_,.refl _ _,rfl,rfl⟩
theorem Zps(n:Nat)(hn:n≠0)(hl:n≤1000000):Sp SET 245 [.slice none 0 0,.int .i64 (n:Nat)] L P (fun r L' P'=>L'=Ow 1 r []::L∧P'=P):=by
 refine .bo (fn:=Tryz.f245) (N:=26) ?_;refine .seq (.region (.pu .as (.nil (.seq (.seq (.region (.pu .mv (.pu .cn (.nil ?_)))))))));refine .no rfl (.skip (.seq (.seq (.region (.pu .mv (.pu .mv (.ent (Ent.none (k:=1)) ?_)))))));refine .pu .cap0 (.pu .mv (.lk (.ln (k:=1) (es:=[]) (hm:=.o .l0)) ?_));rw[List.length_nil];refine .pu .sub (.pu .sub (.pu .as (.nil (.seq (.region (.pu .mv (.pu .cy (.nil ?_))))))));refine .yes rfl (.region (.pu .mv (.pu .mv (.pu .cap0 ?_))));refine .sl (k:=1) (p:=0) (q:=0) (es:=[]) (.o .l0) rfl (fun m hm=>bdn (n:=0) (hn:=Nat.zero_le _)) ?_;refine .pu .mv ?_;refine .apzero (k:=1) (m:=n) hn (fun b22=>?_) (hn:=by show n*8≤_;omega);refine .pu .mv (.lk (.ln (k:=1) (es:=[]) (hm:=.o .l1)) ?_);rw[List.length_nil];refine .sl (k:=1) (p:=0) (q:=0) (es:=List.replicate n _) (.f (fun _ _=>OwF.sl) .l0) rfl (fun m hm=>bdn (n:=0) (hn:=Nat.zero_le _)) ?_
 refine .pu .as (.nil (.seq (.region (.pu .mv (.pu .as (.nil (.ret ?_)))))));exact⟨_,.tmp rfl .nil,_,_,(Ent.ofF.trans ((Ent.owp (q:=0) (Nat.zero_le _)).trans (Ent.swap.trans Ent.drop))),rfl,rfl⟩
theorem Zpt(n:Nat)(hl:n≤1000000):Sp SET 245 [.slice none 0 0,.int .i64 (n:Nat)] L P (fun r L' P'=>L'=Ow 1 r []::L∧P'=P):=by
 by_cases hn:n=0
 ·subst hn;exact Zpr L P
 ·exact Zps L P n hn hl
theorem Zpu(v:Value)(xs:List (Value×List (List Value)))(hv:Zj 1 v (xs.map fun x=>[x.1]) L P)(hx:∀x∈xs,Zj 1 x.1 x.2 L P)(hl:xs.length≤1000)(hc:∀x∈xs,x.2.length≤1000)(ho:∀x∈xs,∀f∈x.2,ones f=true):Sp SET 217 [v] L P (fun r L' P'=>L'=Ow 1 r (xs.flatMap (·.2))::L∧P'=P):=by
 refine .bo (fn:=Tryz.f217) (N:=35) ?_;refine .seq (.region (.pu .as (.nil (.seq (.region (.pu .as (.nil (.seq (.seq (.region (.pu .mv (.lk .ln ?_))))))))))));refine .pu .mv (.nil ?_);refine .block (W.loop (fun i:Nat=>i≤xs.length) (fun i=>xs.length-i) (fun i=>[(11,.int .i64 (i:Nat)),(10,.int .i64 (xs.map fun x=>[x.1]).length),(9,v),(3,.int .i64 ((xs.take i).flatMap (·.2)).length),(0,v)]) (fun _=>L) (fun _=>P) 0 (Nat.zero_le _) ⟨rfl,rfl,rfl,rfl,rfl,trivial⟩ (.refl _ _) (fun i hi=>?_));have hlen:(xs.map fun x=>[x.1]).length=xs.length:=List.length_map ..;have hcat:∀i,i≤xs.length→((xs.take i).flatMap (·.2)).length≤1000*i:=Ft hc;by_cases hlt:i<xs.length
 ·refine .seq (.region (.pu .cy (.nil (.seq (.yes rfl (.skip (.seq (.block (.seq (.region ?_))))))))));have hg:(xs.map fun x=>[x.1])[((i:Nat):Int).toNat]? =some [xs[i].1]:=by simp[hlt]
  have hs:=M8 hlt;have hb:=hcat (i+1) hlt;have hs2:=congrArg List.length hs;rw[List.length_append]at hs2;have hxi:=hx _ (List.getElem_mem hlt);refine .lk .ia ?_;refine .le hg ?_;refine .pu .as (.nil (.seq (.region (.pu .mv (.pu .mv (.lk (.ln (hm:=hxi)) ?_))))));refine .pu .add (.pu .as (.nil (.seq (.region (.pu .mv (.pu .cn (.nil ?_)))))));refine .no rfl (.skip (.region (.pu .add (.pu .mv (.nil ?_)))));refine⟨i+1,hlt,by show xs.length-(i+1)<xs.length-i;omega,⟨rfl,rfl,rfl,?_,rfl,trivial⟩,.refl _ _⟩;show some (Value.int .i64 _)=some (Value.int .i64 _);rw[hs,List.length_append];rfl
 ·refine .seq (.region ?_);have e:xs.take i=xs:=List.take_of_length_le (by omega);have hall:=hcat xs.length (Nat.le_refl _);rw[List.take_of_length_le (Nat.le_refl _)]at hall;rw[e];refine .pu .cn (.nil (.seq (.no rfl (.exit (.seq (.region (.pu .mv ?_)))))));refine .call (Zpt _ _ (xs.flatMap (·.2)).length (by omega)) ?_;rintro _ _ P ⟨rfl,rfl⟩;refine .pu .as (.nil (.seq (.seq (.region (.pu .mv (.lk (.ln (hm:=hv.bel)) ?_))))));refine .pu .mv (.nil ?_);refine .block (W.loop (fun a:Nat×Value=>a.1≤xs.length) (fun a=>xs.length-a.1) (fun a=>[(27,.int .i64 (a.1:Nat)),(26,.int .i64 (xs.map fun x=>[x.1]).length),(25,v),(6,a.2)]) (fun a=>Ow 1 a.2 ((xs.take a.1).flatMap (·.2))::L) (fun _=>P) (0,_) (Nat.zero_le _) ⟨rfl,rfl,rfl,rfl,trivial⟩ (.refl _ _) (fun⟨i,r⟩ hi=>?_));by_cases hlt2:i<xs.length
  ·refine .seq (.region (.pu .cy (.nil (.seq (.yes rfl (.skip (.seq (.block (.seq (.region ?_))))))))));have hg:(xs.map fun x=>[x.1])[((i:Nat):Int).toNat]? =some [xs[i].1]:=by simp[hlt2]
   have hs:=M8 hlt2;have hb:=hcat (i+1) hlt2;have hs2:=congrArg List.length hs;rw[List.length_append]at hs2;have hxi:=hx _ (List.getElem_mem hlt2);refine .lk (.ia (hm:=hv.bel)) ?_;refine .le hg ?_ (hm:=hv.bel);refine .pu .as (.nil (.region (.pu .mv (.pu .mv ?_))));refine .ap (fun v33=>?_) (hw:=hxi.bel) (hn:=by show(((xs.take i).flatMap (·.2)).length+xs[i].2.length)*8≤_;omega) (ho:=ho _ (List.getElem_mem hlt2));refine .pu .as (.nil (.region (.pu .add (.pu .mv (.nil ?_)))));refine⟨(i+1,_),hlt2,by show xs.length-(i+1)<xs.length-i;omega,⟨rfl,rfl,rfl,rfl,trivial⟩,?_⟩;show Ent _ _ (Ow 1 _ ((xs.take (i+1)).flatMap (·.2))::L) P;rw[hs];exact .refl _ _
  ·refine .seq (.region (.pu .cn (.nil (.seq (.no rfl (.exit (.seq (.region (.pu .mv (.pu .as (.nil (.ret ?_))))))))))));refine⟨_,.tmp rfl .nil,_,_,.refl _ _,?_,rfl⟩;have e:xs.take i=xs:=List.take_of_length_le (Nat.le_of_not_lt hlt2);rw[e];rfl
theorem Zpv(c:Nat):Sp SET 206 [.slice none 0 c] L P (fun r L' P'=>L'=OwF 9 1 r []::L∧P'=P):=by
 refine .bo (fn:=Tryz.f206) (N:=7) ?_;refine .seq (.region (.pu .as (.nil (.seq (.seq (.region (.pu .mv (.pu .peq (.nil ?_)))))))));refine .yes rfl (.seq (.region (.pu .as (.nil (.ret ?_)))));exact⟨_,.tmp rfl .nil,_,_,(Ent.nonef (k:=1) (e:=9)),rfl,rfl⟩
theorem Zpw(a:Addr)(c:Nat)(es:List (List Value))(hv:Zj 1 (.slice (some a) es.length c) es L P)(hl:es.length≤1000000)(ho:∀f∈es,ones f=true):Sp SET 206 [.slice (some a) es.length c] L P (fun r L' P'=>L'=OwF 9 1 r es::L∧P'=P):=by
 refine .bo (fn:=Tryz.f206) (N:=7) ?_;refine .seq (.region (.pu .as (.nil (.seq (.seq (.region (.pu .mv (.pu .peq (.nil ?_)))))))));refine .no rfl (.skip (.seq (.region ?_)));refine .bl0 (e:=9) (k:=1) fun b5=>?_;refine .pu .mv ?_;refine .apf (.sl hv.bel) (fun v7=>?_) (hn:=by rw[List.length_nil];show(0+es.length)*16≤_;omega) (ho:=ho);refine .pu .as (.nil (.ret ?_));exact⟨_,.tmp rfl .nil,_,_,.refl _ _,rfl,rfl⟩
theorem Zaf(v:Value)(es:List (List Value))(hv:Zj 1 v es L P)(hl:es.length≤1000000)(ho:∀f∈es,ones f=true):Sp SET 206 [v] L P (fun r L' P'=>L'=OwF 9 1 r es::L∧P'=P):=
 Sp.fact (Fs hv) (fun h=>by
  rcases h with⟨rfl,c,rfl⟩|⟨a,c,rfl⟩
  ·exact Zpv L P c
  ·exact Zpw L P a c es hv hl ho)
theorem Zfp(b c i p:Nat)(es:List (List Value))(hip:i<p)(hp:p≤es.length)(hc:es.length≤c/2)(hl:es.length≤1000000)(ho:∀f∈es,ones f=true):Sp SET 196 [.slice (some ⟨b,0,none⟩) es.length c,.int .i64 (i:Nat),.int .i64 (p:Nat)] (Ow 1 (.slice (some ⟨b,0,none⟩) es.length c) es::L) P (fun r L' P'=>r=.slice (some ⟨b,0,none⟩) (i+(es.length-p)) c∧L'=Ow 1 r (es.take i++es.drop p)::L∧P'=P):=by
 refine .bo (fn:=Tryz.f196) (N:=32) ?_;refine .seq (.region (.pu .as (.nil (.seq (.region (.pu .mv (.pu .mv (.pu .mv (.pu .mv (.lk .ln ?_))))))))));refine .pu (.sl3 (k:=1) (p:=i) (q:=p) (m:=es.length) hc hp (by omega)) ?_;refine .nil (.seq (.seq (.region (.pu .mv (.pu .mv (.pu .cn (.nil ?_)))))));refine .no rfl (.skip (.seq (.region (.pu .mv (.lk .ln ?_)))));refine .pu .as (.nil ?_);refine .seq (.drawn (by kernel_rfl) fun base=>?_);refine .pu .mv (.pu .mv ?_);refine .lo 0 0 (.sl (k:=1) (p:=0) (q:=i) (es:=es) rfl (fun m hm=>bdn)) (.o .l0) ?_;refine .pu .mv (.pu .mv ?_);refine .lo 0 0 (.sl (k:=1) (p:=p) (q:=es.length) (es:=es) bdn (fun m hm=>rfl)) (.o .l0) ?_;refine .wo (WO.apself (k:=1) (i:=i) (p:=p) (es:=es) rfl rfl rfl rfl rfl rfl rfl rfl .z rfl (by omega) hp (by show es.length*16≤_;omega) ho ?_);refine .pu .as (.nil (.cons (.yes (.o .l0) (.skip .nil)) (.cons (.yes (.o .l0) (.skip .nil)) .nil)) (.seq (.region (.pu .mv (.pu .mv ?_)))))
 have hlen:(es.take i++es.drop p).length=i+(es.length-p):=by rw[List.length_append,List.length_take,List.length_drop];omega
 refine .lk .ln ?_;refine .pu .mv ?_;refine .slb (k:=1) .l0 (bdn (n:=(es.take i++es.drop p).length) (hn:=by omega)) (bdn (n:=es.length)) hc ?_;refine .clrt (k:=1) (b:=b) (o:=0+(es.take i++es.drop p).length*1) (es:=es.take i++es.drop p) (r:=es.length-(es.take i++es.drop p).length) ?_ .z (by omega) (by omega) (.inr (by omega));refine .nil (.seq (.region (.pu .mv (.pu .as (.nil (.ret ?_))))));exact⟨_,.tmp rfl .nil,_,_,.refl _ _,rfl,rfl,rfl⟩
theorem Zpx:Sp SET 246 [.slice none 0 0,.int .i64 0] L P (fun r L' P'=>L'=Ow 1 r []::L∧P'=P):=by
 refine .bo (fn:=Tryz.f246) (N:=26) ?_;refine .seq (.region (.pu .as (.nil (.seq (.seq (.region (.pu .mv (.pu .cn (.nil ?_)))))))));refine .no rfl (.skip (.seq (.seq (.region (.pu .mv (.pu .mv (.ent (Ent.none (k:=1)) ?_)))))));refine .pu .cap0 (.pu .mv (.lk (.ln (k:=1) (es:=[]) (hm:=.o .l0)) ?_));rw[List.length_nil];refine .pu .sub (.pu .sub (.pu .as (.nil (.seq (.region (.pu .mv (.pu .cn (.nil ?_))))))));refine .no rfl (.skip (.seq (.region (.pu .mv (.pu .as (.nil (.ret ?_)))))));exact⟨_,.tmp rfl .nil,_,_,.refl _ _,rfl,rfl⟩
theorem Zpy(n:Nat)(hn:n≠0)(hl:n≤1000000):Sp SET 246 [.slice none 0 0,.int .i64 (n:Nat)] L P (fun r L' P'=>L'=Ow 1 r []::L∧P'=P):=by
 refine .bo (fn:=Tryz.f246) (N:=26) ?_;refine .seq (.region (.pu .as (.nil (.seq (.seq (.region (.pu .mv (.pu .cn (.nil ?_)))))))));refine .no rfl (.skip (.seq (.seq (.region (.pu .mv (.pu .mv (.ent (Ent.none (k:=1)) ?_)))))));refine .pu .cap0 (.pu .mv (.lk (.ln (k:=1) (es:=[]) (hm:=.o .l0)) ?_));rw[List.length_nil];refine .pu .sub (.pu .sub (.pu .as (.nil (.seq (.region (.pu .mv (.pu .cy (.nil ?_))))))));refine .yes rfl (.region (.pu .mv (.pu .mv (.pu .cap0 ?_))));refine .sl (k:=1) (p:=0) (q:=0) (es:=[]) (.o .l0) rfl (fun m hm=>bdn (n:=0) (hn:=Nat.zero_le _)) ?_;refine .pu .mv ?_;refine .apzero (k:=1) (m:=n) hn (fun b22=>?_) (hn:=by show n*16≤_;omega);refine .pu .mv (.lk (.ln (k:=1) (es:=[]) (hm:=.o .l1)) ?_);rw[List.length_nil];refine .sl (k:=1) (p:=0) (q:=0) (es:=List.replicate n _) (.f (fun _ _=>OwF.sl) .l0) rfl (fun m hm=>bdn (n:=0) (hn:=Nat.zero_le _)) ?_
 refine .pu .as (.nil (.seq (.region (.pu .mv (.pu .as (.nil (.ret ?_)))))));exact⟨_,.tmp rfl .nil,_,_,(Ent.ofF.trans ((Ent.owp (q:=0) (Nat.zero_le _)).trans (Ent.swap.trans Ent.drop))),rfl,rfl⟩
theorem Zpz(n:Nat)(hl:n≤1000000):Sp SET 246 [.slice none 0 0,.int .i64 (n:Nat)] L P (fun r L' P'=>L'=Ow 1 r []::L∧P'=P):=by
 by_cases hn:n=0
 ·subst hn;exact Zpx L P
 ·exact Zpy L P n hn hl
theorem Zp0(v:Value)(xs:List (Value×List (List Value)))(hv:Zj 1 v (xs.map fun x=>[x.1]) L P)(hx:∀x∈xs,Zj 1 x.1 x.2 L P)(hl:xs.length≤1000)(hc:∀x∈xs,x.2.length≤1000)(ho:∀x∈xs,∀f∈x.2,ones f=true):Sp SET 218 [v] L P (fun r L' P'=>L'=Ow 1 r (xs.flatMap (·.2))::L∧P'=P):=by
 refine .bo (fn:=Tryz.f218) (N:=35) ?_;refine .seq (.region (.pu .as (.nil (.seq (.region (.pu .as (.nil (.seq (.seq (.region (.pu .mv (.lk .ln ?_))))))))))));refine .pu .mv (.nil ?_);refine .block (W.loop (fun i:Nat=>i≤xs.length) (fun i=>xs.length-i) (fun i=>[(11,.int .i64 (i:Nat)),(10,.int .i64 (xs.map fun x=>[x.1]).length),(9,v),(3,.int .i64 ((xs.take i).flatMap (·.2)).length),(0,v)]) (fun _=>L) (fun _=>P) 0 (Nat.zero_le _) ⟨rfl,rfl,rfl,rfl,rfl,trivial⟩ (.refl _ _) (fun i hi=>?_));have hlen:(xs.map fun x=>[x.1]).length=xs.length:=List.length_map ..;have hcat:∀i,i≤xs.length→((xs.take i).flatMap (·.2)).length≤1000*i:=Ft hc;by_cases hlt:i<xs.length
 ·refine .seq (.region (.pu .cy (.nil (.seq (.yes rfl (.skip (.seq (.block (.seq (.region ?_))))))))));have hg:(xs.map fun x=>[x.1])[((i:Nat):Int).toNat]? =some [xs[i].1]:=by simp[hlt]
  have hs:=M8 hlt;have hb:=hcat (i+1) hlt;have hs2:=congrArg List.length hs;rw[List.length_append]at hs2;have hxi:=hx _ (List.getElem_mem hlt);refine .lk .ia ?_;refine .le hg ?_;refine .pu .as (.nil (.seq (.region (.pu .mv (.pu .mv (.lk (.ln (hm:=hxi)) ?_))))));refine .pu .add (.pu .as (.nil (.seq (.region (.pu .mv (.pu .cn (.nil ?_)))))));refine .no rfl (.skip (.region (.pu .add (.pu .mv (.nil ?_)))));refine⟨i+1,hlt,by show xs.length-(i+1)<xs.length-i;omega,⟨rfl,rfl,rfl,?_,rfl,trivial⟩,.refl _ _⟩;show some (Value.int .i64 _)=some (Value.int .i64 _);rw[hs,List.length_append];rfl
 ·refine .seq (.region ?_);have e:xs.take i=xs:=List.take_of_length_le (by omega);have hall:=hcat xs.length (Nat.le_refl _);rw[List.take_of_length_le (Nat.le_refl _)]at hall;rw[e];refine .pu .cn (.nil (.seq (.no rfl (.exit (.seq (.region (.pu .mv ?_)))))));refine .call (Zpz _ _ (xs.flatMap (·.2)).length (by omega)) ?_;rintro _ _ P ⟨rfl,rfl⟩;refine .pu .as (.nil (.seq (.seq (.region (.pu .mv (.lk (.ln (hm:=hv.bel)) ?_))))));refine .pu .mv (.nil ?_);refine .block (W.loop (fun a:Nat×Value=>a.1≤xs.length) (fun a=>xs.length-a.1) (fun a=>[(27,.int .i64 (a.1:Nat)),(26,.int .i64 (xs.map fun x=>[x.1]).length),(25,v),(6,a.2)]) (fun a=>Ow 1 a.2 ((xs.take a.1).flatMap (·.2))::L) (fun _=>P) (0,_) (Nat.zero_le _) ⟨rfl,rfl,rfl,rfl,trivial⟩ (.refl _ _) (fun⟨i,r⟩ hi=>?_));by_cases hlt2:i<xs.length
  ·refine .seq (.region (.pu .cy (.nil (.seq (.yes rfl (.skip (.seq (.block (.seq (.region ?_))))))))));have hg:(xs.map fun x=>[x.1])[((i:Nat):Int).toNat]? =some [xs[i].1]:=by simp[hlt2]
   have hs:=M8 hlt2;have hb:=hcat (i+1) hlt2;have hs2:=congrArg List.length hs;rw[List.length_append]at hs2;have hxi:=hx _ (List.getElem_mem hlt2);refine .lk (.ia (hm:=hv.bel)) ?_;refine .le hg ?_ (hm:=hv.bel);refine .pu .as (.nil (.region (.pu .mv (.pu .mv ?_))));refine .ap (fun v33=>?_) (hw:=hxi.bel) (hn:=by show(((xs.take i).flatMap (·.2)).length+xs[i].2.length)*16≤_;omega) (ho:=ho _ (List.getElem_mem hlt2));refine .pu .as (.nil (.region (.pu .add (.pu .mv (.nil ?_)))));refine⟨(i+1,_),hlt2,by show xs.length-(i+1)<xs.length-i;omega,⟨rfl,rfl,rfl,rfl,trivial⟩,?_⟩;show Ent _ _ (Ow 1 _ ((xs.take (i+1)).flatMap (·.2))::L) P;rw[hs];exact .refl _ _
  ·refine .seq (.region (.pu .cn (.nil (.seq (.no rfl (.exit (.seq (.region (.pu .mv (.pu .as (.nil (.ret ?_))))))))))));refine⟨_,.tmp rfl .nil,_,_,.refl _ _,?_,rfl⟩;have e:xs.take i=xs:=List.take_of_length_le (Nat.le_of_not_lt hlt2);rw[e];rfl
def OwB(z0 k:Nat)(v:Value)(es:List (List Value)):Asn where
 p:=fun S h=>∃b c m t,v=.slice (some ⟨b,0,none⟩) es.length c∧S b∧h.get b=some (.cells t m z0)∧es.length≤c/2∧c/2*k≤m∧(c%2=1∨zs z0=k)∧Y7 k 0 t es
 loc:=fun S h h' e ⟨b,c,m,t,g1,g2,g3,g4⟩=>⟨b,c,m,t,g1,g2,by rw[e b g2];exact g3,g4⟩
theorem OwB.ow{z0 k:Nat}{v:Value}{es:List (List Value)}{S:Nat→Prop}{h:T Ze}(H:(OwB z0 k v es).p S h):(Ow k v es).p S h:=by
 obtain⟨b,c,m,t,g1,g2,g3,g4⟩:=H;exact .inr ⟨b,c,m,z0,t,g1,g2,g3,g4⟩
theorem _root_.Go.Lx.WR.blB{E:Env}{N:Nat}{ops l:List Oper}{al:Al}{L P:List Asn}{Q:Al→List Asn→List Asn→Prop}{u n d t k:Nat}{ps:Array (Nat×Operand)}{pos:String}{af:Array Edge}{es:List (List Value)}(h:∀v,WR E N ops l ((d,v)::al) (OwB 0 k v es::L) P Q)(hf:bls E al u n ps=some es.flatten:=by rfl)(hn:es.length=n:=by rfl)(hk:∀e∈es,e.length=k:=by simp)(hN:Nat.ble d N=true:=by rfl):WR E N ops (⟨some d,.buildSlice u n ps,t,pos,af,none⟩::l) al L P Q:=by
 refine WR.op rfl rfl hN (fun S s tm hs ha=>?_);obtain⟨h1,h2⟩:=hs.new (A:=OwB 0 k (.slice (some ⟨s.nx,0,none⟩) es.length (2*n+1)) es) (o:=.cells (T.e.fill 0 es.flatten) es.flatten.length 0) (fun h hg=>by
  rw[Vj hk]at hg;refine⟨s.nx,2*n+1,_,_,rfl,rfl,hg,by omega,?_,.inl (by omega),Jq hk⟩;have:(2*n+1)/2=n:=by omega
  rw[this,hn];exact Nat.le_refl _)
 refine⟨_,_,_,_,_,⟨0,0,?_⟩,h2,h1,h _⟩;show Vo u n ps E tm s=_;unfold bls at hf;cases hu:slT E u with
 |none=>rw[hu]at hf;cases hf
 |some p=>
  obtain⟨e,j⟩:=p;obtain⟨i,g1,g2,g3⟩:=Xq hu;cases hp:ptl al ps.toList with
  |none=>rw[hu,hp]at hf;cases hf
  |some r=>
   rw[hu,hp]at hf;simp only at hf;unfold Vo;rw[g1,Ce ha hp];simp only;rw[g2];simp only;rw[g3];simp only;cases hb:Nat.ble (n*j.size) 65536 with
   |false=>rw[hb]at hf;cases hf
   |true=>
    rw[hb]at hf;simp only[cond_true]at hf ⊢;rw[hf,hn];rfl
theorem Zfq{s:AS}{k b m z:Nat}{t:T Value}{es:List (List Value)}(hg:s.h.get b=some (.cells t m z))(hm:es.length*k≤m)(he:Y7 k 0 t es):Go.Ax.rdN s b 0 (es.length*k)=some es.flatten:=by
 unfold Go.Ax.rdN;rw[hg];simp only;rw[Nat.zero_add,Nat.ble_eq_true_of_le hm];simp only[cond_true];exact he.read
theorem Zp1{k i:Nat}{es:List (List Value)}(h:∀e∈es,e.length=k)(hi:i≤es.length):es.flatten.take (i*k)=(es.take i).flatten∧es.flatten.drop (i*k)=(es.drop i).flatten:=by
 have e:es.flatten=(es.take i).flatten++(es.drop i).flatten:=by rw[←List.flatten_append,List.take_append_drop]
 have hl:(es.take i).flatten.length=i*k:=by
  rw[Vj (fun e he=>h e (List.mem_of_mem_take he)),List.length_take,Nat.min_eq_left hi]
 rw[e];constructor
 ·rw[←hl,List.take_left]
 ·rw[←hl,List.drop_left]
theorem ones_flat :∀ {es:List (List Value)},(∀e∈es,ones e=true)→ones es.flatten=true
 |[],_=>rfl
 |e::es,h=>by
  rw[List.flatten_cons];exact Zc2 (h e (List.mem_cons_self ..)) (ones_flat (fun f hf=>h f (List.mem_cons_of_mem _ hf)))
theorem Zp2(v w:Value)(i:Nat)(es fs:List (List Value))(hi:i<es.length)(hf:fs≠[])(hl:es.length+fs.length≤1000000)(ho:∀e∈es,ones e=true)(ho2:∀e∈fs,ones e=true):Sp SET 153 [v,.int .i64 (i:Nat),w] (OwF 42 2 v es::OwB 0 2 w fs::L) P (fun r L' P'=>L'=Ow 2 r (es.take i++(fs++es.drop i))::L∧P'=P):=
 Sp.prim (p:=orP U3 (Jt SE 153)) (by rfl) (fun S s hs=>by
  obtain⟨S1,S2,q1,q2,q3,⟨hO,hT⟩,T1,T2,p1,p2,p3,⟨b',c',m',t',rfl,r1,r2,r3,r4,r5,r6⟩,hL⟩:=hs.own;have hne:es≠[]:=fun e=>by subst e;simp at hi
  rcases hO with⟨h0,_⟩|⟨b,c,m,z,t,rfl,g1,g2,g3,g4,g5,g6⟩
  ·exact absurd h0 hne
  rcases hT ⟨b,0,none⟩ es.length c rfl with⟨h0,_⟩|⟨hc,hz⟩
  ·exact absurd (List.length_eq_zero_iff.1 h0) hne
  obtain rfl:=hz t m z g2;have hbb:b≠b':=fun e=>by subst e;exact q3 b g1 (p1 b r1)
  have hzs:Nat.beq (zs (tz 2 42)) 2=true:=by rw[X9 (by decide)];rfl
  have hz2:tz 2 42%2=0:=by decide
  have hm:es.length*2≤m:=Nat.le_trans (Nat.mul_le_mul_right 2 g3) g4;have hm':fs.length*2≤m':=Nat.le_trans (Nat.mul_le_mul_right 2 r3) r4;have hfl:1≤fs.length:=by
   rcases Nat.eq_zero_or_pos fs.length with e|e
   ·exact absurd (List.length_eq_zero_iff.1 e) hf
   ·exact e
  have hrun:U3 [.slice (some ⟨b,0,none⟩) es.length c,.int .i64 (i:Nat),.slice (some ⟨b',0,none⟩) fs.length c'] s=some (.slice (some ⟨s.nx,0,none⟩) (es.length+fs.length) (2*(es.length+fs.length)),(s.upd b .dead).rowz (zg 2 (tz 2 42) 42) (es.flatten.take (i*2)++(fs.flatten++es.flatten.drop (i*2)))):=by
   show(match s.h.get b,s.h.get b' with
    |some (.cells ca na za),some (.cells cv nv zv)=>_
    |_,_=>none)=_
   rw[g2,r2];simp only;have hb0:Nat.beq b b'=false:=by
    cases hb:Nat.beq b b' with
    |false=>rfl
    |true=>exact absurd (Nat.eq_of_beq_eq_true hb) hbb
   rw[hzs,hz2,hc,Nat.ble_eq_true_of_le hfl,hb0,Nat.ble_eq_true_of_le hl,Nat.ble_eq_true_of_le (show 1≤m' by omega),V7.2 hi];rw[Zfq g2 hm g6,Zfq r2 hm' r6];simp only[Nat.zero_mod,Nat.beq_eq,decide_true,Bool.not_false,Bool.and_self,cond_true,Bool.and_true];rw[ones_flat ho,ones_flat ho2];rfl
  have hk:∀e∈es,e.length=2:=g6.len;have hk':∀e∈fs,e.length=2:=r6.len;have hR:∀e∈es.take i++(fs++es.drop i),e.length=2:=fun e he=>by
   rcases List.mem_append.1 he with he|he
   ·exact hk e (List.mem_of_mem_take he)
   ·rcases List.mem_append.1 he with he|he
    ·exact hk' e he
    ·exact hk e (List.mem_of_mem_drop he)
  have hRl:(es.take i++(fs++es.drop i)).length=es.length+fs.length:=by
   rw[List.length_append,List.length_append,List.length_take,List.length_drop];omega
  obtain⟨c1,c2⟩:=Zp1 (i:=i) hk (by omega);have hcells:es.flatten.take (i*2)++(fs.flatten++es.flatten.drop (i*2))=(es.take i++(fs++es.drop i)).flatten:=by
   rw[c1,c2,List.flatten_append,List.flatten_append]
  have hzg:zs (zg 2 (tz 2 42) 42)=2:=by decide
  rw[hcells]at hrun;obtain⟨S',k1,k2⟩:=(hs.turn (B:=fun q=>Ow 2 (.slice (some ⟨q,0,none⟩) (es.length+fs.length) (2*(es.length+fs.length))) (es.take i++(fs++es.drop i))) (o:=.cells (T.e.fill 0 (es.take i++(fs++es.drop i)).flatten) (es.take i++(fs++es.drop i)).flatten.length (zg 2 (tz 2 42) 42)) (fun q h hg=>by
   rw[Vj hR]at hg;have:=Kj (k:=2) (es:=es.take i++(fs++es.drop i)) (c:=2*(es.length+fs.length)) (.inr ⟨by rw[hRl],hzg⟩) (Jq hR) h hg;rw[hRl]at this;exact this)).2 b (fun U h hp=>by
    rcases hp.1 with⟨h0,_⟩|⟨b2,c2,m2,z2,t2,e2,u1,_⟩
    ·exact absurd h0 hne
    ·cases e2;exact u1)
  refine⟨_,_,S',_,P,?_,k2,⟨k1.own.tail (fun _ h=>h.drop),k1.per,k1.ex,k1.fresh⟩,rfl,rfl⟩;show(match U3 _ s with
   |some r=>some r
   |none=>_)=_
  rw[hrun];rfl)
theorem Zp3(s:AS)(v w:Value)(n c:Nat)(a:Option Addr)(hv:v=.slice a n c):U3 [v,.int .i64 (n:Nat),w] s=none:=by
 subst hv;unfold U3;split
 ·rename_i h;injection h with h1 h2
  injection h2 with h2 h3
  injection h1 with h1 h4 h5
  injection h2 with _ h2
  have h2:(n:Nat)=_:=Int.ofNat_inj.1 h2;subst h4;subst h2;split
  ·have:Nat.blt n n=false:=by
    cases hb:Nat.blt n n with
    |false=>rfl
    |true=>rw[V7]at hb;omega
   rw[this];simp
  ·rfl
 ·rfl
theorem Zp4(v w:Value)(es fs:List (List Value))(hf:fs≠[])(hl:es.length+fs.length≤1000000)(ho2:∀e∈fs,ones e=true):Sp SE 153 [v,.int .i64 (es.length:Nat),w] (OwF 42 2 v es::OwB 0 2 w fs::L) P (fun r L' P'=>L'=Ow 2 r (es++fs)::L∧P'=P):=by
 have hfl:fs.length≠0:=fun e=>hf (List.length_eq_zero_iff.1 e);refine .bo (fn:=Tryz.f153) (N:=94) ?_;refine .seq (.region (.pu .as (.nil (.seq (.region ?_)))));refine .ent (Ent.ofF.trans (Ent.swap.trans ((Ent.hd (fun _ _=>OwB.ow)).trans Ent.swap))) ?_;refine .pu .mv (.pu .mv ?_);refine .sl (k:=2) (p:=es.length) (q:=es.length) (es:=es) (.o .l0) (bdn (hn:=Nat.le_refl _)) (fun m hm=>rfl) ?_;refine .nil (.seq (.region (.pu .mv (.lk (.ln (hm:=.o .l1)) ?_))));refine .pu .as (.nil (.seq (.seq (.region (.pu .mv (.pu .cn (.nil ?_)))))));refine .no rfl (.skip (.seq (.region (.pu .mv (.lk (.ln (hm:=.o .l0)) ?_)))));refine .pu .as (.nil (.seq (.seq (.region (.pu .mv (.pu .mv ?_))))));refine .pu (.cy (hq:=by simp[Vu])) ?_;refine .nil ?_;refine .yes rfl (.seq (.region (.pu .mv (.pu .mv ?_))));refine .ap (fun v25=>?_) (hw:=.o .l1) (hn:=by show(es.length+fs.length)*32≤_;omega) (ho:=ho2)
 refine .pu .as (.nil (.ret ?_));exact⟨_,.tmp rfl .nil,_,_,(Ent.swap.trans Ent.drop),rfl,rfl⟩
theorem Zp5(v w:Value)(es fs:List (List Value))(hf:fs≠[])(hl:es.length+fs.length≤1000000)(ho2:∀e∈fs,ones e=true):Sp SET 153 [v,.int .i64 (es.length:Nat),w] (OwF 42 2 v es::OwB 0 2 w fs::L) P (fun r L' P'=>L'=Ow 2 r (es++fs)::L∧P'=P):=
 Sp.fact (p:=∃a c,v=.slice a es.length c) (fun S s hs=>Zg (.f (fun _ _=>OwF.sl) .l0) S s hs) (fun⟨a,c,hv⟩=>
  Sp.lim (E:=SE) (p:=orP U3 (Jt SE 153)) (by rfl) (fun s=>by
   show(match U3 _ s with
    |some r=>some r
    |none=>Jt SE _ _ s)=_
   rw[Zp3 s v w es.length c a hv]) (Zp4 L P v w es fs hf hl ho2))
theorem Zp6(v w:Value)(i:Nat)(es fs:List (List Value))(hi:i≤es.length)(hf:fs≠[])(hl:es.length+fs.length≤1000000)(ho:∀e∈es,ones e=true)(ho2:∀e∈fs,ones e=true):Sp SET 153 [v,.int .i64 (i:Nat),w] (OwF 42 2 v es::OwB 0 2 w fs::L) P (fun r L' P'=>L'=Ow 2 r (es.take i++(fs++es.drop i))::L∧P'=P):=by
 rcases Nat.lt_or_ge i es.length with h|h
 ·exact Zp2 L P v w i es fs h hf hl ho ho2
 ·obtain rfl:i=es.length:=by omega
  rw[List.take_length,List.drop_length,List.append_nil];exact Zp5 L P v w es fs hf hl ho2
abbrev Pr :=Bs×Bs
def Zc(p:Pr):List Value:=[S p.1,S p.2]
def encS(s:Bs):List Value:=[S s]
def encI(n:Nat):List Value:=[.int .i64 (n:Int)]
theorem Jl{ps:List Pr}{i:Nat}(h:i<ps.length):(ps.map Zc)[i]? =some (Zc ps[i]):=by simp[h]
theorem J9{ps:List Bs}{i:Nat}(h:i<ps.length):(ps.map encS)[i]? =some (encS ps[i]):=by simp[h]
theorem Zfr{ps:List Nat}{i:Nat}(h:i<ps.length):(ps.map encI)[i]? =some (encI ps[i]):=by simp[h]
def isKey(s:Bs):Bool:=decide (s≠[])&&decide (s.length≤32)
theorem Fu(k:Bs):Sp SET 150 [S k] L P (fun r L' P'=>r=.bool (isKey k)∧L'=L∧P'=P):=by
 refine .bo (fn:=Tryz.f150) (N:=9) ?_;refine .seq (.region (.pu .as (.nil (.seq (.region (.pu .mv ?_))))));by_cases h1:k=[]
 ·refine .pu (.sne (b:=[]) (q:=false) (hq:=by simp[h1])) ?_;refine .pu .mv (.off (.off (.off (.pu .pk (.pu .as (.nil (.ret ?_)))))));exact⟨_,.tmp rfl .nil,_,_,.refl _ _,by simp[isKey,h1];rfl,rfl,rfl⟩
 refine .pu (.sne (b:=[]) (q:=true) (hq:=by simp[h1])) ?_;refine .pu .mv (.on (.pu .mv (.on (.pu .ls (.on (.pu .cmp (.pu .pk (.pu .as (.nil (.ret ?_))))))))));refine⟨_,.tmp rfl .nil,_,_,.refl _ _,?_,rfl,rfl⟩;show Value.bool _=_;congr 1;simp[isKey,h1];omega
def Ka(p:Pr):Bool:= !isKey p.1||decide (48<p.2.length)
theorem Zp7(p:Pr):Sp SET 207 [.agg ⟨Zc p⟩] L P (fun r L' P'=>r=.bool (Ka p)∧L'=L∧P'=P):=by
 refine .bo (fn:=Tryz.f207) (N:=12) ?_;refine .seq (.region ?_);refine .bx (cs:=[_,_]) fun b1=>?_;refine .pu .as (.nil (.seq (.region (.pu .fa (.ld ?_)))));refine .call (Fu _ _ _) ?_;rintro _ _ _ ⟨rfl,rfl,rfl⟩;refine .pu .nt (.pu .mv ?_);cases hk:isKey p.1
 ·refine .off (.off (.off (.off (.pu .pk (.pu .as (.nil (.ret ?_)))))));exact⟨_,.tmp rfl .nil,_,_,.d1,by simp[Ka,hk];rfl,rfl,rfl⟩
 refine .on (.pu .fa (.on (.ld ?_)));refine .on (.pu .ls (.on (.pu .cmp (.pu .pk (.pu .as (.nil (.ret ?_)))))));refine⟨_,.tmp rfl .nil,_,_,.d1,?_,rfl,rfl⟩;show Value.bool _=_;congr 1;simp[Ka,hk];omega
def fi{α:Type}(p:α→Bool)(xs:List α):Int:=match xs.findIdx? p with
 |some i=>(i:Int)
 |none=> -1
theorem Zag{α:Type}{p:α→Bool}{xs:List α}{i:Nat}(h:i<xs.length)(hp:p xs[i]=true)(hn:∀j (hj:j<i),p xs[j]=false):fi p xs=i:=by
 unfold fi;have:xs.findIdx? p=some i:=by
  rw[List.findIdx?_eq_some_iff_getElem];exact⟨h,hp,fun j hj=>by rw[hn j hj];simp⟩
 rw[this]
theorem Zah{α:Type}{p:α→Bool}{xs:List α}(hn:∀j (hj:j<xs.length),p xs[j]=false):fi p xs= -1:=by
 unfold fi;have:xs.findIdx? p=none:=by
  rw[List.findIdx?_eq_none_iff];intro x hx;obtain⟨j,hj,rfl⟩:=List.getElem_of_mem hx;exact hn j hj
 rw[this]
theorem Zai{α:Type}(p:α→Bool)(xs:List α):decide (0≤fi p xs)=xs.any p:=by
 unfold fi;cases h:xs.findIdx? p with
 |some i=>
  simp only;rw[List.findIdx?_eq_some_iff_getElem]at h;obtain⟨h1,h2,_⟩:=h;rw[decide_eq_true (by omega)];exact(List.any_eq_true.2 ⟨_,List.getElem_mem h1,h2⟩).symm
 |none=>
  simp only;rw[List.findIdx?_eq_none_iff]at h;rw[decide_eq_false (by omega)];symm;rw[List.any_eq_false];intro x hx;rw[h x hx];simp
theorem Zp8(v:Value)(xs:List Pr)(g:FuncId)(fs cs:Array Value)(p:Pr→Bool)(hv:Zj 2 v (xs.map Zc) L P)(hl:xs.length≤1099511627776)
  (hp:∀x∈xs,Sp SET g (fs.toList++[.agg ⟨Zc x⟩]++cs.toList) L P (fun r L' P'=>r=.bool (p x)∧L'=L∧P'=P)):Sp SET 241 [v,.func (.func g) fs cs] L P (fun r L' P'=>r=.int .i64 (fi p xs)∧L'=L∧P'=P):=by
 refine .bo (fn:=Tryz.f241) (N:=18) ?_;have hlen:(xs.map Zc).length=xs.length:=List.length_map ..;refine .seq (.region (.pu .as (.nil (.seq (.seq (.region (.pu .mv (.lk .ln ?_))))))));refine .pu .mv (.nil ?_);refine .block (W.loop (fun i=>i≤xs.length∧∀j (hj:j<i) (hx:j<xs.length),p xs[j]=false) (fun i=>xs.length-i) (fun i=>[(8,.int .i64 (i:Nat)),(7,.int .i64 (xs.map Zc).length),(0,v),(1,.func (.func g) fs cs)]) (fun _=>L) (fun _=>P) 0 ⟨by omega,fun j hj=>by omega⟩ ⟨rfl,rfl,rfl,rfl,trivial⟩ (.refl _ _) (fun i hi=>?_));refine .seq (.region (.pu .cmp (.nil ?_)));refine .seq (.ite rfl (fun h=>?_) (fun h=>?_))
 ·have h:=of_decide_eq_true h;have hlt:i<xs.length:=by omega
  refine .skip (.seq (.block (.seq (.region (.pu .mv (.pu .as (.nil (.seq (.region (.pu .mv (.pu .mv (.pu .mv (.lk .ia ?_)))))))))))));refine .la (Jl (by simpa using hlt)) ?_;refine .call (hp _ (List.getElem_mem (by simpa using hlt))) ?_;rintro _ _ _ ⟨rfl,rfl,rfl⟩;refine .nil ?_;refine .ite rfl (fun h=>?_) (fun h=>?_)
  ·refine .seq (.region (.pu .mv (.pu .as (.nil (.ret ?_)))));refine⟨_,.tmp rfl .nil,_,_,.refl _ _,?_,rfl,rfl⟩;rw[Zag hlt (by simpa using h) (fun j hj=>hi.2 j hj (by omega))];rfl
  refine .skip (.region (.pu .add (.pu .mv (.nil ?_))));refine⟨i+1,⟨by omega,fun j hj hx=>?_⟩,by show xs.length-(i+1)<xs.length-i;omega,⟨rfl,rfl,rfl,rfl,trivial⟩,.refl _ _⟩;rcases Nat.lt_succ_iff_lt_or_eq.1 hj with hj|rfl
  ·exact hi.2 j hj hx
  ·simpa using h
 have h:=of_decide_eq_false h;refine .exit (.seq (.region (.pu .as (.nil (.ret ?_)))));refine⟨_,.tmp rfl .nil,_,_,.refl _ _,?_,rfl,rfl⟩;rw[Zah (fun j hj=>hi.2 j (by omega) hj)];rfl
theorem Zp9(v:Value)(xs:List Pr)(g:FuncId)(fs cs:Array Value)(p:Pr→Bool)(hv:Zj 2 v (xs.map Zc) L P)(hl:xs.length≤1099511627776)
  (hp:∀x∈xs,Sp SET g (fs.toList++[.agg ⟨Zc x⟩]++cs.toList) L P (fun r L' P'=>r=.bool (p x)∧L'=L∧P'=P)):Sp SET 208 [v,.func (.func g) fs cs] L P (fun r L' P'=>r=.bool (xs.any p)∧L'=L∧P'=P):=by
 refine .bo (fn:=Tryz.f208) (N:=8) ?_;refine .seq (.region (.pu .as (.nil (.seq (.region (.pu .mv (.pu .mv ?_)))))));refine .call (Zp8 _ _ _ _ _ _ _ p hv hl hp) ?_;rintro _ _ _ ⟨rfl,rfl,rfl⟩;refine .pu .cmp (.pu .as (.nil (.ret ?_)));refine⟨_,.tmp rfl .nil,_,_,.refl _ _,?_,rfl,rfl⟩;show Value.bool _=_;rw[Zai]
theorem Zqa(v:Value)(xs:List Bs)(g:FuncId)(fs cs:Array Value)(p:Bs→Bool)(hv:Zj 1 v (xs.map encS) L P)(hl:xs.length≤1099511627776)
  (hp:∀x∈xs,Sp SET g (fs.toList++[S x]++cs.toList) L P (fun r L' P'=>r=.bool (p x)∧L'=L∧P'=P)):Sp SET 288 [v,.func (.func g) fs cs] L P (fun r L' P'=>r=.int .i64 (fi p xs)∧L'=L∧P'=P):=by
 refine .bo (fn:=Tryz.f288) (N:=18) ?_;have hlen:(xs.map encS).length=xs.length:=List.length_map ..;refine .seq (.region (.pu .as (.nil (.seq (.seq (.region (.pu .mv (.lk .ln ?_))))))));refine .pu .mv (.nil ?_);refine .block (W.loop (fun i=>i≤xs.length∧∀j (hj:j<i) (hx:j<xs.length),p xs[j]=false) (fun i=>xs.length-i) (fun i=>[(8,.int .i64 (i:Nat)),(7,.int .i64 (xs.map encS).length),(0,v),(1,.func (.func g) fs cs)]) (fun _=>L) (fun _=>P) 0 ⟨by omega,fun j hj=>by omega⟩ ⟨rfl,rfl,rfl,rfl,trivial⟩ (.refl _ _) (fun i hi=>?_));refine .seq (.region (.pu .cmp (.nil ?_)));refine .seq (.ite rfl (fun h=>?_) (fun h=>?_))
 ·have h:=of_decide_eq_true h;have hlt:i<xs.length:=by omega
  refine .skip (.seq (.block (.seq (.region (.pu .mv (.pu .as (.nil (.seq (.region (.pu .mv (.pu .mv (.pu .mv (.lk .ia ?_)))))))))))));refine .le (J9 (by simpa using hlt)) ?_;refine .call (hp _ (List.getElem_mem (by simpa using hlt))) ?_;rintro _ _ _ ⟨rfl,rfl,rfl⟩;refine .nil ?_;refine .ite rfl (fun h=>?_) (fun h=>?_)
  ·refine .seq (.region (.pu .mv (.pu .as (.nil (.ret ?_)))));refine⟨_,.tmp rfl .nil,_,_,.refl _ _,?_,rfl,rfl⟩;rw[Zag hlt (by simpa using h) (fun j hj=>hi.2 j hj (by omega))];rfl
  refine .skip (.region (.pu .add (.pu .mv (.nil ?_))));refine⟨i+1,⟨by omega,fun j hj hx=>?_⟩,by show xs.length-(i+1)<xs.length-i;omega,⟨rfl,rfl,rfl,rfl,trivial⟩,.refl _ _⟩;rcases Nat.lt_succ_iff_lt_or_eq.1 hj with hj|rfl
  ·exact hi.2 j hj hx
  ·simpa using h
 have h:=of_decide_eq_false h;refine .exit (.seq (.region (.pu .as (.nil (.ret ?_)))));refine⟨_,.tmp rfl .nil,_,_,.refl _ _,?_,rfl,rfl⟩;rw[Zah (fun j hj=>hi.2 j (by omega) hj)];rfl
theorem Zqb(v:Value)(xs:List Bs)(g:FuncId)(fs cs:Array Value)(p:Bs→Bool)(hv:Zj 1 v (xs.map encS) L P)(hl:xs.length≤1099511627776)
  (hp:∀x∈xs,Sp SET g (fs.toList++[S x]++cs.toList) L P (fun r L' P'=>r=.bool (p x)∧L'=L∧P'=P)):Sp SET 269 [v,.func (.func g) fs cs] L P (fun r L' P'=>r=.bool (xs.any p)∧L'=L∧P'=P):=by
 refine .bo (fn:=Tryz.f269) (N:=8) ?_;refine .seq (.region (.pu .as (.nil (.seq (.region (.pu .mv (.pu .mv ?_)))))));refine .call (Zqa _ _ _ _ _ _ _ p hv hl hp) ?_;rintro _ _ _ ⟨rfl,rfl,rfl⟩;refine .pu .cmp (.pu .as (.nil (.ret ?_)));refine⟨_,.tmp rfl .nil,_,_,.refl _ _,?_,rfl,rfl⟩;show Value.bool _=_;rw[Zai]
theorem Zqc(v:Value)(xs:List Nat)(g:FuncId)(fs cs:Array Value)(p:Nat→Bool)(hv:Zj 1 v (xs.map encI) L P)(hl:xs.length≤1099511627776)
  (hp:∀x∈xs,Sp SET g (fs.toList++[.int .i64 (x:Int)]++cs.toList) L P (fun r L' P'=>r=.bool (p x)∧L'=L∧P'=P)):Sp SET 289 [v,.func (.func g) fs cs] L P (fun r L' P'=>r=.int .i64 (fi p xs)∧L'=L∧P'=P):=by
 refine .bo (fn:=Tryz.f289) (N:=18) ?_;have hlen:(xs.map encI).length=xs.length:=List.length_map ..;refine .seq (.region (.pu .as (.nil (.seq (.seq (.region (.pu .mv (.lk .ln ?_))))))));refine .pu .mv (.nil ?_);refine .block (W.loop (fun i=>i≤xs.length∧∀j (hj:j<i) (hx:j<xs.length),p xs[j]=false) (fun i=>xs.length-i) (fun i=>[(8,.int .i64 (i:Nat)),(7,.int .i64 (xs.map encI).length),(0,v),(1,.func (.func g) fs cs)]) (fun _=>L) (fun _=>P) 0 ⟨by omega,fun j hj=>by omega⟩ ⟨rfl,rfl,rfl,rfl,trivial⟩ (.refl _ _) (fun i hi=>?_));refine .seq (.region (.pu .cmp (.nil ?_)));refine .seq (.ite rfl (fun h=>?_) (fun h=>?_))
 ·have h:=of_decide_eq_true h;have hlt:i<xs.length:=by omega
  refine .skip (.seq (.block (.seq (.region (.pu .mv (.pu .as (.nil (.seq (.region (.pu .mv (.pu .mv (.pu .mv (.lk .ia ?_)))))))))))));refine .le (Zfr (by simpa using hlt)) ?_;refine .call (hp _ (List.getElem_mem (by simpa using hlt))) ?_;rintro _ _ _ ⟨rfl,rfl,rfl⟩;refine .nil ?_;refine .ite rfl (fun h=>?_) (fun h=>?_)
  ·refine .seq (.region (.pu .mv (.pu .as (.nil (.ret ?_)))));refine⟨_,.tmp rfl .nil,_,_,.refl _ _,?_,rfl,rfl⟩;rw[Zag hlt (by simpa using h) (fun j hj=>hi.2 j hj (by omega))];rfl
  refine .skip (.region (.pu .add (.pu .mv (.nil ?_))));refine⟨i+1,⟨by omega,fun j hj hx=>?_⟩,by show xs.length-(i+1)<xs.length-i;omega,⟨rfl,rfl,rfl,rfl,trivial⟩,.refl _ _⟩;rcases Nat.lt_succ_iff_lt_or_eq.1 hj with hj|rfl
  ·exact hi.2 j hj hx
  ·simpa using h
 have h:=of_decide_eq_false h;refine .exit (.seq (.region (.pu .as (.nil (.ret ?_)))));refine⟨_,.tmp rfl .nil,_,_,.refl _ _,?_,rfl,rfl⟩;rw[Zah (fun j hj=>hi.2 j (by omega) hj)];rfl
theorem Zqd(v:Value)(xs:List Nat)(g:FuncId)(fs cs:Array Value)(p:Nat→Bool)(hv:Zj 1 v (xs.map encI) L P)(hl:xs.length≤1099511627776)
  (hp:∀x∈xs,Sp SET g (fs.toList++[.int .i64 (x:Int)]++cs.toList) L P (fun r L' P'=>r=.bool (p x)∧L'=L∧P'=P)):Sp SET 270 [v,.func (.func g) fs cs] L P (fun r L' P'=>r=.bool (xs.any p)∧L'=L∧P'=P):=by
 refine .bo (fn:=Tryz.f270) (N:=8) ?_;refine .seq (.region (.pu .as (.nil (.seq (.region (.pu .mv (.pu .mv ?_)))))));refine .call (Zqc _ _ _ _ _ _ _ p hv hl hp) ?_;rintro _ _ _ ⟨rfl,rfl,rfl⟩;refine .pu .cmp (.pu .as (.nil (.ret ?_)));refine⟨_,.tmp rfl .nil,_,_,.refl _ _,?_,rfl,rfl⟩;show Value.bool _=_;rw[Zai]
theorem Zqe(k:Bs):Sp SET 267 [S k] L P (fun r L' P'=>r=.bool (!isKey k)∧L'=L∧P'=P):=by
 refine .bo (fn:=Tryz.f267) (N:=5) ?_;refine .seq (.region (.pu .as (.nil (.seq (.region (.pu .mv ?_))))));refine .call (Fu _ _ _) ?_;rintro _ _ _ ⟨rfl,rfl,rfl⟩;refine .pu .nt (.pu .as (.nil (.ret ?_)));exact⟨_,.tmp rfl .nil,_,_,.refl _ _,rfl,rfl,rfl⟩
def Gj(n:Nat):Bool:=decide (n<1)||decide (65535<n)
theorem Zqf(k:Nat):Sp SET 268 [.int .i64 (k:Int)] L P (fun r L' P'=>r=.bool (Gj k)∧L'=L∧P'=P):=by
 refine .bo (fn:=Tryz.f268) (N:=8) ?_;refine .seq (.region (.pu .as (.nil (.seq (.region (.pu .mv ?_))))));by_cases h:k<1
 ·refine .pu .cy (.pu .mv (.off (.off (.pu .pk (.pu .as (.nil (.ret ?_)))))));exact⟨_,.tmp rfl .nil,_,_,.refl _ _,by simp[Gj,h];rfl,rfl,rfl⟩
 refine .pu .cn (.pu .mv (.on (.pu .mv (.on (.pu .cmp (.pu .pk (.pu .as (.nil (.ret ?_)))))))));refine⟨_,.tmp rfl .nil,_,_,.refl _ _,?_,rfl,rfl⟩;show Value.bool _=_;congr 1;simp only[Gj,h,decide_false,Bool.false_or,decide_eq_decide];omega
theorem Zfs(k:Bs):Sp SET 272 [S k] L P (fun r L' P'=>r=S k∧L'=L∧P'=P):=by
 refine .bo (fn:=Tryz.f272) (N:=3) ?_;refine .seq (.region (.pu .as (.nil (.seq (.region (.pu .mv (.pu .as (.nil (.ret ?_)))))))));exact⟨_,.tmp rfl .nil,_,_,.refl _ _,rfl,rfl,rfl⟩
theorem Zft(p:Pr):Sp SET 210 [.agg ⟨Zc p⟩] L P (fun r L' P'=>r=S p.1∧L'=L∧P'=P):=by
 refine .bo (fn:=Tryz.f210) (N:=4) ?_;refine .seq (.region ?_);refine .bx (cs:=[_,_]) fun b1=>?_;refine .pu .as (.nil (.seq (.region (.pu .fa (.ld ?_)))));refine .pu .as (.nil (.ret ?_));exact⟨_,.tmp rfl .nil,_,_,.d1,rfl,rfl,rfl⟩
def rise :List Bs→Bool
 |a::b::l=>Zd a b&&rise (b::l)
 |_=>true
theorem Hq :∀(l:List Bs),rise l=true↔∀i (h:i+1<l.length),Zd l[i] l[i+1]=true
 |[]=>by simp[rise]
 |[a]=>by simp[rise]
 |a::b::l=>by
  unfold rise;rw[Bool.and_eq_true,Hq (b::l)];constructor
  ·rintro⟨h1,h2⟩ i h;cases i with
   |zero=>exact h1
   |succ i=>exact h2 i (by simpa using h)
  ·intro h;exact⟨h 0 (by simp),fun i hi=>h (i+1) (by simpa using hi)⟩
theorem Zfu{l:List Bs}{i:Nat}(h:i+1<l.length)(hn:Zd l[i] l[i+1]=false):rise l=false:=by
 cases hr:rise l with
 |false=>rfl
 |true=>have:=(Hq l).1 hr i h;rw[hn]at this;cases this
theorem Zqg(v:Value)(xs:List Pr)(hv:Zj 2 v (xs.map Zc) L P)(hl:xs.length≤1099511627776):Sp SET 209 [v,.func (.func 210) #[] #[]] L P (fun r L' P'=>r=.bool (rise (xs.map (·.1)))∧L'=L∧P'=P):=by
 refine .bo (fn:=Tryz.f209) (N:=25) ?_;have hlen:(xs.map Zc).length=xs.length:=List.length_map ..;refine .seq (.region (.pu .as (.nil (.seq (.seq (.region (.pu .as (.nil ?_))))))));refine .block (W.loop (fun i=>∀j (hj:j<i) (hx:j+1<xs.length),Zd xs[j].1 xs[j+1].1=true) (fun i=>xs.length-i) (fun i=>[(5,.int .i64 ((i+1:Nat):Int)),(0,v),(1,.func (.func 210) #[] #[])]) (fun _=>L) (fun _=>P) 0 (fun j hj=>by omega) ⟨rfl,rfl,rfl,trivial⟩ (.refl _ _) (fun i hi=>?_));refine .seq (.seq (.region (.pu .mv (.pu .mv (.lk .ln ?_)))));refine .pu .cmp (.nil ?_);refine .ite rfl (fun h=>?_) (fun h=>?_)
 ·have h:=of_decide_eq_true h;have hlt:i+1<xs.length:=by omega
  have g1:(xs.map Zc)[(((i+1:Nat):Int)-1).toNat]? =some (Zc xs[i]):=by
   rw[show(((i+1:Nat):Int)-1).toNat=i by omega];exact Jl (by omega)
  have g2:(xs.map Zc)[((i+1:Nat):Int).toNat]? =some (Zc xs[i+1]):=Jl hlt;refine .skip ?_;refine .seq (.block (.seq (.drawn (by kernel_rfl) fun base=>?_)));refine .pu .mv (.pu .mv (.pu .mv (.pu .sub (.lk .ia ?_))));refine .lo 0 0 .la (.mk g1) ?_;refine .call (Zft _ _ _) ?_;rintro _ _ _ ⟨rfl,rfl,rfl⟩;refine .pu .mv (.pu .mv (.pu .mv (.lk .ia ?_)));refine .lo 0 1 .la (.mk g2) ?_;refine .call (Zft _ _ _) ?_;rintro _ _ _ ⟨rfl,rfl,rfl⟩;refine .pu .sge (.nil (.cons (.yes (.mk g2) (.yes (.mk g2) (.skip .nil))) (.cons (.yes (.mk g1) (.skip (.skip .nil))) .nil)) ?_);refine .ite rfl (fun h=>?_) (fun h=>?_)
  ·refine .seq (.region (.pu .as (.nil (.ret ?_))));refine⟨_,.tmp rfl .nil,_,_,.refl _ _,?_,rfl,rfl⟩;rw[Zfu (l:=xs.map (·.1)) (i:=i) (by simpa using hlt) (by simpa using h)];rfl
  refine .skip (.region (.pu .mv (.pu .add (.pu .as (.nil ?_)))));refine⟨i+1,fun j hj hx=>?_,by show xs.length-(i+1)<xs.length-i;omega,⟨rfl,rfl,rfl,trivial⟩,.refl _ _⟩;rcases Nat.lt_succ_iff_lt_or_eq.1 hj with hj|rfl
  ·exact hi j hj hx
  ·simpa using h
 have h:=of_decide_eq_false h;refine .exit (.seq (.region (.pu .as (.nil (.ret ?_)))));refine⟨_,.tmp rfl .nil,_,_,.refl _ _,?_,rfl,rfl⟩;have:rise (xs.map (·.1))=true:=(Hq _).2 (fun j hj=>by
  have hj':j+1<xs.length:=by simpa using hj
  simpa using hi j (by omega) hj')
 rw[this];rfl
theorem Zqh(v:Value)(xs:List Bs)(hv:Zj 1 v (xs.map encS) L P)(hl:xs.length≤1099511627776):Sp SET 271 [v,.func (.func 272) #[] #[]] L P (fun r L' P'=>r=.bool (rise xs)∧L'=L∧P'=P):=by
 refine .bo (fn:=Tryz.f271) (N:=25) ?_;have hlen:(xs.map encS).length=xs.length:=List.length_map ..;refine .seq (.region (.pu .as (.nil (.seq (.seq (.region (.pu .as (.nil ?_))))))));refine .block (W.loop (fun i=>∀j (hj:j<i) (hx:j+1<xs.length),Zd xs[j] xs[j+1]=true) (fun i=>xs.length-i) (fun i=>[(5,.int .i64 ((i+1:Nat):Int)),(0,v),(1,.func (.func 272) #[] #[])]) (fun _=>L) (fun _=>P) 0 (fun j hj=>by omega) ⟨rfl,rfl,rfl,trivial⟩ (.refl _ _) (fun i hi=>?_));refine .seq (.seq (.region (.pu .mv (.pu .mv (.lk .ln ?_)))));refine .pu .cmp (.nil ?_);refine .ite rfl (fun h=>?_) (fun h=>?_)
 ·have h:=of_decide_eq_true h;have hlt:i+1<xs.length:=by omega
  have g1:(xs.map encS)[(((i+1:Nat):Int)-1).toNat]? =some (encS xs[i]):=by
   rw[show(((i+1:Nat):Int)-1).toNat=i by omega];exact J9 (by omega)
  have g2:(xs.map encS)[((i+1:Nat):Int).toNat]? =some (encS xs[i+1]):=J9 hlt;refine .skip ?_;refine .seq (.block (.seq (.drawn (by kernel_rfl) fun base=>?_)));refine .pu .mv (.pu .mv (.pu .mv (.pu .sub (.lk .ia ?_))));refine .lo 0 0 .le (.mk g1) ?_;refine .call (Zfs _ _ _) ?_;rintro _ _ _ ⟨rfl,rfl,rfl⟩;refine .pu .mv (.pu .mv (.pu .mv (.lk .ia ?_)));refine .lo 0 1 .le (.mk g2) ?_;refine .call (Zfs _ _ _) ?_;rintro _ _ _ ⟨rfl,rfl,rfl⟩;refine .pu .sge (.nil (.cons (.yes (.mk g2) (.yes (.mk g2) (.skip .nil))) (.cons (.yes (.mk g1) (.skip (.skip .nil))) .nil)) ?_);refine .ite rfl (fun h=>?_) (fun h=>?_)
  ·refine .seq (.region (.pu .as (.nil (.ret ?_))));refine⟨_,.tmp rfl .nil,_,_,.refl _ _,?_,rfl,rfl⟩;rw[Zfu (l:=xs) (i:=i) hlt (by simpa using h)];rfl
  refine .skip (.region (.pu .mv (.pu .add (.pu .as (.nil ?_)))));refine⟨i+1,fun j hj hx=>?_,by show xs.length-(i+1)<xs.length-i;omega,⟨rfl,rfl,rfl,trivial⟩,.refl _ _⟩;rcases Nat.lt_succ_iff_lt_or_eq.1 hj with hj|rfl
  ·exact hi j hj hx
  ·simpa using h
 have h:=of_decide_eq_false h;refine .exit (.seq (.region (.pu .as (.nil (.ret ?_)))));refine⟨_,.tmp rfl .nil,_,_,.refl _ _,?_,rfl,rfl⟩;have:rise xs=true:=(Hq _).2 (fun j hj=>by
  exact hi j (by omega) hj)
 rw[this];rfl
structure Nd where
 leaf:Bool
 pairs:List Pr
 keys:List Bs
 kids:List Nat
structure NdV(P:List Asn)(v:Value)(n:Nd):Prop where
 ex:∃pv kv iv,v=.agg ⟨[.bool n.leaf,pv,kv,iv]⟩∧Sl 2 pv (n.pairs.map Zc)∈P∧Sl 1 kv (n.keys.map encS)∈P∧Sl 1 iv (n.kids.map encI)∈P
structure Nd.Small(n:Nd):Prop where
 p:n.pairs.length≤1099511627776
 k:n.keys.length≤1099511627776
 i:n.kids.length≤1099511627776
def Nd.leafOk(n:Nd):Bool:=n.leaf&&(decide (n.keys.length+n.kids.length=0)&&(decide (n.pairs.length≤255)&&(!n.pairs.any Ka&&rise (n.pairs.map (·.1)))))
theorem Zfv(v:Value)(n:Nd)(hv:NdV P v n)(hs:n.Small):Sp SET 149 [v] L P (fun r L' P'=>r=.bool n.leafOk∧L'=L∧P'=P):=by
 obtain⟨pv,kv,iv,rfl,hp,hk,hi⟩:=hv.ex;have lp:(n.pairs.map Zc).length=n.pairs.length:=List.length_map ..;have lk':(n.keys.map encS).length=n.keys.length:=List.length_map ..;have li:(n.kids.map encI).length=n.kids.length:=List.length_map ..;have s1:=hs.p;have s2:=hs.k;have s3:=hs.i;refine .bo (fn:=Tryz.f149) (N:=33) ?_;refine .seq (.region ?_);refine .bx (cs:=[_,_,_,_]) fun b1=>?_;refine .pu .as (.nil (.seq (.region (.pu .as (.nil (.seq (.region (.pu .fa (.ld ?_)))))))));refine .pu .mv ?_;cases h1:n.leaf
 ·repeat (first|refine .off ?_|refine .pu .pk ?_|refine .pu .mv ?_|refine .pu .as ?_)
  refine .nil (.ret ?_);exact⟨_,.tmp rfl .nil,_,_,.d1,by simp[Nd.leafOk,h1];rfl,rfl,rfl⟩
 refine .on (.pu .fa (.on (.ld ?_)));refine .on (.lk .ln ?_);refine .on (.pu .fa (.on (.ld ?_)));refine .on (.lk .ln ?_);refine .on (.pu .add ?_);by_cases h2:n.keys.length+n.kids.length=0
 case neg=>
  refine .on (.pu .cn ?_)
  repeat (first|refine .off ?_|refine .pu .pk ?_|refine .pu .mv ?_|refine .pu .as ?_)
  refine .nil (.ret ?_);exact⟨_,.tmp rfl .nil,_,_,.d1,by simp only[Nd.leafOk,h1,decide_eq_false h2];rfl,rfl,rfl⟩
 refine .on (.pu .cy (.pu .pk (.pu .mv (.on (.pu .fa (.on (.ld ?_)))))));refine .on (.lk .ln ?_);by_cases h3:n.pairs.length≤255
 case neg=>
  refine .on (.pu .cn ?_)
  repeat (first|refine .off ?_|refine .pu .pk ?_|refine .pu .mv ?_|refine .pu .as ?_)
  refine .nil (.ret ?_);exact⟨_,.tmp rfl .nil,_,_,.d1,by simp only[Nd.leafOk,h1,decide_eq_true h2,decide_eq_false h3];rfl,rfl,rfl⟩
 refine .on (.pu .cy (.pu .pk (.pu .mv (.on (.pu .fa (.on (.ld ?_)))))));refine .on (.pu .mv ?_);refine .on ?_;refine .call (Zp9 _ _ _ n.pairs 207 #[] #[] Ka (.s (.p hp)) s1 (fun x _=>Zp7 _ _ x)) ?_;rintro _ _ _ ⟨rfl,rfl,rfl⟩;refine .on (.pu .nt (.pu .pk (.pu .mv ?_)));cases h4:n.pairs.any Ka
 case true=>
  repeat (first|refine .off ?_|refine .pu .pk ?_|refine .pu .mv ?_|refine .pu .as ?_)
  refine .nil (.ret ?_);exact⟨_,.tmp rfl .nil,_,_,.d1,by simp only[Nd.leafOk,h1,decide_eq_true h2,decide_eq_true h3,h4];rfl,rfl,rfl⟩
 refine .on (.pu .fa (.on (.ld ?_)));refine .on ?_;refine .call (Zqg _ _ _ n.pairs (.s (.p hp)) s1) ?_;rintro _ _ _ ⟨rfl,rfl,rfl⟩;refine .pu .pk (.pu .as (.nil (.ret ?_)));exact⟨_,.tmp rfl .nil,_,_,.d1,by simp only[Nd.leafOk,h1,decide_eq_true h2,decide_eq_true h3,h4];rfl,rfl,rfl⟩
def Nd.innerOk(n:Nd):Bool:= !n.leaf&&(decide (n.pairs.length=0)&&(decide (1≤n.kids.length)&&(decide (n.kids.length≤255)&&(decide (n.keys.length+1=n.kids.length)&&(!n.keys.any (fun k=> !isKey k)&&(!n.kids.any Gj&&rise n.keys))))))
theorem Zqi(v:Value)(n:Nd)(hv:NdV P v n)(hs:n.Small):Sp SET 237 [v] L P (fun r L' P'=>r=.bool n.innerOk∧L'=L∧P'=P):=by
 obtain⟨pv,kv,iv,rfl,hp,hk,hi⟩:=hv.ex;have lp:(n.pairs.map Zc).length=n.pairs.length:=List.length_map ..;have lk':(n.keys.map encS).length=n.keys.length:=List.length_map ..;have li:(n.kids.map encI).length=n.kids.length:=List.length_map ..;have s1:=hs.p;have s2:=hs.k;have s3:=hs.i;refine .bo (fn:=Tryz.f237) (N:=54) ?_;refine .seq (.region ?_);refine .bx (cs:=[_,_,_,_]) fun b1=>?_;refine .pu .as (.nil (.seq (.region (.pu .as (.nil (.seq (.region (.pu .as (.nil (.seq (.region (.pu .fa (.ld ?_)))))))))))));refine .pu .nt (.pu .mv ?_);cases h1:n.leaf
 case true=>
  repeat (first|refine .off ?_|refine .pu .pk ?_|refine .pu .mv ?_|refine .pu .as ?_)
  refine .nil (.ret ?_);exact⟨_,.tmp rfl .nil,_,_,.d1,by simp only[Nd.innerOk,h1];rfl,rfl,rfl⟩
 refine .on (.pu .fa (.on (.ld ?_)));refine .on (.lk .ln ?_);by_cases h2:n.pairs.length=0
 case neg=>
  refine .on (.pu .cn ?_)
  repeat (first|refine .off ?_|refine .pu .pk ?_|refine .pu .mv ?_|refine .pu .as ?_)
  refine .nil (.ret ?_);exact⟨_,.tmp rfl .nil,_,_,.d1,by simp only[Nd.innerOk,h1,decide_eq_false h2];rfl,rfl,rfl⟩
 refine .on (.pu .cy (.pu .pk (.pu .mv (.on (.pu .fa (.on (.ld ?_)))))));refine .on (.lk .ln ?_);by_cases h3:1≤n.kids.length
 case neg=>
  refine .on (.pu .cn ?_)
  repeat (first|refine .off ?_|refine .pu .pk ?_|refine .pu .mv ?_|refine .pu .as ?_)
  refine .nil (.ret ?_);exact⟨_,.tmp rfl .nil,_,_,.d1,by simp only[Nd.innerOk,h1,decide_eq_true h2,decide_eq_false h3];rfl,rfl,rfl⟩
 refine .on (.pu .cy (.pu .pk (.pu .mv (.on (.pu .fa (.on (.ld ?_)))))));refine .on (.lk .ln ?_);by_cases h4:n.kids.length≤255
 case neg=>
  refine .on (.pu .cn ?_)
  repeat (first|refine .off ?_|refine .pu .pk ?_|refine .pu .mv ?_|refine .pu .as ?_)
  refine .nil (.ret ?_);exact⟨_,.tmp rfl .nil,_,_,.d1,by simp only[Nd.innerOk,h1,decide_eq_true h2,decide_eq_true h3,decide_eq_false h4];rfl,rfl,rfl⟩
 refine .on (.pu .cy (.pu .pk (.pu .mv (.on (.pu .fa (.on (.ld ?_)))))));refine .on (.lk .ln ?_);refine .on (.pu .fa (.on (.ld ?_)));refine .on (.lk .ln ?_);refine .on (.pu .sub ?_);by_cases h5:n.keys.length+1=n.kids.length
 case neg=>
  refine .on (.pu .cn ?_)
  repeat (first|refine .off ?_|refine .pu .pk ?_|refine .pu .mv ?_|refine .pu .as ?_)
  refine .nil (.ret ?_);exact⟨_,.tmp rfl .nil,_,_,.d1,by simp only[Nd.innerOk,h1,decide_eq_true h2,decide_eq_true h3,decide_eq_true h4,decide_eq_false h5];rfl,rfl,rfl⟩
 refine .on (.pu .cy (.pu .pk (.pu .mv (.on (.pu .fa (.on (.ld ?_)))))));refine .on (.pu .mv ?_);refine .on ?_;refine .call (Zqb _ _ _ n.keys 267 #[] #[] (fun k=> !isKey k) (.s (.p hk)) s2 (fun x _=>Zqe _ _ x)) ?_;rintro _ _ _ ⟨rfl,rfl,rfl⟩;refine .on (.pu .nt (.pu .pk (.pu .mv ?_)));cases h6:n.keys.any (fun k=> !isKey k)
 case true=>
  repeat (first|refine .off ?_|refine .pu .pk ?_|refine .pu .mv ?_|refine .pu .as ?_)
  refine .nil (.ret ?_);exact⟨_,.tmp rfl .nil,_,_,.d1,by simp only[Nd.innerOk,h1,decide_eq_true h2,decide_eq_true h3,decide_eq_true h4,decide_eq_true h5,h6];rfl,rfl,rfl⟩
 refine .on (.pu .fa (.on (.ld ?_)));refine .on (.pu .mv ?_);refine .on ?_;refine .call (Zqd _ _ _ n.kids 268 #[] #[] Gj (.s (.p hi)) s3 (fun x _=>Zqf _ _ x)) ?_;rintro _ _ _ ⟨rfl,rfl,rfl⟩;refine .on (.pu .nt (.pu .pk (.pu .mv ?_)));cases h7:n.kids.any Gj
 case true=>
  repeat (first|refine .off ?_|refine .pu .pk ?_|refine .pu .mv ?_|refine .pu .as ?_)
  refine .nil (.ret ?_);exact⟨_,.tmp rfl .nil,_,_,.d1,by simp only[Nd.innerOk,h1,decide_eq_true h2,decide_eq_true h3,decide_eq_true h4,decide_eq_true h5,h6,h7];rfl,rfl,rfl⟩
 refine .on (.pu .fa (.on (.ld ?_)));refine .on ?_;refine .call (Zqh _ _ _ n.keys (.s (.p hk)) s2) ?_;rintro _ _ _ ⟨rfl,rfl,rfl⟩;refine .pu .pk (.pu .as (.nil (.ret ?_)));exact⟨_,.tmp rfl .nil,_,_,.d1,by simp only[Nd.innerOk,h1,decide_eq_true h2,decide_eq_true h3,decide_eq_true h4,decide_eq_true h5,h6,h7];rfl,rfl,rfl⟩
def Nd.ok(n:Nd):Bool:=n.leafOk||n.innerOk
def Zqj(b:Bool):Value:=.int .i64 (bif b then 0 else 2)
theorem Ui(v:Value)(n:Nd)(hv:NdV P v n)(hs:n.Small):Sp SET 198 [v] L P (fun r L' P'=>r=Zqj n.ok∧L'=L∧P'=P):=by
 obtain⟨pv,kv,iv,rfl,hp,hk,hi⟩:=hv.ex;refine .bo (fn:=Tryz.f198) (N:=8) ?_;refine .seq (.region ?_);refine .bx (cs:=[_,_,_,_]) fun b1=>?_;refine .pu .as (.nil (.seq (.seq (.region (.lda (vs:=[_,_,_,_]) ?_)))));refine .call (Zfv _ _ _ n hv hs) ?_;rintro _ _ _ ⟨rfl,rfl,rfl⟩;refine .pu .mv ?_;cases h1:n.leafOk
 case true=>
  repeat (first|refine .off ?_|refine .pu .pk ?_)
  refine .nil (.yes rfl (.seq (.region (.pu .as (.nil (.ret ?_))))));exact⟨_,.tmp rfl .nil,_,_,.d1,by simp only[Nd.ok,h1];rfl,rfl,rfl⟩
 refine .on (.lda (vs:=[_,_,_,_]) ?_);refine .on ?_;refine .call (Zqi _ _ _ n hv hs) ?_;rintro _ _ _ ⟨rfl,rfl,rfl⟩;refine .pu .pk (.nil ?_);refine .ite rfl (fun h=>?_) (fun h=>?_)
 ·refine .seq (.region (.pu .as (.nil (.ret ?_))));exact⟨_,.tmp rfl .nil,_,_,.d1,by simp only[Nd.ok,h1,h];rfl,rfl,rfl⟩
 refine .skip (.seq (.region (.pu .as (.nil (.ret ?_)))));exact⟨_,.tmp rfl .nil,_,_,.d1,by simp only[Nd.ok,h1,h];rfl,rfl,rfl⟩
def weight(ps:List Pr):Nat:=(ps.map fun p=>2+p.1.length+p.2.length).sum
theorem Zfw{ps:List Pr}{i:Nat}(h:i<ps.length):weight (ps.take (i+1))=weight (ps.take i)+(2+ps[i].1.length+ps[i].2.length):=by
 unfold weight;rw[List.take_succ_eq_append_getElem h,List.map_append,List.sum_append];simp
theorem Zaj(ps:List Pr)(i:Nat):weight (ps.take i)≤weight ps:=by
 unfold weight
 conv=>rhs;rw[←List.take_append_drop i ps,List.map_append,List.sum_append]
 omega
theorem Zak(v:Value)(ps:List Pr)(hv:Sl 2 v (ps.map Zc)∈P)(hb:weight ps≤1099511627776)(hl:ps.length≤1099511627776):Sp SET 219 [v] L P (fun r L' P'=>r=.int .i64 (weight ps)∧L'=L∧P'=P):=by
 refine .bo (fn:=Tryz.f219) (N:=23) ?_;refine .seq (.region (.pu .as (.nil (.seq (.region (.pu .as (.nil (.seq (.seq (.region (.pu .mv (.lk .ln ?_))))))))))));refine .pu .mv (.nil (.block ?_));refine W.loop (fun i=>i≤ps.length) (fun i=>ps.length-i) (fun i=>[(8,.int .i64 (i:Nat)),(3,.int .i64 (weight (ps.take i):Nat)),(6,v),(7,.int .i64 (ps.map Zc).length)]) (fun _=>L) (fun _=>P) 0 (by omega) ⟨rfl,rfl,rfl,rfl,trivial⟩ (.refl _ _) (fun i hi=>?_);have hlen:(ps.map Zc).length=ps.length:=List.length_map ..;refine .seq (.region ?_);by_cases hlt:i<ps.length
 ·have hw:=Zfw hlt;have hle:=Zaj ps (i+1);have hg:(ps.map Zc)[(i:Int).toNat]? =some (Zc ps[i]):=Jl hlt;refine .pu .cy (.nil (.seq (.yes rfl (.skip (.seq (.block (.seq (.region (.lk .ia ?_)))))))));refine .la hg ?_;refine .nw (cs:=[S [],S []]) (fun b=>?_);refine .st (vs:=[_,_]) (.nil ?_);refine .region (.pu .mv (.pu .fa (.ld ?_)));refine .pu .ls (.pu .add (.pu .fa (.ld ?_)));refine .pu .ls (.pu .add (.pu .add (.pu .as (.nil (.region (.pu .add (.pu .mv (.nil ?_))))))));refine⟨i+1,by omega,by show ps.length-(i+1)<ps.length-i;omega,⟨rfl,?_,rfl,rfl,trivial⟩,Ent.drop⟩;show some _=some _;congr 2;omega
 ·refine .pu .cn (.nil (.seq (.no rfl (.exit (.seq (.region (.pu .mv (.pu .as (.nil (.ret ?_))))))))));refine⟨_,.tmp rfl .nil,_,_,.refl _ _,?_,rfl,rfl⟩;show Value.int _ _=_;congr 2;rw[List.take_of_length_le (by omega)]
def Zy(ks:List Bs):Nat:=(ks.map fun k=>1+k.length).sum
theorem Zqk{ks:List Bs}{i:Nat}(h:i<ks.length):Zy (ks.take (i+1))=Zy (ks.take i)+(1+ks[i].length):=by
 unfold Zy;rw[List.take_succ_eq_append_getElem h,List.map_append,List.sum_append];simp
theorem Zql(ks:List Bs)(i:Nat):Zy (ks.take i)≤Zy ks:=by
 unfold Zy
 conv=>rhs;rw[←List.take_append_drop i ks,List.map_append,List.sum_append]
 omega
def Nd.size(n:Nd):Nat:=bif n.leaf then 2+weight n.pairs else 2+2*n.kids.length+Zy n.keys
theorem Hr(v:Value)(n:Nd)(hv:NdV P v n)(hs:n.Small)(hw:weight n.pairs≤1099511627776)(hkw:Zy n.keys≤1099511627776):Sp SET 156 [v] L P (fun r L' P'=>r=.int .i64 (n.size:Int)∧L'=L∧P'=P):=by
 obtain⟨pv,kv,iv,rfl,hp,hk,hi⟩:=hv.ex;have lk':(n.keys.map encS).length=n.keys.length:=List.length_map ..;have li:(n.kids.map encI).length=n.kids.length:=List.length_map ..;have s1:=hs.p;have s2:=hs.k;have s3:=hs.i;refine .bo (fn:=Tryz.f156) (N:=30) ?_;refine .seq (.region ?_);refine .bx (cs:=[_,_,_,_]) fun b1=>?_;refine .pu .as (.nil (.seq (.seq (.region (.pu .fa (.ld (.nil ?_)))))));refine .ite rfl (fun h=>?_) (fun h=>?_)
 ·refine .seq (.region (.pu .fa (.ld ?_)));refine .call (Zak _ _ _ n.pairs hp hw s1) ?_;rintro _ _ _ ⟨rfl,rfl,rfl⟩;refine .pu .add (.pu .as (.nil (.ret ?_)));refine⟨_,.tmp rfl .nil,_,_,.d1,?_,rfl,rfl⟩;show Value.int _ _=_;unfold Nd.size;rw[h];simp only[cond_true];congr 1
 refine .skip (.seq (.region (.pu .fa (.ld ?_))));refine .lk .ln ?_;refine .pu .mul (.pu .add (.pu .as (.nil (.seq (.seq (.region (.pu .fa (.ld ?_))))))));refine .lk .ln ?_;refine .pu .mv (.nil ?_);refine .block (W.loop (fun i=>i≤n.keys.length) (fun i=>n.keys.length-i) (fun i=>[(20,.int .i64 (i:Nat)),(3,.int .i64 (2+2*((n.kids.map encI).length:Int)+(Zy (n.keys.take i):Nat))),(18,kv),(19,.int .i64 (n.keys.map encS).length)]) (fun _=>L) (fun _=>P) 0 (by omega) ⟨rfl,?_,rfl,rfl,trivial⟩ .d1 (fun i hle=>?_))
 ·show some _=some _;congr 2
 refine .seq (.region (.pu .cmp (.nil ?_)));refine .seq (.ite rfl (fun h=>?_) (fun h=>?_))
 ·have h:=of_decide_eq_true h;have hlt:i<n.keys.length:=by omega
  have hkt:=Zqk hlt;have hkl:=Zql n.keys (i+1);refine .skip (.seq (.block (.seq (.region (.lk .ia ?_)))));refine .le (J9 (i:=(i:Int).toNat) hlt) ?_;refine .pu .as (.nil (.region (.pu .mv (.pu .mv (.pu .ls ?_)))));have e:n.keys[(i:Int).toNat].length=n.keys[i].length:=rfl;refine .pu .add (.pu .add (.pu .as (.nil (.region (.pu .add (.pu .mv (.nil ?_)))))));refine⟨i+1,by omega,by show n.keys.length-(i+1)<n.keys.length-i;omega,⟨rfl,?_,rfl,rfl,trivial⟩,.refl _ _⟩;show some _=some _;congr 2;omega
 have h:=of_decide_eq_false h;refine .exit (.seq (.region (.pu .mv (.pu .as (.nil (.ret ?_))))));refine⟨_,.tmp rfl .nil,_,_,.refl _ _,?_,rfl,rfl⟩;show Value.int _ _=_;unfold Nd.size;have hf:n.leaf=false:=by assumption
 rw[hf];simp only[cond_false];congr 1;rw[List.take_of_length_le (by omega)];omega
theorem Zal(a:Bs):Sp SET 242 [S a] L P (fun r L' P'=>r=.bool false∧L'=L∧P'=P):=by
 refine .bo (fn:=Tryz.f242) (N:=5) ?_;refine .seq (.region (.pu .as (.nil (.seq (.region (.pu .mv (.pu .mv ?_)))))));refine .pu (.sne (q:=false) (hq:=by simp)) ?_;refine .pu .as (.nil (.ret ?_));exact⟨_,.tmp rfl .nil,_,_,.refl _ _,rfl,rfl,rfl⟩
def Jm(a b:Bs):Int:=bif Zd a b then -1 else bif Zd b a then 1 else 0
theorem Kb :∀a:Bs,Zd a a=false
 |[]=>rfl
 |x::a=>by
  show(decide (x<x)||(x==x&&Zd a a))=false;rw[Kb a,Bool.and_false,Bool.or_false];exact decide_eq_false (UInt8.lt_irrefl x)
theorem Ht :∀a b:Bs,Zd a b=false→Zd b a=false→a=b
 |[],[],_,_=>rfl
 |[],_::_,h,_=>by cases h
 |_::_,[],_,h=>by cases h
 |x::a,y::b,h,h'=>by
  have h:(decide (x<y)||(x==y&&Zd a b))=false:=h;have h':(decide (y<x)||(y==x&&Zd b a))=false:=h';rw[Bool.or_eq_false_iff]at h h';have e:x=y:=by
   have h1:=of_decide_eq_false h.1;have h2:=of_decide_eq_false h'.1;exact UInt8.le_antisymm (UInt8.not_lt.1 h2) (UInt8.not_lt.1 h1)
  subst e;have h1:Zd a b=false:=by simpa using h.2
  have h2:Zd b a=false:=by simpa using h'.2
  rw[Ht a b h1 h2]
theorem Fv :∀a b:Bs,Zd a b=true→Zd b a=false
 |[],[],h=>by cases h
 |[],_::_,_=>rfl
 |_::_,[],h=>by cases h
 |x::a,y::b,h=>by
  have h:(decide (x<y)||(x==y&&Zd a b))=true:=h;show(decide (y<x)||(y==x&&Zd b a))=false;rw[Bool.or_eq_true]at h;rcases h with h|h
  ·have h:=of_decide_eq_true h;have h1:¬y<x:=UInt8.not_lt.2 (UInt8.le_of_lt h);have h2:(y==x)=false:=by
    simp only[beq_eq_false_iff_ne,ne_eq];intro e;subst e;exact absurd h (UInt8.lt_irrefl _)
   rw[decide_eq_false h1,h2];rfl
  ·rw[Bool.and_eq_true]at h;have e:x=y:=by simpa using h.1
   subst e;rw[Fv a b h.2,Bool.and_false,Bool.or_false];exact decide_eq_false (UInt8.lt_irrefl x)
theorem Zfx(a b:Bs):(!(Zd a b||decide (a=b)))=Zd b a:=by
 cases h:Zd a b with
 |true=>rw[Fv a b h];rfl
 |false=>
  cases h':Zd b a with
  |true=>
   have:a≠b:=fun e=>by subst e;rw[h']at h;cases h
   simp[this]
  |false=>rw[Ht a b h h'];simp
theorem Zqm(a b:Bs):Sp SET 213 [S a,S b] L P (fun r L' P'=>r=.int .i64 (Jm a b)∧L'=L∧P'=P):=by
 refine .bo (fn:=Tryz.f213) (N:=19) ?_;refine .seq (.region (.pu .as (.nil (.seq (.region (.pu .mv ?_))))));refine .call (Zal _ _ _) ?_;rintro _ L P ⟨rfl,rfl,rfl⟩;refine .pu .as (.nil (.seq (.region (.pu .mv ?_))));refine .call (Zal _ _ _) ?_;rintro _ L P ⟨rfl,rfl,rfl⟩;refine .pu .as (.nil (.seq (.seq (.region (.pu .mv (.nil ?_))))));refine .no rfl (.skip (.seq (.seq (.region (.pu .mv (.nil ?_))))));refine .no rfl (.skip (.seq (.seq (.region (.pu .mv (.pu .mv (.pu .slt (.nil ?_))))))));refine .ite rfl (fun ht16=>?_) (fun ht16=>?_)
 ·refine .seq (.region (.pu .as (.nil (.ret ?_))));exact⟨_,.tmp rfl .nil,_,_,.refl _ _,by unfold Jm;rw[ht16];rfl,rfl,rfl⟩
 refine .skip (.seq (.seq (.region (.pu .mv (.pu .mv (.pu .sgt (.nil ?_)))))));refine .ite rfl (fun ht19=>?_) (fun ht19=>?_)
 ·refine .seq (.region (.pu .as (.nil (.ret ?_))));exact⟨_,.tmp rfl .nil,_,_,.refl _ _,by rw[Zfx]at ht19;unfold Jm;rw[ht16,ht19];rfl,rfl,rfl⟩
 refine .skip (.seq (.region (.pu .as (.nil (.ret ?_)))));exact⟨_,.tmp rfl .nil,_,_,.refl _ _,by rw[Zfx]at ht19;unfold Jm;rw[ht16,ht19];rfl,rfl,rfl⟩
theorem Zfy(p:Pr)(k:Bs):Sp SET 212 [.agg ⟨Zc p⟩,S k] L P (fun r L' P'=>r=.int .i64 (Jm p.1 k)∧L'=L∧P'=P):=by
 refine .bo (fn:=Tryz.f212) (N:=8) ?_;refine .seq (.region ?_);refine .bx (cs:=[_,_]) fun b2=>?_;refine .pu .as (.nil (.seq (.region (.pu .fa (.ld ?_)))));refine .pu .mv ?_;refine .call (Zqm _ _ _ _) ?_;rintro _ L P ⟨rfl,rfl,rfl⟩;refine .pu .as (.nil (.ret ?_));exact⟨_,.tmp rfl .nil,_,_,.d1,rfl,rfl,rfl⟩
theorem Kc :∀a b c:Bs,Zd a b=true→Zd b c=true→Zd a c=true
 |a,[],_,h,_=>by cases a<;>cases h
 |[],_::_,[],_,h=>by cases h
 |[],_::_,_::_,_,_=>rfl
 |_::_,_::_,[],_,h=>by cases h
 |x::a,y::b,z::c,h,h'=>by
  have h:(decide (x<y)||(x==y&&Zd a b))=true:=h;have h':(decide (y<z)||(y==z&&Zd b c))=true:=h';show(decide (x<z)||(x==z&&Zd a c))=true;rw[Bool.or_eq_true,Bool.and_eq_true]at h h' ⊢;rcases h with h|⟨h1,h2⟩
  ·rcases h' with h'|⟨h3,h4⟩
   ·exact .inl (decide_eq_true (UInt8.lt_trans (of_decide_eq_true h) (of_decide_eq_true h')))
   ·have e:y=z:=by simpa using h3
    subst e;exact .inl h
  ·have e:x=y:=by simpa using h1
   subst e;rcases h' with h'|⟨h3,h4⟩
   ·exact .inl h'
   ·exact .inr ⟨h3,Kc a b c h2 h4⟩
theorem Zfz{ks:List Bs}(h:rise ks=true):∀(d i:Nat) (hj:i+d+1<ks.length),Zd ks[i] ks[i+d+1]=true
 |0,i,hj=>(Hq ks).1 h i hj
 |d+1,i,hj=>Kc _ _ _ (Zfz h d i (by omega)) ((Hq ks).1 h (i+d+1) hj)
theorem Zf0{ks:List Bs}(h:rise ks=true){i j:Nat}(hij:i<j)(hj:j<ks.length):Zd ks[i] ks[j]=true:=by
 obtain⟨d,rfl⟩:∃d,j=i+d+1:=⟨j-i-1,by omega⟩;exact Zfz h d i hj
def lb(ks:List Bs)(k:Bs):Nat:=(ks.takeWhile fun x=>Zd x k).length
theorem Zf1(k:Bs):∀(ks:List Bs) (i:Nat),i≤ks.length→(∀j (h:j<ks.length),j<i→Zd ks[j] k=true)→(∀j (h:j<ks.length),i≤j→Zd ks[j] k=false)→lb ks k=i
 |[],i,h,_,_=>by simp at h;subst h;rfl
 |a::ks,0,_,_,h2=>by
  have:=h2 0 (by simp) (by omega);unfold lb;rw[List.takeWhile_cons_of_neg (by simpa using this)];rfl
 |a::ks,i+1,h,h1,h2=>by
  have h0:=h1 0 (by simp) (by omega);unfold lb;rw[List.takeWhile_cons_of_pos (by simpa using h0),List.length_cons];have:=Zf1 k ks i (by simpa using h) (fun j hj hji=>h1 (j+1) (by simpa using hj) (by omega)) (fun j hj hij=>h2 (j+1) (by simpa using hj) (by omega));unfold lb at this;rw[this]
theorem Zqn(a b:Bs):decide (Jm a b<0)=Zd a b:=by
 unfold Jm;cases h:Zd a b<;>cases h':Zd b a<;>rfl
theorem Zqo(a b:Bs):decide (Jm a b=0)=decide (a=b):=by
 unfold Jm;cases h:Zd a b with
 |true=>
  have:a≠b:=fun e=>by subst e;rw[Kb]at h;cases h
  simp[this]
 |false=>
  cases h':Zd b a with
  |true=>
   have:a≠b:=fun e=>by subst e;rw[Kb]at h';cases h'
   simp[this]
  |false=>rw[Ht a b h h'];simp
structure Bin(ks:List Bs)(k:Bs)(i j:Nat):Prop where
 le:i≤j
 len:j≤ks.length
 lo:∀m (h:m<ks.length),m<i→Zd ks[m] k=true
 hi:∀m (h:m<ks.length),j≤m→Zd ks[m] k=false
theorem Bin.yes{ks:List Bs}{k:Bs}{i j h:Nat}(b:Bin ks k i j)(hr:rise ks=true)(hj:h<j)(hi:i≤h)(hl:Zd (ks[h]'(by have:=b.len;omega)) k=true):Bin ks k (h+1) j:=
 ⟨by omega,b.len,fun m hm hmi=>by
  rcases Nat.lt_or_ge m h with h1|h1
  ·exact Kc _ _ _ (Zf0 hr h1 (by have:=b.len;omega)) hl
  ·have:m=h:=by omega
   subst this;exact hl,b.hi⟩
theorem Bin.no{ks:List Bs}{k:Bs}{i j h:Nat}(b:Bin ks k i j)(hr:rise ks=true)(hj:h<j)(hi:i≤h)(hl:Zd (ks[h]'(by have:=b.len;omega)) k=false):Bin ks k i h:=
 ⟨hi,by have:=b.len;omega,b.lo,fun m hm hmh=>by
  rcases Nat.lt_or_ge h m with h1|h1
  ·cases hc:Zd ks[m] k with
   |false=>rfl
   |true=>
    rw[Kc _ _ _ (Zf0 hr h1 hm) hc]at hl;cases hl
  ·have:m=h:=by omega
   subst this;exact hl⟩
theorem Bin.eq{ks:List Bs}{k:Bs}{i:Nat}(b:Bin ks k i i):lb ks k=i:=Zf1 k ks i b.len b.lo b.hi
theorem half(i j:Nat):Int.fdiv (((i:Nat):Int)+(j:Nat)) ((2^1:Nat):Int)=((i+j)/2:Nat):=by
 rw[Int.fdiv_eq_ediv_of_nonneg _ (by decide)];rfl
theorem Zqp(v:Value)(xs:List Pr)(k:Bs)(hv:Zj 2 v (xs.map Zc) L P)(hl:xs.length≤1099511627776)(hr:rise (xs.map (·.1))=true):Sp SET 211 [v,S k,.func (.func 212) #[] #[]] L P (fun r L' P'=>r=.tuple ⟨[.int .i64 (lb (xs.map (·.1)) k:Nat),.bool (decide ((xs.map (·.1))[lb (xs.map (·.1)) k]? =some k))]⟩∧L'=L∧P'=P):=by
 refine .bo (fn:=Tryz.f211) (N:=48) ?_;have hlen:(xs.map Zc).length=xs.length:=List.length_map ..;have hlk:(xs.map (·.1)).length=xs.length:=List.length_map ..;refine .seq (.region (.pu .as (.pu .as (.nil (.seq (.region (.pu .mv (.lk .ln ?_))))))));refine .pu .as (.nil (.seq (.region (.pu .mv (.pu .as (.pu .as (.nil ?_)))))));refine .seq (.block (W.loop (fun(p:Nat×Nat)=>Bin (xs.map (·.1)) k p.1 p.2) (fun p=>p.2-p.1) (fun p=>[(9,.int .i64 (p.1:Nat)),(10,.int .i64 (p.2:Nat)),(0,v),(1,S k),(2,.func (.func 212) #[] #[]),(8,.int .i64 ((xs.map Zc).length:Int))]) (fun _=>L) (fun _=>P) (0,(xs.map Zc).length) ⟨by omega,by omega,fun m hm h=>by omega,fun m hm h=>by omega⟩ ⟨rfl,rfl,rfl,rfl,rfl,rfl,trivial⟩ (.refl _ _) (fun p hp=>?_)));obtain⟨i,j⟩:=p;have hp:Bin (xs.map (·.1)) k i j:=hp;have hle:=hp.le;have hjl:=hp.len;refine .seq (.seq (.region (.pu .mv (.pu .mv (.pu .cmp (.nil ?_))))))
 refine .ite rfl (fun h=>?_) (fun h=>?_)
 ·refine .skip (.block (.seq (.region ?_)));have h:=of_decide_eq_true h;have hm:(i+j)/2<xs.length:=by omega
  refine .pu .mv (.pu .mv (.pu .add (.pu .ci (.pu (.i_shr (hc:=half i j)) (.pu .ci (.pu .as (.nil (.seq (.region (.pu .mv (.pu .mv (.pu .mv (.lk .ia ?_)))))))))))));refine .la (Jl (i:=(((i+j)/2:Nat):Int).toNat) hm) ?_;refine .pu .mv ?_;refine .call (Zfy _ _ _ _) ?_;rintro _ L P ⟨rfl,rfl,rfl⟩;refine .pu .cmp (.nil ?_);refine .ite rfl (fun h2=>?_) (fun h2=>?_)
  all_goals rw[Zqn]at h2
  ·refine .region (.pu .mv (.pu .add (.pu .as (.nil ?_))));refine⟨((i+j)/2+1,j),hp.yes hr (by omega) (by omega) (by rw[List.getElem_map];exact h2),by show j-((i+j)/2+1)<j-i;omega,⟨rfl,rfl,rfl,rfl,rfl,rfl,trivial⟩,.refl _ _⟩
  refine .region (.pu .mv (.pu .as (.nil ?_)));refine⟨(i,(i+j)/2),hp.no hr (by omega) (by omega) (by rw[List.getElem_map];exact h2),by show(i+j)/2-i<j-i;omega,⟨rfl,rfl,rfl,rfl,rfl,rfl,trivial⟩,.refl _ _⟩
 refine .exit (.seq (.region ?_));have h:=of_decide_eq_false h;have e:i=j:=by omega
 subst e;have hb:=hp.eq;refine .pu .mv (.pu .mv (.pu .mv ?_));by_cases hlt:i<xs.length
 case neg=>
  refine .pu .cn (.pu .mv ?_)
  repeat (first|refine .off ?_|refine .offU ?_|refine .pu .pk ?_|refine .pu .as ?_)
  refine .nil (.ret ?_);refine⟨_,.tmp rfl (.tmp rfl .nil),_,_,.refl _ _,?_,rfl,rfl⟩;rw[hb,List.getElem?_eq_none (by omega)];rfl
 refine .pu .cy (.pu .mv (.on (.pu .mv (.on (.pu .mv (.on (.pu .mv (.on (.lk .ia ?_)))))))));refine .on (.la (Jl (i:=(i:Int).toNat) hlt) ?_);refine .on (.pu .mv ?_);refine .on ?_;refine .call (Zfy _ _ _ _) ?_;rintro _ L P ⟨rfl,rfl,rfl⟩;refine .on (.pu .cmp (.pu .pk (.pu .as (.pu .as (.nil (.ret ?_))))));refine⟨_,.tmp rfl (.tmp rfl .nil),_,_,.refl _ _,?_,rfl,rfl⟩;rw[hb,List.getElem?_eq_getElem (by omega)];show Value.tuple ⟨[_,.bool (decide (Jm _ _=0))]⟩=_;rw[Zqo];simp
theorem Zf2(v:Value)(xs:List Pr)(k:Bs)(hv:Zj 2 v (xs.map Zc) L P)(hl:xs.length≤1099511627776)(hr:rise (xs.map (·.1))=true):Sp SET 152 [v,S k] L P (fun r L' P'=>r=.tuple ⟨[.int .i64 (lb (xs.map (·.1)) k:Nat),.bool (decide ((xs.map (·.1))[lb (xs.map (·.1)) k]? =some k))]⟩∧L'=L∧P'=P):=by
 refine .bo (fn:=Tryz.f152) (N:=10) ?_;refine .seq (.region (.pu .as (.pu .as (.nil (.seq (.region (.pu .mv (.pu .mv ?_))))))));refine .call (Zqp _ _ _ xs k hv hl hr) ?_;rintro _ L P ⟨rfl,rfl,rfl⟩;refine .pu .ex (.pu .ex (.pu .as (.pu .as (.nil (.ret ?_)))));exact⟨_,.tmp rfl (.tmp rfl .nil),_,_,.refl _ _,rfl,rfl,rfl⟩
theorem Zqq(a:Bs):Sp SET 240 [S a] L P (fun r L' P'=>r=.bool false∧L'=L∧P'=P):=by
 refine .bo (fn:=Tryz.f240) (N:=5) ?_;refine .seq (.region (.pu .as (.nil (.seq (.region (.pu .mv (.pu .mv ?_)))))));refine .pu (.sne (q:=false) (hq:=by simp)) ?_;refine .pu .as (.nil (.ret ?_));exact⟨_,.tmp rfl .nil,_,_,.refl _ _,rfl,rfl,rfl⟩
theorem Zqr(a b:Bs):Sp SET 239 [S a,S b] L P (fun r L' P'=>r=.bool (Zd a b)∧L'=L∧P'=P):=by
 refine .bo (fn:=Tryz.f239) (N:=16) ?_;refine .seq (.region (.pu .as (.nil (.seq (.region (.pu .mv ?_))))));refine .call (Zal _ _ _) ?_;rintro _ L P ⟨rfl,rfl,rfl⟩;refine .pu .mv (.off (.off (.off (.pu .pk (.pu .mv (.on (.pu .mv (.on (.pu .mv (.on (.pu .slt (.pu .pk (.pu .as (.nil (.ret ?_)))))))))))))));exact⟨_,.tmp rfl .nil,_,_,.refl _ _,rfl,rfl,rfl⟩
theorem Zqs(v:Value)(xs:List Bs)(k:Bs)(hv:Zj 1 v (xs.map encS) L P)(hl:xs.length≤1099511627776)(hr:rise xs=true):Sp SET 203 [v,S k] L P (fun r L' P'=>r=.tuple ⟨[.int .i64 (lb xs k:Nat),.bool (decide (xs[lb xs k]? =some k))]⟩∧L'=L∧P'=P):=by
 refine .bo (fn:=Tryz.f203) (N:=53) ?_;have hlen:(xs.map encS).length=xs.length:=List.length_map ..;refine .seq (.region (.pu .as (.pu .as (.nil (.seq (.region (.pu .mv (.lk .ln ?_))))))));refine .pu .as (.nil (.seq (.region (.pu .mv (.pu .as (.pu .as (.nil ?_)))))));refine .seq (.block (W.loop (fun(p:Nat×Nat)=>Bin xs k p.1 p.2) (fun p=>p.2-p.1) (fun p=>[(7,.int .i64 (p.1:Nat)),(8,.int .i64 (p.2:Nat)),(0,v),(1,S k),(6,.int .i64 ((xs.map encS).length:Int))]) (fun _=>L) (fun _=>P) (0,(xs.map encS).length) ⟨by omega,by omega,fun m hm h=>by omega,fun m hm h=>by omega⟩ ⟨rfl,rfl,rfl,rfl,rfl,trivial⟩ (.refl _ _) (fun p hp=>?_)));obtain⟨i,j⟩:=p;have hp:Bin xs k i j:=hp;have hle:=hp.le;have hjl:=hp.len;refine .seq (.seq (.region (.pu .mv (.pu .mv (.pu .cmp (.nil ?_))))));refine .ite rfl (fun h=>?_) (fun h=>?_)
 ·refine .skip (.block (.seq (.region ?_)));have h:=of_decide_eq_true h;have hm:(i+j)/2<xs.length:=by omega
  refine .pu .mv (.pu .mv (.pu .add (.pu .ci (.pu (.i_shr (hc:=half i j)) (.pu .ci (.pu .as (.nil (.seq (.region (.pu .mv (.pu .mv (.lk .ia ?_))))))))))));refine .le (J9 (i:=(((i+j)/2:Nat):Int).toNat) hm) ?_;refine .pu .mv ?_;refine .call (Zqr _ _ _ _) ?_;rintro _ L P ⟨rfl,rfl,rfl⟩;refine .nil ?_;refine .ite rfl (fun h2=>?_) (fun h2=>?_)
  ·refine .region (.pu .mv (.pu .add (.pu .as (.nil ?_))));refine⟨((i+j)/2+1,j),hp.yes hr (by omega) (by omega) h2,by show j-((i+j)/2+1)<j-i;omega,⟨rfl,rfl,rfl,rfl,rfl,trivial⟩,.refl _ _⟩
  refine .region (.pu .mv (.pu .as (.nil ?_)));refine⟨(i,(i+j)/2),hp.no hr (by omega) (by omega) h2,by show(i+j)/2-i<j-i;omega,⟨rfl,rfl,rfl,rfl,rfl,trivial⟩,.refl _ _⟩
 refine .exit (.seq (.region ?_));have h:=of_decide_eq_false h;have e:i=j:=by omega
 subst e;have hb:=hp.eq;refine .pu .mv (.pu .mv (.pu .mv ?_));by_cases hlt:i<xs.length
 case neg=>
  refine .pu .cn (.pu .mv ?_)
  repeat (first|refine .off ?_|refine .offU ?_|refine .pu .pk ?_|refine .pu .as ?_)
  refine .nil (.ret ?_);refine⟨_,.tmp rfl (.tmp rfl .nil),_,_,.refl _ _,?_,rfl,rfl⟩;rw[hb,List.getElem?_eq_none (by omega)];rfl
 refine .pu .cy (.pu .mv (.on (.pu .mv (.on (.pu .mv (.on (.lk .ia ?_)))))));refine .on (.le (J9 (i:=(i:Int).toNat) hlt) ?_);refine .on (.pu .mv ?_);by_cases hq:xs[i]=k
 case pos=>
  refine .on (.pu (.seq (q:=true) (hq:=decide_eq_true hq)) (.on (.pu .mv ?_)))
  repeat (first|refine .off ?_|refine .offU ?_|refine .pu .pk ?_|refine .pu .as ?_|refine .on (.pu .pk ?_))
  refine .nil (.ret ?_);refine⟨_,.tmp rfl (.tmp rfl .nil),_,_,.refl _ _,?_,rfl,rfl⟩;rw[hb,List.getElem?_eq_getElem hlt,decide_eq_true (by rw[hq])];rfl
 refine .on (.pu (.seq (q:=false) (hq:=decide_eq_false hq)) (.on (.pu .mv (.on (.pu .mv (.on (.pu .mv (.on (.lk .ia ?_)))))))));refine .on (.le (J9 (i:=(i:Int).toNat) hlt) ?_);refine .on ?_;refine .call (Zqq _ _ _) ?_;rintro _ L P ⟨rfl,rfl,rfl⟩;refine .on (.pu .mv (.off (.off (.on (.pu .pk (.on (.pu .pk (.pu .pk (.pu .as (.pu .as (.nil (.ret ?_))))))))))));refine⟨_,.tmp rfl (.tmp rfl .nil),_,_,.refl _ _,?_,rfl,rfl⟩;rw[hb,List.getElem?_eq_getElem hlt,decide_eq_false (by simpa using hq)];rfl
def Nd.find(n:Nd)(k:Bs):Nat:=bif n.leaf then lb (n.pairs.map (·.1)) k else bif decide (n.keys[lb n.keys k]? =some k)then lb n.keys k+1 else lb n.keys k
theorem Gk(ks:List Bs)(k:Bs):lb ks k≤ks.length:=by unfold lb;exact(List.takeWhile_sublist _).length_le
theorem Zam(v:Value)(n:Nd)(k:Bs)(hv:NdV P v n)(hs:n.Small)(hok:n.ok=true):Sp SET 146 [v,S k] L P (fun r L' P'=>r=.tuple ⟨[.int .i64 (n.find k:Nat),.int .i64 0]⟩∧L'=L∧P'=P):=by
 obtain⟨pv,kv,iv,rfl,hp,hk,hi⟩:=hv.ex;have s1:=hs.p;have s2:=hs.k;refine .bo (fn:=Tryz.f146) (N:=33) ?_;refine .seq (.region ?_);refine .bx (cs:=[_,_,_,_]) fun b2=>?_;refine .pu .as (.pu .as (.nil (.seq (.seq (.region (.lda (vs:=[_,_,_,_]) ?_))))));refine .call (Ui _ _ _ n hv hs) ?_;rintro _ L P ⟨rfl,rfl,rfl⟩;refine .pu (.cmp (q:=false) (hq:=by rw[hok];rfl)) ?_;refine .nil ?_;refine .no rfl (.skip (.seq (.seq (.region (.pu .fa (.ld ?_))))));refine .nil ?_;refine .ite rfl (fun hlf=>?_) (fun hlf=>?_)
 ·refine .seq (.region ?_);have hr:rise (n.pairs.map (·.1))=true:=by
   simp only[Nd.ok,Nd.leafOk,Nd.innerOk,hlf,Bool.true_and,Bool.not_true,Bool.false_and,Bool.or_false,Bool.and_eq_true]at hok;exact hok.2.2.2
  refine .pu .fa (.ld ?_);refine .pu .mv ?_;refine .call (Zf2 _ _ _ n.pairs k (.s (.p hp)) s1 hr) ?_;rintro _ L P ⟨rfl,rfl,rfl⟩;refine .pu .mv (.pu .ex (.pu .ex (.pu .as (.pu .as (.nil (.seq (.region (.pu .mv (.pu .as (.pu .as (.nil (.ret ?_))))))))))));exact⟨_,.tmp rfl (.tmp rfl .nil),_,_,.d1,by unfold Nd.find;rw[hlf];rfl,rfl,rfl⟩
 refine .skip (.seq (.region ?_));have hr:rise n.keys=true:=by
  simp only[Nd.ok,Nd.leafOk,Nd.innerOk,hlf,Bool.false_and,Bool.not_false,Bool.true_and,Bool.false_or,Bool.and_eq_true]at hok;exact hok.2.2.2.2.2.2
 have hlb:=Gk n.keys k;refine .pu .fa (.ld ?_);refine .pu .mv ?_;refine .call (Zqs _ _ _ n.keys k (.s (.p hk)) s2 hr) ?_;rintro _ L P ⟨rfl,rfl,rfl⟩;refine .pu .mv (.pu .ex (.pu .ex (.pu .as (.pu .as (.nil (.seq (.seq (.region (.pu .mv (.nil ?_))))))))));refine .ite rfl (fun hf=>?_) (fun hf=>?_)
 ·refine .region (.pu .mv (.pu .add (.pu .as (.nil (.seq (.region (.pu .mv (.pu .as (.pu .as (.nil (.ret ?_)))))))))));exact⟨_,.tmp rfl (.tmp rfl .nil),_,_,.d1,by unfold Nd.find;rw[hlf,hf];rfl,rfl,rfl⟩
 refine .skip (.seq (.region (.pu .mv (.pu .as (.pu .as (.nil (.ret ?_)))))));exact⟨_,.tmp rfl (.tmp rfl .nil),_,_,.d1,by unfold Nd.find;rw[hlf,hf];rfl,rfl,rfl⟩
theorem Ent.sl0{L P:List Asn}{k c:Nat}:Ent L P L (Sl k (.slice none 0 c) []::P):=fun S s hs=>⟨S,fun _ h=>h,⟨hs.own,fun A hA=>by
 rcases List.mem_cons.1 hA with rfl|hA
 ·exact⟨fun _=>False,⟨none,c,rfl,Nat.zero_le _,.inl rfl⟩,fun b h=>h.elim⟩
 ·exact hs.per A hA,hs.ex,hs.fresh⟩⟩
theorem Hu(ps:List Pr):∀f∈ps.map Zc,ones f=true:=fun f hf=>by
 obtain⟨p,_,rfl⟩:=List.mem_map.1 hf;rfl
def Ya(ps:List Pr)(k v:Bs):List Pr:=bif decide ((ps.map (·.1))[lb (ps.map (·.1)) k]? =some k)then ps.set (lb (ps.map (·.1)) k) (k,v)else ps.take (lb (ps.map (·.1)) k)++((k,v)::ps.drop (lb (ps.map (·.1)) k))
theorem Zqt{ps:List Pr}{k w:Bs}(h:decide ((ps.map (·.1))[lb (ps.map (·.1)) k]? =some k)=true):(ps.map Zc).set ((lb (ps.map (·.1)) k:Nat):Int).toNat (Zc (k,w))=(Ya ps k w).map Zc:=by
 unfold Ya;rw[h,cond_true,List.map_set,Int.toNat_natCast]
theorem Zqu{ps:List Pr}{k w:Bs}(h:decide ((ps.map (·.1))[lb (ps.map (·.1)) k]? =some k)=false):(ps.map Zc).take (lb (ps.map (·.1)) k)++([Zc (k,w)]++(ps.map Zc).drop (lb (ps.map (·.1)) k))=(Ya ps k w).map Zc:=by
 unfold Ya;rw[h,cond_false,List.map_append,List.map_take,List.map_cons,List.map_drop];rfl
def Zh(ps:List Pr):Nd:=⟨true,ps,[],[]⟩
def NdR(n:Nd)(L P:List Asn)(r:Value)(L' P':List Asn):Prop:=∃v,r=.tuple ⟨[v,.int .i64 0]⟩∧NdV P' v n∧L'=L∧∀A∈P,A∈P'
theorem Zf3{L P:List Asn}{A B C:Asn}{r:Value}{es:List (List Value)}:Ent (Ow 2 r es::A::B::C::L) P L (Sl 1 (.slice none 0 0) []::Sl 2 r es::P):=
 Ent.sl.trans (Ent.d3.trans Ent.sl0)
theorem Zf4{L P:List Asn}{r:Value}{ps:List Pr}:NdR (Zh ps) L P (.tuple ⟨[.agg ⟨[.bool true,r,.slice none 0 0,.slice none 0 0]⟩,.int .i64 0]⟩) L (Sl 1 (.slice none 0 0) []::Sl 2 r (ps.map Zc)::P):=
 ⟨_,rfl,⟨⟨r,_,_,rfl,.tail _ (.head _),.head _,.head _⟩⟩,rfl,fun A hA=>.tail _ (.tail _ hA)⟩
theorem Y9{n:Nd}(h:n.leafOk=true):n.leaf=true∧n.keys=[]∧n.kids=[]∧n.pairs.length≤255∧rise (n.pairs.map (·.1))=true∧n.pairs.any Ka=false:=by
 unfold Nd.leafOk at h;simp only[Bool.and_eq_true,decide_eq_true_eq,Bool.not_eq_true']at h;obtain⟨h1,h2,h3,h4,h5⟩:=h;exact⟨h1,List.length_eq_zero_iff.1 (by omega),List.length_eq_zero_iff.1 (by omega),h3,h5,h4⟩
theorem Zqv(v:Value)(n:Nd)(k w:Bs)(hv:NdV P v n)(hs:n.Small)(hok:n.leafOk=true)(hk:isKey k=true)(hw:w.length≤48)(hl:n.pairs.length<255):Sp SET 80 [v,.agg ⟨Zc (k,w)⟩] L P (NdR (Zh (Ya n.pairs k w)) L P):=by
 obtain⟨h1,h2,h3,h4,h5,h6⟩:=Y9 hok;have hv0:=hv;obtain⟨pv,kv,iv,rfl,hp,hkk,hi⟩:=hv.ex;refine .bo (fn:=Tryz.f80) (N:=52) ?_;refine .seq (.region ?_);refine .bx (cs:=[_,_,_,_]) fun b2=>?_;refine .bx (cs:=[_,_]) fun b3=>?_;refine .nw (cs:=[.bool false,.slice none 0 0,.slice none 0 0,.slice none 0 0]) fun b4=>?_;refine .pu .as (.nil (.seq (.seq (.region (.lda (vs:=[_,_,_,_]) ?_)))));refine .call (Zfv _ _ _ n hv0 hs) ?_;rintro _ L P ⟨rfl,rfl,rfl⟩;rw[hok];refine .pu .nt (.pu .mv (.on (.pu .fa (.on (.ld ?_)))));refine .on ?_;refine .call (Fu _ _ k) ?_;rintro _ L P ⟨rfl,rfl,rfl⟩;rw[hk];refine .on (.pu .nt (.pu .pk (.pu .mv (.on (.pu .fa (.on (.ld ?_)))))));refine .on (.pu .ls (.on (.pu .cn (.pu .pk (.nil ?_)))));refine .no rfl (.skip (.seq (.region (.pu .fa (.ld ?_)))));refine .call (Zad _ _ _ (n.pairs.map Zc) (.s (.p hp)) (by rw[List.length_map];omega) (Hu _)) ?_;rintro _ _ P ⟨rfl,rfl⟩
 refine .pu .as (.nil (.seq (.region (.pu .mv (.pu .fa (.ld ?_))))));refine .call (Zf2 _ _ _ n.pairs k (.f (fun _ _=>OwF.sl) .l0) (by omega) h5) ?_;rintro _ L P ⟨rfl,rfl,rfl⟩;refine .pu .mv (.pu .ex (.pu .ex (.pu .as (.pu .as (.nil (.seq (.block (.seq (.region (.pu .mv (.pu .as (.nil ?_))))))))))));refine .ite rfl (fun h40=>?_) (fun h40=>?_)
 ·refine .region (.pu .mv (.pu .mv ?_));have hlt:lb (n.pairs.map (·.1)) k<n.pairs.length:=by
   have h41:=of_decide_eq_true h40;have h42:=(List.getElem?_eq_some_iff.1 h41).1;rw[List.length_map]at h42;exact h42
  refine .ent Ent.ofF ?_;refine .lda (vs:=[_,_]) ?_;refine .lk (.ia (k:=2) (es:=n.pairs.map Zc) (hm:=.o .l0) (hn:=⟨Int.natCast_nonneg _,by rw[List.length_map];omega⟩)) ?_;refine .se (k:=2) (vs:=Zc (k,w)) (i:=(((lb (n.pairs.map (·.1)) k:Nat)):Int).toNat) (e:=Zc n.pairs[lb (n.pairs.map (·.1)) k]) (by rw[Int.toNat_natCast];exact Jl hlt) ?_;rw[show List.set (n.pairs.map Zc) _ _=(Ya n.pairs k w).map Zc from Zqt h40];refine .fact (Yo .l0) fun⟨ax,cx,hvx⟩=>?_;subst hvx;refine .nil (.seq (.region (.pu .mv (.pu (.bd (vs:=[_,_,_,_])) (.st (vs:=[_,_,_,_]) ?_)))));refine .pu .as (.nil (.ret ?_));exact⟨_,.cell rfl .l1 rfl (.tmp rfl .nil),_,_,Zf3,Zf4⟩
 refine .seq (.region (.pu .mv ?_));refine .lk (.ln (k:=2) (es:=n.pairs.map Zc) (hm:=.f (fun _ _=>OwF.sl) .l0)) ?_;rw[List.length_map];refine .pu .cn (.pu .as (.nil ?_));refine .no rfl (.region (.pu .mv (.pu .mv (.lda (vs:=[_,_]) ?_))));refine .blB (k:=2) (es:=[Zc (k,w)]) (fun v38=>?_) (hk:=by simp[Zc]);refine .call (Sp.ent Ent.swap (Zp6 _ _ _ _ (lb (n.pairs.map (·.1)) k) (n.pairs.map Zc) [Zc (k,w)] (by rw[List.length_map];have:=Gk (n.pairs.map (·.1)) k;rw[List.length_map]at this;exact this) (by simp) (by rw[List.length_map];simp only[List.length_cons,List.length_nil];omega) (Hu _) (by simp[Zc,Go.Ax.ones,Go.Ax.oneC]))) ?_;rintro _ _ P ⟨rfl,rfl⟩;rw[Zqu h40];refine .fact (Yo .l0) fun⟨ax,cx,hvx⟩=>?_;subst hvx;refine .pu .as (.nil (.seq (.region (.pu .mv (.pu (.bd (vs:=[_,_,_,_])) (.st (vs:=[_,_,_,_]) ?_))))))
 refine .pu .as (.nil (.ret ?_));exact⟨_,.cell rfl .l1 rfl (.tmp rfl .nil),_,_,Zf3,Zf4⟩
theorem Hv(ns:List Nat):∀f∈ns.map encI,ones f=true:=fun f hf=>by
 obtain⟨p,_,rfl⟩:=List.mem_map.1 hf;rfl
theorem Jn(ns:List Bs):∀f∈ns.map encS,ones f=true:=fun f hf=>by
 obtain⟨p,_,rfl⟩:=List.mem_map.1 hf;rfl
theorem Hw{α:Type}{p:α→Prop}{a b:α}(ha:p a)(hb:p b):∀x∈[a,b],p x:=fun x hx=>by
 rcases List.mem_cons.1 hx with rfl|hx
 ·exact ha
 ·rcases List.mem_cons.1 hx with rfl|hx
  ·exact hb
  ·cases hx
theorem Zan{α:Type}{p:α→Prop}{a b c:α}(ha:p a)(hb:p b)(hc:p c):∀x∈[a,b,c],p x:=fun x hx=>by
 rcases List.mem_cons.1 hx with rfl|hx
 ·exact ha
 ·exact Hw hb hc x hx
theorem Zf5(x y:Value)(a b:List (List Value)):([(x,a),(y,b)]:List (Value×List (List Value))).flatMap (·.2)=a++b:=by simp
theorem flat3(x y z:Value)(a b c:List (List Value)):([(x,a),(y,b),(z,c)]:List (Value×List (List Value))).flatMap (·.2)=a++(b++c):=by simp
theorem Ent.slR{L L' P:List Asn}{k:Nat}{v:Value}{es:List (List Value)}(h:Rem (Ow k v es) L L'):Ent L P L' (Sl k v es::P):=(Ent.perm h.perm).trans Ent.sl
def Zb(a:Nd)(key:Bs)(b:Nd):Nd:=⟨a.leaf,a.pairs++b.pairs,bif a.leaf then []else a.keys++(key::b.keys),a.kids++b.kids⟩
structure Nd.Sm(n:Nd):Prop where
 p:n.pairs.length≤500
 k:n.keys.length≤500
 i:n.kids.length≤500
theorem Nd.Sm.small{n:Nd}(h:n.Sm):n.Small:=⟨Nat.le_trans h.p (by decide),Nat.le_trans h.k (by decide),Nat.le_trans h.i (by decide)⟩
theorem Zf6{P:List Asn}{a b:Nd}{key:Bs}{pv iv:Value}(h:a.leaf=true)(h1:Sl 2 pv ((a.pairs++b.pairs).map Zc)∈P)(h2:Sl 1 (.slice none 0 0) []∈P)(h3:Sl 1 iv ((a.kids++b.kids).map encI)∈P):NdV P (.agg ⟨[.bool true,pv,.slice none 0 0,iv]⟩) (Zb a key b):=
 ⟨⟨pv,_,iv,by show _=Value.agg ⟨[.bool a.leaf,pv,_,iv]⟩;rw[h],h1,by
  have e:(Zb a key b).keys=[]:=by unfold Zb;rw[h];rfl
  rw[e];exact h2,h3⟩⟩
theorem Zf7{P:List Asn}{a b:Nd}{key:Bs}{pv kv iv:Value}(h:a.leaf=false)(h1:Sl 2 pv ((a.pairs++b.pairs).map Zc)∈P)(h2:Sl 1 kv ((a.keys++(key::b.keys)).map encS)∈P)(h3:Sl 1 iv ((a.kids++b.kids).map encI)∈P):NdV P (.agg ⟨[.bool false,pv,kv,iv]⟩) (Zb a key b):=
 ⟨⟨pv,kv,iv,by show _=Value.agg ⟨[.bool a.leaf,pv,kv,iv]⟩;rw[h],h1,by
  have e:(Zb a key b).keys=a.keys++(key::b.keys):=by unfold Zb;rw[h];rfl
  rw[e];exact h2,h3⟩⟩
theorem Zf8(va vb:Value)(a b:Nd)(key:Bs)(hva:NdV P va a)(hvb:NdV P vb b)(hsa:a.Sm)(hsb:b.Sm)(hoa:a.ok=true)(hob:b.ok=true)(hl:a.leaf=b.leaf)(hk:isKey key=true)(hom:(Zb a key b).ok=true)(hsm:(Zb a key b).Sm):Sp SET 155 [va,S key,vb] L P (NdR (Zb a key b) L P):=by
 have hva0:=hva;have hvb0:=hvb;obtain⟨pa,ka,ia,rfl,hpa,hka,hia⟩:=hva.ex;obtain⟨pb,kb,ib,rfl,hpb,hkb,hib⟩:=hvb.ex;refine Sp.fact (Zg (.s (.p hpa))) fun⟨a1,c1,e1⟩=>?_;refine Sp.fact (Zg (.s (.p hpb))) fun⟨a2,c2,e2⟩=>?_;refine Sp.fact (Zg (.s (.p hka))) fun⟨a3,c3,e3⟩=>?_;refine Sp.fact (Zg (.s (.p hkb))) fun⟨a4,c4,e4⟩=>?_;refine Sp.fact (Zg (.s (.p hia))) fun⟨a5,c5,e5⟩=>?_;refine Sp.fact (Zg (.s (.p hib))) fun⟨a6,c6,e6⟩=>?_;subst e1 e2 e3 e4 e5 e6;refine .bo (fn:=Tryz.f155) (N:=61) ?_;refine .seq (.region ?_);refine .bx (cs:=[_,_,_,_]) fun b3=>?_;refine .bx (cs:=[_,_,_,_]) fun b5=>?_;refine .nw (cs:=[.bool false,.slice none 0 0,.slice none 0 0,.slice none 0 0]) fun b6=>?_;refine .pu .as (.nil (.seq (.seq (.region (.lda (vs:=[_,_,_,_]) ?_)))));refine .call (Ui _ _ _ a hva0 hsa.small) ?_;rintro _ L P ⟨rfl,rfl,rfl⟩
 rw[hoa];refine .pu .cmp (.pu .mv (.on (.lda (vs:=[_,_,_,_]) ?_)));refine .on ?_;refine .call (Ui _ _ _ b hvb0 hsb.small) ?_;rintro _ L P ⟨rfl,rfl,rfl⟩;rw[hob];refine .on (.pu .cmp (.pu .pk (.pu .mv (.on (.pu .fa (.on (.ld ?_)))))));refine .on (.pu .fa (.on (.ld ?_)));refine .on (.pu (.bin_bool_neq) ?_);rw[show(a.leaf !=b.leaf)=false by rw[hl];cases b.leaf<;>rfl]
 refine .pu .pk (.pu .mv (.on (.pu .mv ?_)));refine .on ?_;refine .call (Fu _ _ key) ?_;rintro _ L P ⟨rfl,rfl,rfl⟩;rw[hk];refine .on (.pu .nt (.pu .pk (.nil ?_)));refine .no rfl (.skip ?_);refine .seq (.drawn (by kernel_rfl) fun base=>?_);refine .pu .fa (.lo 0 2 .ld .mk ?_);refine .pu .fa (.lo 0 0 .ld .mk ?_);refine .pu .fa (.lo 0 0 .ld .mk ?_);refine .bl (k:=1) (es:=[[_],[_]]) fun v36=>?_;refine .call (Zpn _ _ _ [(_,a.pairs.map Zc),(_,b.pairs.map Zc)] (.o .l0) (Hw (.s (.p hpa)) (.s (.p hpb))) (by show 2≤1000;omega) (Hw (by show(a.pairs.map Zc).length≤1000;rw[List.length_map];have:=hsa.p;omega) (by show(b.pairs.map Zc).length≤1000;rw[List.length_map];have:=hsb.p;omega)) (Hw (Hu _) (Hu _))) ?_;rintro _ _ P ⟨rfl,rfl⟩;rw[Zf5,←List.map_append];refine .fact (Yo .l0) fun⟨a37,c37,e37⟩=>?_;subst e37;refine .pu .fa (.lo 0 1 .ld .mk ?_)
 refine .pu .fa (.lo 0 1 .ld .mk ?_);refine .bl (k:=1) (es:=[[_],[_]]) (hlt:=by show∀x∈([]:Yh),_;simp) fun v42=>?_;refine .call (Zpu _ _ _ [(_,a.kids.map encI),(_,b.kids.map encI)] (.o .l0) (Hw (.s (.p hia)) (.s (.p hib))) (by show 2≤1000;omega) (Hw (by show(a.kids.map encI).length≤1000;rw[List.length_map];have:=hsa.i;omega) (by show(b.kids.map encI).length≤1000;rw[List.length_map];have:=hsb.i;omega)) (Hw (Hv _) (Hv _))) ?_;rintro _ _ P ⟨rfl,rfl⟩;rw[Zf5,←List.map_append];refine .fact (Yo .l0) fun⟨a43,c43,e43⟩=>?_;subst e43;refine .pu (.bd (vs:=[_,_,_,_])) ?_;refine .nw (cs:=[_,_,_,_]) (hlt:=by show∀x∈([]:Yh),_;simp) fun b8=>?_;refine .st (vs:=[_,_,_,_]) ?_;refine .nil (.cons (.yes .mk (.yes .mk (.skip (.skip .nil)))) (.cons (.yes .mk (.yes .mk (.skip (.skip .nil)))) (.cons (.yes .mk (.skip (.skip (.skip .nil)))) (.cons (.yes .mk (.skip (.skip (.skip .nil)))) (.cons (.yes .mk (.yes .mk (.yes .mk (.skip .nil)))) .nil))))) ?_
 by_cases hlf:a.leaf=true
 ·refine .seq (.seq (.region (.pu .fa (.ld ?_))));rw[hlf];refine .pu .nt (.nil ?_);refine .no rfl (.skip (.seq (.seq (.region (.ent ((Ent.slR (.s .z)).trans ((Ent.slR (.s (.s .z))).trans (Ent.sl0 (k:=1) (c:=0)))) ?_)))));refine .lda (vs:=[_,_,_,_]) ?_;refine .call (Ui _ _ _ (Zb a key b) (Zf6 hlf (.tail _ (.head _)) (.head _) (.tail _ (.tail _ (.head _)))) hsm.small) ?_;rintro _ L P ⟨rfl,rfl,rfl⟩;rw[hom];refine .pu .cmp (.nil ?_);refine .no rfl (.skip (.seq (.region (.lda (vs:=[_,_,_,_]) ?_))));refine .st (vs:=[_,_,_,_]) ?_;refine .pu .as (.nil (.ret ?_));exact⟨_,.cell rfl .l3 rfl (.tmp rfl .nil),_,_,.d6,_,rfl,Zf6 hlf (.tail _ (.head _)) (.head _) (.tail _ (.tail _ (.head _))),rfl,fun A hA=>.tail _ (.tail _ (.tail _ hA))⟩
 ·refine .seq (.seq (.region (.pu .fa (.ld ?_))));rw[Bool.eq_false_iff.2 hlf];refine .pu .nt (.nil ?_);refine .yes rfl (.region (.pu .fa (.ld ?_)));refine .pu .mv ?_;refine .bl (k:=1) (es:=[[_]]) fun v51=>?_;refine .fact (Yo .l0) fun⟨a51,c51,e51⟩=>?_;subst e51;refine .pu .fa (.ld ?_);refine .bl (k:=1) (es:=[[_],[_],[_]]) fun v54=>?_;refine .call (Zp0 _ _ _ [(_,a.keys.map encS),(_,[encS key]),(_,b.keys.map encS)] (.o .l0) (Zan (.s (.p hka)) (.o .l1) (.s (.p hkb))) (by show 3≤1000;omega) (Zan (by show(a.keys.map encS).length≤1000;rw[List.length_map];have:=hsa.k;omega) (by show 1≤1000;omega) (by show(b.keys.map encS).length≤1000;rw[List.length_map];have:=hsb.k;omega)) (Zan (Jn _) (Jn [key]) (Jn _))) ?_;rintro _ _ P ⟨rfl,rfl⟩;rw[flat3,show a.keys.map encS++([encS key]++b.keys.map encS)=(a.keys++(key::b.keys)).map encS by rw[List.map_append,List.map_cons];rfl]
  refine .fact (Yo .l0) fun⟨a55,c55,e55⟩=>?_;subst e55;refine .pu .fa (.st (vs:=[_]) ?_);refine .nil (.seq (.seq (.region (.ent ((Ent.slR .z).trans ((Ent.slR (.s (.s (.s .z)))).trans (Ent.slR (.s (.s (.s (.s .z))))))) ?_))));refine .lda (vs:=[_,_,_,_]) ?_;refine .call (Ui _ _ _ (Zb a key b) (Zf7 (Bool.eq_false_iff.2 hlf) (.head _) (.tail _ (.tail _ (.head _))) (.tail _ (.head _))) hsm.small) ?_;rintro _ L P ⟨rfl,rfl,rfl⟩;rw[hom];refine .pu .cmp (.nil ?_);refine .no rfl (.skip (.seq (.region (.lda (vs:=[_,_,_,_]) ?_))));refine .st (vs:=[_,_,_,_]) ?_;refine .pu .as (.nil (.ret ?_));exact⟨_,.cell rfl .l5 rfl (.tmp rfl .nil),_,_,(Ent.d6.trans Ent.d2),_,rfl,Zf7 (Bool.eq_false_iff.2 hlf) (.head _) (.tail _ (.tail _ (.head _))) (.tail _ (.head _)),rfl,fun A hA=>.tail _ (.tail _ (.tail _ hA))⟩
def pp0(b:Nat):Value:=.pointer (some ⟨b,0,none⟩)
theorem Zqw(v:Value):Sp SET 273 [v] L P (fun r L' P'=>r=v∧L'=L∧P'=P):=Sp.noesc
theorem Zqx(b:Nat)(v:Value):Sp SET 238 [pp0 b] (Pt b [.pointer none,v] (tz 0 287)::L) P (fun r L' P'=>L'=Pt b [pp0 b,v] (tz 0 287)::L∧P'=P):=by
 refine .bo (fn:=Tryz.f238) (N:=19) ?_;refine .seq (.region (.pu .mv (.pu .nc (.pu .fa (.ld ?_)))));refine .pu .peq (.nil ?_);refine .yes rfl (.region (.pu .mv (.pu .mv (.up ?_))));refine .call (Zqw _ _ _) ?_;rintro _ L P ⟨rfl,rfl,rfl⟩;refine .up (.pu .nc (.pu .fa (.st (vs:=[_]) ?_)));refine .nil ?_;exact⟨_,.nil,_,_,.refl _ _,rfl,rfl⟩
theorem Zqy(b:Nat)(v:Value):Sp SET 238 [pp0 b] (Pt b [pp0 b,v] (tz 0 287)::L) P (fun r L' P'=>L'=Pt b [pp0 b,v] (tz 0 287)::L∧P'=P):=by
 refine .bo (fn:=Tryz.f238) (N:=19) ?_;refine .seq (.region (.pu .mv (.pu .nc (.pu .fa (.ld ?_)))));refine .pu .peq (.nil ?_);refine .no rfl (.seq (.region (.pu .mv (.pu .nc (.pu .fa (.ld ?_))))));refine .pu .mv (.pu .pdiff (.nil ?_));refine .no rfl (.skip ?_);exact⟨_,.nil,_,_,.refl _ _,rfl,rfl⟩
theorem Zf9(b:Nat)(sp v:Value)(h:sp=.pointer none∨sp=pp0 b):Sp SET 238 [pp0 b] (Pt b [sp,v] (tz 0 287)::L) P (fun r L' P'=>L'=Pt b [pp0 b,v] (tz 0 287)::L∧P'=P):=by
 rcases h with rfl|rfl
 ·exact Zqx L P b v
 ·exact Zqy L P b v
theorem Zqz(b:Nat)(sp v:Value)(bs:Bs)(c:UInt8)(h:sp=.pointer none∨sp=pp0 b)(hl:bs.length≤1099511600000):Sp SET 200 [pp0 b,.int .u8 c.toNat] (Pt b [sp,v] (tz 0 287)::OwZ 5 1 v (byL bs)::L) P (fun r L' P'=>r=.nilIface∧(∃v',L'=Pt b [pp0 b,v'] (tz 0 287)::OwZ 5 1 v' (byL (bs++[c]))::L)∧P'=P):=by
 refine .bo (fn:=Tryz.f200) (N:=16) ?_;refine .seq (.region (.pu .as (.nil (.seq (.region (.pu .mv ?_))))));refine .call (Zf9 _ _ _ _ _ h) ?_;rintro _ _ P ⟨rfl,rfl⟩;refine .nil (.seq (.region (.pu .mv (.pu .mv (.pu .nc (.pu .fa (.ld ?_)))))));refine .pu .mv ?_;refine .bl (k:=1) (es:=[[_]]) fun v13=>?_;refine .apz (.sl (.o .l0)) (fun v14=>?_) (hn:=by rw[X6];simp only[List.length_cons,List.length_nil];show(bs.length+1)*1≤_;omega);refine .fact (Zcs .l0) fun⟨a14,c14,e14⟩=>?_;subst e14;refine .pu .nc (.pu .fa (.st (vs:=[_]) ?_));refine .nil (.seq (.region (.pu .as (.nil (.ret ?_)))));exact⟨_,.tmp rfl .nil,_,_,(.take (.s (.s .z)) (.take .z .d1)),rfl,⟨_,by rw[Zjs];rfl⟩,rfl⟩
theorem Zq0(b:Nat)(sp v:Value)(bs:Bs)(a:Bs)(h:sp=.pointer none∨sp=pp0 b)(hl:bs.length+a.length≤1099511600000):Sp SET 201 [pp0 b,S a] (Pt b [sp,v] (tz 0 287)::OwZ 5 1 v (byL bs)::L) P (fun r L' P'=>(∃v',L'=Pt b [pp0 b,v'] (tz 0 287)::OwZ 5 1 v' (byL (bs++a))::L)∧P'=P):=by
 refine .bo (fn:=Tryz.f201) (N:=18) ?_;refine .seq (.region (.pu .as (.pu .as (.nil (.seq (.region (.pu .mv ?_)))))));refine .call (Zf9 _ _ _ _ _ h) ?_;rintro _ _ P ⟨rfl,rfl⟩;refine .nil (.seq (.region (.pu .mv (.pu .mv (.pu .nc (.pu .fa (.ld ?_)))))));refine .pu .mv ?_;refine .apz .tx (fun v14=>?_) (hn:=by rw[X6,X6];show(bs.length+a.length)*1≤_;omega);refine .fact (Zcs .l0) fun⟨a14,c14,e14⟩=>?_;subst e14;refine .pu .nc (.pu .fa (.st (vs:=[_]) ?_));refine .nil (.seq (.region (.pu .mv (.pu .ls (.pu .as (.pu .as (.nil (.ret ?_))))))));exact⟨_,.tmp rfl (.tmp rfl .nil),_,_,(.take (.s .z) (.take .z (.refl _ _))),⟨_,by rw[Zjs]⟩,rfl⟩
theorem Zq1(b:Nat)(sp v:Value)(bs:Bs)(hne:bs≠[])(hl:bs.length≤1099511600000):Sp SET 202 [pp0 b] (Pt b [sp,v] (tz 0 287)::OwZ 5 1 v (byL bs)::L) P (fun r L' P'=>r=S bs∧L'=L∧P'=P):=by
 refine .bo (fn:=Tryz.f202) (N:=13) ?_;refine .fact (Zcs .l1) fun⟨a0,c0,e0⟩=>?_;subst e0;refine .seq (.region (.pu .as (.nil ?_)));refine .seq (.drawn (by kernel_rfl) fun base=>?_);refine .pu .mv (.pu .nc (.pu .fa (.lo 0 0 .ld .mk ?_)));refine .wo (.usd rfl .l1 (Zct hne) (fun b7 n7 c7 e7=>?_));cases e7;refine .pu .mv (.pu .nc (.pu .fa (.lo 0 1 .ld .mk ?_)));refine .lk (.lnz .l1) ?_;refine .wo (.ustr rfl rfl (.s .z) hne (by omega) (by rfl) ?_);refine .pu .as (.nil (.cons (.yes .mk (.yes .mk (.skip .nil))) (.cons (.yes .mk (.skip (.skip .nil))) .nil)) (.ret ?_));exact⟨_,.tmp rfl .nil,_,_,.d1,rfl,rfl,rfl⟩
def Bld(b:Nat)(bs:Bs):Asn:=Bx (fun x:Value×Value=>x.1=.pointer none∨x.1=pp0 b) (fun x=>[Pt b [x.1,x.2] (tz 0 287),OwZ 5 1 x.2 (byL bs)])
theorem Zga{L P:List Asn}{b:Nat}:Ent (Pt b [.pointer none,.slice none 0 0] (tz 0 287)::L) P (Bld b []::L) P:=
 (Ent.nonez (k:=1) (e:=5)).trans (Ent.swap.trans (Ent.close (c:=fun x:Value×Value=>x.1=.pointer none∨x.1=pp0 b) (A:=fun x=>[Pt b [x.1,x.2] (tz 0 287),OwZ 5 1 x.2 (byL [])]) (.pointer none,.slice none 0 0) (.inl rfl)))
theorem Zgb{L P:List Asn}{b:Nat}{v:Value}{bs:Bs}:Ent (Pt b [pp0 b,v] (tz 0 287)::OwZ 5 1 v (byL bs)::L) P (Bld b bs::L) P:=
 Ent.close (c:=fun x:Value×Value=>x.1=.pointer none∨x.1=pp0 b) (A:=fun x=>[Pt b [x.1,x.2] (tz 0 287),OwZ 5 1 x.2 (byL bs)]) (pp0 b,v) (.inr rfl)
theorem Hy(b:Nat)(bs:Bs)(c:UInt8)(hl:bs.length≤100000):Sp SET 200 [pp0 b,.int .u8 c.toNat] (Bld b bs::L) P (fun r L' P'=>r=.nilIface∧L'=Bld b (bs++[c])::L∧P'=P):=
 Sp.open (fun x hx=>(Zqz L P b x.1 x.2 bs c hx (by omega)).post (fun r L' P' ⟨h1,⟨v',h2⟩,h3⟩=>⟨_,P',by rw[h2];exact Zgb,h1,rfl,h3⟩))
theorem Zq2(b:Nat)(bs a:Bs)(hl:bs.length+a.length≤100000):Sp SET 201 [pp0 b,S a] (Bld b bs::L) P (fun r L' P'=>True∧L'=Bld b (bs++a)::L∧P'=P):=
 Sp.open (fun x hx=>(Zq0 L P b x.1 x.2 bs a hx (by omega)).post (fun r L' P' ⟨⟨v',h2⟩,h3⟩=>⟨_,P',by rw[h2];exact Zgb,trivial,rfl,h3⟩))
theorem Zgc(b:Nat)(bs:Bs)(hne:bs≠[])(hl:bs.length≤100000):Sp SET 202 [pp0 b] (Bld b bs::L) P (fun r L' P'=>r=S bs∧L'=L∧P'=P):=
 Sp.open (fun x hx=>Zq1 L P b x.1 x.2 bs hne (by omega))
def Xa(s:Bs):Bs:=UInt8.ofNat s.length::s
theorem M9{n:Nat}(h:n≤255):(UInt8.ofNat n).toNat=n:=by
 rw[UInt8.toNat_ofNat'];omega
theorem Zao(b:Nat)(bs s:Bs)(hs:s.length≤255)(hl:bs.length≤50000):Sp SET 199 [S s,pp0 b] (Bld b bs::L) P (fun r L' P'=>True∧L'=Bld b (bs++Xa s)::L∧P'=P):=by
 refine .bo (fn:=Tryz.f199) (N:=8) ?_;refine .seq (.region (.pu .mv (.pu .ls (.pu .ci ?_))));rw[show((s.length:Nat):Int)=(((UInt8.ofNat s.length).toNat:Nat):Int) by rw[M9 hs]];refine .call (Hy _ _ b bs (UInt8.ofNat s.length) (by omega)) ?_;rintro _ L P ⟨rfl,rfl,rfl⟩;refine .nil (.region (.pu .mv ?_));refine .call (Zq2 _ _ b (bs++[UInt8.ofNat s.length]) s (by rw[List.length_append,List.length_singleton];omega)) ?_;rintro _ L P ⟨-,rfl,rfl⟩;refine .nil ?_;refine⟨_,.nil,_,_,.refl _ _,trivial,?_,rfl⟩;unfold Xa;rw[List.append_assoc];rfl
def Yn(ps:List Pr):Bs:=ps.flatMap fun p=>Xa p.1++Xa p.2
def Ye(ks:List Nat):Bs:=ks.flatMap fun k=>[UInt8.ofNat k,UInt8.ofNat (k/256)]
def Z6(ks:List Bs):Bs:=ks.flatMap Xa
def Nd.enc(n:Nd):Bs:=bif n.leaf then 1::UInt8.ofNat n.pairs.length::Yn n.pairs else 2::UInt8.ofNat n.kids.length::(Ye n.kids++Z6 n.keys)
theorem Zap(ps:List Pr):(Yn ps).length=weight ps:=by
 unfold Yn weight
 induction ps with
 |nil=>rfl
 |cons p ps ih=>
  rw[List.flatMap_cons,List.length_append,ih,List.map_cons,List.sum_cons];unfold Xa;simp only[List.length_append,List.length_cons];omega
theorem Zaq(ks:List Nat):(Ye ks).length=2*ks.length:=by
 unfold Ye
 induction ks with
 |nil=>rfl
 |cons p ps ih=>
  rw[List.flatMap_cons,List.length_append,ih];simp only[List.length_cons,List.length_nil];omega
theorem Fw(ks:List Bs):(Z6 ks).length=Zy ks:=by
 unfold Z6 Zy
 induction ks with
 |nil=>rfl
 |cons p ps ih=>
  rw[List.flatMap_cons,List.length_append,ih,List.map_cons,List.sum_cons];unfold Xa;simp only[List.length_cons];omega
theorem Fx(n:Nd):n.enc.length=n.size:=by
 unfold Nd.enc Nd.size;cases n.leaf with
 |true=>simp only[cond_true,List.length_cons,Zap];omega
 |false=>simp only[cond_false,List.length_cons,List.length_append,Zaq,Fw];omega
theorem Zar{α:Type}{f:α→Bs}{xs:List α}{i:Nat}(h:i<xs.length):(xs.take (i+1)).flatMap f=(xs.take i).flatMap f++f xs[i]:=by
 rw[List.take_add_one,List.getElem?_eq_getElem h,List.flatMap_append];simp only[Option.toList_some,List.flatMap_cons,List.flatMap_nil,List.append_nil]
theorem Zas{α:Type}{f:α→Bs}(xs:List α)(i:Nat):((xs.take i).flatMap f).length≤(xs.flatMap f).length:=by
 have:xs.flatMap f=(xs.take i).flatMap f++(xs.drop i).flatMap f:=by rw[←List.flatMap_append,List.take_append_drop]
 rw[this,List.length_append];omega
theorem Ux{n:Nd}(h:n.leafOk=true):∀p∈n.pairs,isKey p.1=true∧p.1.length≤32∧p.2.length≤48:=fun p hp=>by
 obtain⟨_,_,_,_,_,h6⟩:=Y9 h;have:=List.any_eq_false.1 h6 p hp;unfold Ka at this;simp only[Bool.or_eq_true,Bool.not_eq_true',decide_eq_true_eq,not_or,Bool.not_eq_false]at this;refine⟨this.1,?_,by omega⟩;have h1:=this.1;unfold isKey at h1;simp only[Bool.and_eq_true,decide_eq_true_eq]at h1;exact h1.2
theorem Kd{n:Nd}(h:n.leafOk=true):n.ok=true:=by
 unfold Nd.ok;rw[h];rfl
theorem Xb{n:Nd}(h:n.ok=true)(hl:n.leaf=true):n.leafOk=true:=by
 unfold Nd.ok at h;cases hx:n.leafOk with
 |true=>rfl
 |false=>
  rw[hx,Bool.false_or]at h;unfold Nd.innerOk at h;rw[hl]at h;cases h
theorem Xr{n:Nd}(h:n.ok=true)(hl:n.leaf=false):n.innerOk=true:=by
 unfold Nd.ok at h;cases hx:n.innerOk with
 |true=>rfl
 |false=>
  rw[hx,Bool.or_false]at h;unfold Nd.leafOk at h;rw[hl]at h;cases h
theorem Xc{n:Nd}(h:n.innerOk=true):n.leaf=false∧n.pairs=[]∧1≤n.kids.length∧n.kids.length≤255∧n.keys.length+1=n.kids.length∧(∀k∈n.keys,isKey k=true)∧(∀k∈n.kids,1≤k∧k≤65535)∧rise n.keys=true:=by
 unfold Nd.innerOk at h;simp only[Bool.and_eq_true,decide_eq_true_eq,Bool.not_eq_true']at h;obtain⟨h1,h2,h3,h4,h5,h6,h7,h8⟩:=h;refine⟨h1,List.length_eq_zero_iff.1 h2,h3,h4,h5,fun k hk=>?_,fun k hk=>?_,h8⟩
 ·have:=List.any_eq_false.1 h6 k hk;simpa using this
 ·have:=List.any_eq_false.1 h7 k hk;unfold Gj at this;simp only[Bool.or_eq_true,decide_eq_true_eq,not_or]at this;omega
theorem Gm{k:Bs}(h:isKey k=true):k≠[]∧k.length≤32:=by
 unfold isKey at h;simp only[Bool.and_eq_true,decide_eq_true_eq]at h;exact h
theorem Xx{n:Nd}(h:n.leaf=true):n.size=2+weight n.pairs:=by unfold Nd.size;rw[h];rfl
theorem Jo{n:Nd}(h:n.leaf=false):n.size=2+2*n.kids.length+Zy n.keys:=by unfold Nd.size;rw[h];rfl
theorem Zq3(v:Value)(n:Nd)(hv:NdV P v n)(hs:n.Sm)(hok:n.leafOk=true)(hz:n.size≤160):Sp SET 145 [v] L P (fun r L' P'=>r=.tuple ⟨[S n.enc,.int .i64 0]⟩∧L'=L∧P'=P):=by
 obtain⟨h1,h2,h3,h4,h5,h6⟩:=Y9 hok;have hsz:=Xx h1;have hpo:=Ux hok;have hkw:Zy n.keys=0:=by rw[h2];rfl
 have hv0:=hv;obtain⟨pv,kv,iv,rfl,hp,hkk,hi⟩:=hv.ex;refine .bo (fn:=Tryz.f145) (N:=78) ?_;refine .seq (.region ?_);refine .bx (cs:=[_,_,_,_]) fun b1=>?_;refine .pu .as (.pu .as (.nil (.seq (.block (.seq (.region (.lda (vs:=[_,_,_,_]) ?_)))))));refine .call (Ui _ _ _ n hv0 hs.small) ?_;rintro _ L P ⟨rfl,rfl,rfl⟩;rw[Kd hok];refine .pu .cmp (.pu .as (.nil ?_));refine .no rfl (.seq (.region (.lda (vs:=[_,_,_,_]) ?_)));refine .call (Hr _ _ _ n hv0 hs.small (by omega) (by omega)) ?_;rintro _ L P ⟨rfl,rfl,rfl⟩;refine .pu .cn (.pu .as (.nil ?_));refine .no rfl (.skip (.seq (.region ?_)));refine .nw (cs:=[.pointer none,.slice none 0 0]) fun b4=>?_;refine .nil (.seq (.region (.ent Zga ?_)));refine .pu .mf (.pu .as (.nil (.seq (.seq (.region (.pu .fa (.ld ?_)))))));rw[h1];refine .nil ?_;refine .yes rfl (.seq (.region ?_));refine .call (Hy _ _ _ [] 1 (by decide)) ?_;rintro _ L P ⟨rfl,rfl,rfl⟩
 refine .nil (.seq (.region (.pu .fa (.ld ?_))));refine .lk .ln ?_;rw[List.length_map];refine .pu .ci ?_;rw[show((n.pairs.length:Nat):Int)=(((UInt8.ofNat n.pairs.length).toNat:Nat):Int) by rw[M9 h4]];refine .call (Hy _ _ _ ([]++[1]) (UInt8.ofNat n.pairs.length) (by decide)) ?_;rintro _ L P ⟨rfl,rfl,rfl⟩;refine .nil (.seq (.seq (.region (.pu .fa (.ld ?_)))));refine .lk .ln ?_;refine .pu .mv (.nil ?_);refine .block (W.loop (fun i:Nat=>i≤n.pairs.length) (fun i=>n.pairs.length-i) (fun i=>[(32,.int .i64 (i:Nat)),(31,.int .i64 (n.pairs.map Zc).length),(30,pv),(4,pp0 b4),(5,.func (.func 199) #[] #[pp0 b4])]) (fun i=>Bld b4 (1::UInt8.ofNat n.pairs.length::Yn (n.pairs.take i))::Pt b1 [.bool true,pv,kv,iv] (tz 0 131)::L) (fun _=>P) 0 (Nat.zero_le _) ⟨rfl,rfl,rfl,rfl,rfl,trivial⟩ (.refl _ _) (fun i hi=>?_));have hlen:(n.pairs.map Zc).length=n.pairs.length:=List.length_map ..
 have hpre:(Yn (n.pairs.take i)).length≤158:=by
  have h7:(Yn (n.pairs.take i)).length≤(Yn n.pairs).length:=Zas n.pairs i;rw[Zap n.pairs]at h7;omega
 by_cases hlt:i<n.pairs.length
 ·refine .seq (.region (.pu .cy (.nil (.seq (.yes rfl (.skip (.seq (.block (.seq (.region ?_))))))))));have hg:(n.pairs.map Zc)[((i:Nat):Int).toNat]? =some (Zc n.pairs[i]):=Jl hlt;obtain⟨p1,p2,p3⟩:=hpo _ (List.getElem_mem hlt);refine .lk .ia ?_;refine .la hg ?_;refine .nw (cs:=[S [],S []]) fun b7=>?_;refine .st (vs:=[_,_]) ?_;refine .nil (.seq (.region (.pu .mv (.pu .fa (.ld ?_)))));refine .call (Sp.up (.s .z) (fun L=>Zao L _ b4 (1::UInt8.ofNat n.pairs.length::Yn (n.pairs.take i)) n.pairs[i].1 (by omega) (by simp only[List.length_cons];omega))) ?_;rintro _ L P ⟨-,rfl,rfl⟩;refine .nil (.region (.pu .mv (.pu .fa (.ld ?_))));refine .call (Sp.up (.s .z) (fun L=>Zao L _ b4 ((1::UInt8.ofNat n.pairs.length::Yn (n.pairs.take i))++Xa n.pairs[i].1) n.pairs[i].2 (by omega) (by unfold Xa;simp only[List.length_cons,List.length_append];omega))) ?_;rintro _ L P ⟨-,rfl,rfl⟩
  refine .nil (.region (.pu .add (.pu .mv (.nil ?_))));refine⟨i+1,hlt,by show n.pairs.length-(i+1)<n.pairs.length-i;omega,⟨rfl,rfl,rfl,rfl,rfl,trivial⟩,?_⟩;have e:Yn (n.pairs.take (i+1))=Yn (n.pairs.take i)++(Xa n.pairs[i].1++Xa n.pairs[i].2):=Zar hlt;show Ent _ _ (Bld b4 (1::UInt8.ofNat n.pairs.length::Yn (n.pairs.take (i+1)))::_) P;rw[e,←List.append_assoc];exact Ent.drop
 ·refine .seq (.region (.pu .cn (.nil (.seq (.no rfl (.exit (.seq (.region ?_))))))));refine .call (Zgc _ _ _ (1::UInt8.ofNat n.pairs.length::Yn (n.pairs.take i)) (by simp) (by simp only[List.length_cons];omega)) ?_;rintro _ L P ⟨rfl,rfl,rfl⟩;refine .pu .as (.pu .as (.nil (.ret ?_)));refine⟨_,.tmp rfl (.tmp rfl .nil),_,_,.d1,?_,rfl,rfl⟩;have e:n.pairs.take i=n.pairs:=List.take_of_length_le (Nat.le_of_not_lt hlt);rw[e];unfold Nd.enc;rw[h1];rfl
theorem Na(k:Nat):((k%256:Nat):Int)=(((UInt8.ofNat k).toNat:Nat):Int):=by
 rw[UInt8.toNat_ofNat']
theorem Zq4(v:Value)(n:Nd)(hv:NdV P v n)(hs:n.Sm)(hok:n.innerOk=true)(hz:n.size≤160):Sp SET 145 [v] L P (fun r L' P'=>r=.tuple ⟨[S n.enc,.int .i64 0]⟩∧L'=L∧P'=P):=by
 obtain⟨h1,h2,h3,h4,h5,h6,h7,h8⟩:=Xc hok;have hsz:=Jo h1;have hw0:weight n.pairs=0:=by rw[h2];rfl
 have hok2:n.ok=true:=by unfold Nd.ok;rw[hok,Bool.or_true]
 have hv0:=hv;obtain⟨pv,kv,iv,rfl,hp,hkk,hii⟩:=hv.ex;have hlenK:(n.kids.map encI).length=n.kids.length:=List.length_map ..;have hlenS:(n.keys.map encS).length=n.keys.length:=List.length_map ..;have hpreK:∀i,(Ye (n.kids.take i)).length≤160:=fun i=>by
  have h7:(Ye (n.kids.take i)).length≤(Ye n.kids).length:=Zas n.kids i;rw[Zaq n.kids]at h7;omega
 have hpreS:∀i,(Z6 (n.keys.take i)).length≤160:=fun i=>by
  have h7:(Z6 (n.keys.take i)).length≤(Z6 n.keys).length:=Zas n.keys i;rw[Fw n.keys]at h7;omega
 refine .bo (fn:=Tryz.f145) (N:=78) ?_;refine .seq (.region ?_);refine .bx (cs:=[_,_,_,_]) fun b1=>?_;refine .pu .as (.pu .as (.nil (.seq (.block (.seq (.region (.lda (vs:=[_,_,_,_]) ?_)))))));refine .call (Ui _ _ _ n hv0 hs.small) ?_;rintro _ L P ⟨rfl,rfl,rfl⟩;rw[hok2];refine .pu .cmp (.pu .as (.nil ?_));refine .no rfl (.seq (.region (.lda (vs:=[_,_,_,_]) ?_)));refine .call (Hr _ _ _ n hv0 hs.small (by omega) (by omega)) ?_;rintro _ L P ⟨rfl,rfl,rfl⟩;refine .pu .cn (.pu .as (.nil ?_));refine .no rfl (.skip (.seq (.region ?_)));refine .nw (cs:=[.pointer none,.slice none 0 0]) fun b4=>?_;refine .nil (.seq (.region (.ent Zga ?_)));refine .pu .mf (.pu .as (.nil (.seq (.seq (.region (.pu .fa (.ld ?_)))))));rw[h1];refine .nil ?_;refine .no rfl (.skip (.seq (.region ?_)));refine .call (Hy _ _ _ [] 2 (by decide)) ?_;rintro _ L P ⟨rfl,rfl,rfl⟩
 refine .nil (.seq (.region (.pu .fa (.ld ?_))));refine .lk .ln ?_;rw[List.length_map];refine .pu .ci ?_;rw[show((n.kids.length:Nat):Int)=(((UInt8.ofNat n.kids.length).toNat:Nat):Int) by rw[M9 h4]];refine .call (Hy _ _ _ ([]++[2]) (UInt8.ofNat n.kids.length) (by decide)) ?_;rintro _ L P ⟨rfl,rfl,rfl⟩;refine .nil (.seq (.seq (.region (.pu .fa (.ld ?_)))));refine .lk .ln ?_;refine .pu .mv (.nil ?_);refine .block (W.loop (fun i:Nat=>i≤n.kids.length) (fun i=>n.kids.length-i) (fun i=>[(55,.int .i64 (i:Nat)),(54,.int .i64 (n.kids.map encI).length),(53,iv),(4,pp0 b4),(5,.func (.func 199) #[] #[pp0 b4]),(1,pp0 b1)]) (fun i=>Bld b4 (2::UInt8.ofNat n.kids.length::Ye (n.kids.take i))::Pt b1 [.bool false,pv,kv,iv] (tz 0 131)::L) (fun _=>P) 0 (Nat.zero_le _) ⟨rfl,rfl,rfl,rfl,rfl,rfl,trivial⟩ (.refl _ _) (fun i hi=>?_));by_cases hlt:i<n.kids.length
 ·refine .seq (.region (.pu .cy (.nil (.seq (.yes rfl (.skip (.seq (.block (.seq (.region ?_))))))))));have hg:(n.kids.map encI)[((i:Nat):Int).toNat]? =some (encI n.kids[i]):=Zfr hlt;obtain⟨k1,k2⟩:=h7 _ (List.getElem_mem hlt);have hp1:=hpreK i;refine .lk .ia ?_;refine .le hg ?_;refine .pu .as (.nil (.seq (.region (.pu .mv (.pu (.ciw (wrap_u8 n.kids[i])) ?_)))));rw[Na];refine .call (Hy _ _ _ (2::UInt8.ofNat n.kids.length::Ye (n.kids.take i)) (UInt8.ofNat n.kids[i]) (by simp only[List.length_cons];omega)) ?_;rintro _ L P ⟨rfl,rfl,rfl⟩;refine .nil (.region (.pu .mv (.pu .shrN (.pu (.ciw (wrap_u8 (n.kids[i]>>>8))) ?_))));rw[show n.kids[i]>>>8=n.kids[i] /256 from Nat.shiftRight_eq_div_pow _ 8,Na];refine .call (Hy _ _ _ (2::UInt8.ofNat n.kids.length::Ye (n.kids.take i)++[UInt8.ofNat n.kids[i]]) (UInt8.ofNat (n.kids[i] /256)) (by simp only[List.length_cons,List.length_append,List.length_nil];omega)) ?_;rintro _ L P ⟨rfl,rfl,rfl⟩
  refine .nil (.region (.pu .add (.pu .mv (.nil ?_))));refine⟨i+1,hlt,by show n.kids.length-(i+1)<n.kids.length-i;omega,⟨rfl,rfl,rfl,rfl,rfl,rfl,trivial⟩,?_⟩;have e:Ye (n.kids.take (i+1))=Ye (n.kids.take i)++[UInt8.ofNat n.kids[i],UInt8.ofNat (n.kids[i] /256)]:=Zar hlt;show Ent _ _ (Bld b4 (2::UInt8.ofNat n.kids.length::Ye (n.kids.take (i+1)))::_) P;rw[e];simp only[List.cons_append,List.append_assoc,List.nil_append];exact .refl _ _
 ·refine .seq (.region (.pu .cn (.nil (.seq (.no rfl (.exit (.seq (.seq (.region ?_)))))))));have eK:n.kids.take i=n.kids:=List.take_of_length_le (Nat.le_of_not_lt hlt);rw[eK];have hp2:=hpreK n.kids.length;rw[List.take_length]at hp2;refine .pu .fa (.ld ?_);refine .lk .ln ?_;refine .pu .mv (.nil ?_);refine .block (W.loop (fun i:Nat=>i≤n.keys.length) (fun i=>n.keys.length-i) (fun i=>[(70,.int .i64 (i:Nat)),(69,.int .i64 (n.keys.map encS).length),(68,kv),(4,pp0 b4),(5,.func (.func 199) #[] #[pp0 b4])]) (fun i=>Bld b4 (2::UInt8.ofNat n.kids.length::(Ye n.kids++Z6 (n.keys.take i)))::Pt b1 [.bool false,pv,kv,iv] (tz 0 131)::L) (fun _=>P) 0 (Nat.zero_le _) ⟨rfl,rfl,rfl,rfl,rfl,trivial⟩ (by rw[List.take_zero,show Z6 []=[]from rfl,List.append_nil];exact .refl _ _) (fun j hj=>?_));by_cases hlt2:j<n.keys.length
  ·refine .seq (.region (.pu .cy (.nil (.seq (.yes rfl (.skip (.seq (.block (.seq (.region ?_))))))))));have hg:(n.keys.map encS)[((j:Nat):Int).toNat]? =some (encS n.keys[j]):=J9 hlt2;obtain⟨k1,k2⟩:=Gm (h6 _ (List.getElem_mem hlt2));have hp1:=hpreS j;refine .lk .ia ?_;refine .le hg ?_;refine .pu .as (.nil (.region (.pu .mv (.pu .mv ?_))));refine .call (Zao _ _ b4 (2::UInt8.ofNat n.kids.length::(Ye n.kids++Z6 (n.keys.take j))) n.keys[j] (by omega) (by simp only[List.length_cons,List.length_append];omega)) ?_;rintro _ L P ⟨-,rfl,rfl⟩;refine .nil (.region (.pu .add (.pu .mv (.nil ?_))));refine⟨j+1,hlt2,by show n.keys.length-(j+1)<n.keys.length-j;omega,⟨rfl,rfl,rfl,rfl,rfl,trivial⟩,?_⟩;have e:Z6 (n.keys.take (j+1))=Z6 (n.keys.take j)++Xa n.keys[j]:=Zar hlt2;show Ent _ _ (Bld b4 (2::UInt8.ofNat n.kids.length::(Ye n.kids++Z6 (n.keys.take (j+1))))::_) P
   rw[e];simp only[List.cons_append,List.append_assoc];exact .refl _ _
  ·refine .seq (.region (.pu .cn ?_));have hp3:=hpreS j;refine .nil (.seq (.no rfl (.exit (.seq (.region ?_)))));refine .call (Zgc _ _ _ (2::UInt8.ofNat n.kids.length::(Ye n.kids++Z6 (n.keys.take j))) (by simp) (by simp only[List.length_cons,List.length_append];omega)) ?_;rintro _ L P ⟨rfl,rfl,rfl⟩;refine .pu .as (.pu .as (.nil (.ret ?_)));refine⟨_,.tmp rfl (.tmp rfl .nil),_,_,.d1,?_,rfl,rfl⟩;have e:n.keys.take j=n.keys:=List.take_of_length_le (Nat.le_of_not_lt hlt2);rw[e];unfold Nd.enc;rw[h1];rfl
theorem Zat(v:Value)(n:Nd)(hv:NdV P v n)(hs:n.Sm)(hok:n.ok=true)(hz:n.size≤160):Sp SET 145 [v] L P (fun r L' P'=>r=.tuple ⟨[S n.enc,.int .i64 0]⟩∧L'=L∧P'=P):=by
 cases hl:n.leaf with
 |true=>exact Zq3 L P v n hv hs (Xb hok hl) hz
 |false=>exact Zq4 L P v n hv hs (Xr hok hl) hz
theorem u8_in(c:UInt8):InR .i64 (c.toNat:Int):=by
 have:=c.toNat_lt;simp only[InR];omega
def Rdr(b:Nat)(s:Bs):Asn:=Pt b [S s,.bool false] (tz 0 328)
theorem Zgd(b:Nat)(a s:Bs)(hl:(a++s).length≤1000):Sp SET 265 [pp0 b,.int .i64 (a.length:Nat)] (Rdr b (a++s)::L) P (fun r L' P'=>r=S a∧L'=Rdr b s::L∧P'=P):=by
 have hl2:(a++s).length=a.length+s.length:=List.length_append;refine .bo (fn:=Tryz.f265) (N:=33) ?_;refine .seq (.region (.pu .as (.nil (.seq (.seq (.region (.pu .mv (.pu .mv (.pu .nc (.pu .fa (.ld ?_)))))))))));refine .pu .ls (.pu .cn (.nil ?_));refine .no rfl (.skip (.seq (.region (.pu .mv (.pu .nc (.pu .fa (.ld ?_)))))));refine .pu .mv (.pu (.sls (a:=a++s) (p:=0) (q:=a.length) rfl bdn) ?_);rw[show((a++s).drop 0).take (a.length-0)=a by rw[List.drop_zero,Nat.sub_zero,List.take_left]];refine .pu .as (.nil (.seq (.region (.pu .mv (.pu .mv (.pu .nc (.pu .fa (.ld ?_))))))));refine .pu .mv (.pu (.sls (a:=a++s) (p:=a.length) (q:=(a++s).length) bdn rfl) ?_);rw[show((a++s).drop a.length).take ((a++s).length-a.length)=s by rw[List.drop_left,hl2,Nat.add_sub_cancel_left,List.take_length]];refine .pu .nc (.pu .fa (.st (vs:=[_]) ?_));refine .nil (.seq (.region (.pu .mv (.pu .as (.nil (.ret ?_))))))
 exact⟨_,.tmp rfl .nil,_,_,.refl _ _,rfl,rfl,rfl⟩
theorem Hz(b:Nat)(c:UInt8)(s:Bs)(hl:s.length≤900):Sp SET 234 [pp0 b] (Rdr b (c::s)::L) P (fun r L' P'=>r=.int .i64 (c.toNat:Nat)∧L'=Rdr b s::L∧P'=P):=by
 refine .bo (fn:=Tryz.f234) (N:=6) ?_;refine .seq (.region (.pu .as (.nil (.seq (.region (.pu .mv ?_))))));refine .call (Zgd _ _ b [c] s (by simp only[List.length_append,List.length_cons,List.length_nil];omega)) ?_;rintro _ L P ⟨rfl,rfl,rfl⟩;refine .pu (.ix (a:=[c]) rfl) (.pu (.ci (hv:=u8_in _)) (.pu .as (.nil (.ret ?_))));exact⟨_,.tmp rfl .nil,_,_,.refl _ _,rfl,rfl,rfl⟩
theorem Zau(b:Nat)(a s:Bs)(ha:a.length≤255)(hl:s.length≤600):Sp SET 235 [pp0 b] (Rdr b (Xa a++s)::L) P (fun r L' P'=>r=S a∧L'=Rdr b s::L∧P'=P):=by
 refine .bo (fn:=Tryz.f235) (N:=6) ?_;refine .seq (.region (.pu .as (.nil (.seq (.region (.pu .mv (.pu .mv ?_)))))));refine .call (Hz _ _ b (UInt8.ofNat a.length) (a++s) (by rw[List.length_append];omega)) ?_;rintro _ L P ⟨rfl,rfl,rfl⟩;rw[M9 ha];refine .call (Zgd _ _ b a s (by rw[List.length_append];omega)) ?_;rintro _ L P ⟨rfl,rfl,rfl⟩;refine .pu .as (.nil (.ret ?_));exact⟨_,.tmp rfl .nil,_,_,.refl _ _,rfl,rfl,rfl⟩
theorem Zq5{ps:List Pr}{i:Nat}(h:i<ps.length):Yn (ps.drop i)=Xa ps[i].1++(Xa ps[i].2++Yn (ps.drop (i+1))):=by
 unfold Yn;rw[List.drop_eq_getElem_cons h,List.flatMap_cons,List.append_assoc]
theorem Zav{α β:Type}{f:α→β}{xs:List α}{i:Nat}(h:i<xs.length):(xs.take (i+1)).map f=(xs.take i).map f++[f xs[i]]:=by
 rw[List.take_add_one,List.getElem?_eq_getElem h,List.map_append];rfl
theorem Zq6(n:Nd)(hs:n.Sm)(hok:n.leafOk=true)(hne:n.pairs≠[])(hz:n.size≤160):Sp SET 190 [S n.enc] L P (NdR n L P):=by
 obtain⟨h1,h2,h3,h4,h5,h6⟩:=Y9 hok;have hsz:=Xx h1;have hpo:=Ux hok;have hel:=Fx n;have hen:n.enc=1::UInt8.ofNat n.pairs.length::Yn n.pairs:=by unfold Nd.enc;rw[h1];rfl
 have hpl:1≤n.pairs.length:=by
  rcases Nat.eq_zero_or_pos n.pairs.length with e|e
  ·exact absurd (List.length_eq_zero_iff.1 e) hne
  ·exact e
 have hpre:∀i,(Yn (n.pairs.drop i)).length≤158:=fun i=>by
  have e:=Zap n.pairs;have e2:Yn n.pairs=Yn (n.pairs.take i)++Yn (n.pairs.drop i):=by unfold Yn;rw[←List.flatMap_append,List.take_append_drop]
  rw[e2,List.length_append]at e;omega
 rw[hen]at hel ⊢;refine .bo (fn:=Tryz.f190) (N:=133) ?_;refine .seq (.region ?_);refine .nw (cs:=[.bool false,.slice none 0 0,.slice none 0 0,.slice none 0 0]) fun b2=>?_;refine .pu .as (.nil (.seq (.region (.pu .mv (.pu (.bd (vs:=[_,_])) ?_)))));refine .bx (cs:=[_,_]) fun b15=>?_;refine .pu .as (.nil (.seq (.region (.pu .mv ?_))));refine .call (Hz _ _ b15 1 (UInt8.ofNat n.pairs.length::Yn n.pairs) (by simp only[List.length_cons]at hel ⊢;omega)) ?_;rintro _ L P ⟨rfl,rfl,rfl⟩;rw[show(((1:UInt8).toNat:Nat):Int)=1 from rfl];refine .pu .mv ?_;refine .call (Hz _ _ b15 (UInt8.ofNat n.pairs.length) (Yn n.pairs) (by simp only[List.length_cons]at hel ⊢;omega)) ?_;rintro _ L P ⟨rfl,rfl,rfl⟩;rw[M9 h4];refine .pu .as (.pu .as (.nil (.seq (.region (.pu .mv ?_)))));refine .pu (.cy (hq:=by simp[Vu])) ?_;refine .pu (.bd (vs:=[_,_,_,_])) ?_
 refine .nw (cs:=[.bool false,.slice none 0 0,.slice none 0 0,.slice none 0 0]) fun b7=>?_;refine .st (vs:=[_,_,_,_]) ?_;refine .ent (Ent.none (k:=2)) ?_;refine .nil (.seq (.seq (.region (.pu .as (.nil ?_)))));refine .block (W.loop (fun a:Nat×Value=>a.1≤n.pairs.length) (fun a=>n.pairs.length-a.1) (fun a=>[(8,.int .i64 (a.1:Nat)),(6,.int .i64 (n.pairs.length:Nat)),(5,.int .i64 1),(4,pp0 b15),(7,pp0 b7),(2,pp0 b2),(0,S (1::UInt8.ofNat n.pairs.length::Yn n.pairs))]) (fun a=>Ow 2 a.2 ((n.pairs.take a.1).map Zc)::Pt b7 [.bool true,a.2,.slice none 0 0,.slice none 0 0] (tz 0 131)::Rdr b15 (Yn (n.pairs.drop a.1))::Pt b2 [.bool false,.slice none 0 0,.slice none 0 0,.slice none 0 0] (tz 0 131)::L) (fun _=>P) (0,.slice none 0 0) (Nat.zero_le _) ⟨rfl,rfl,rfl,rfl,rfl,rfl,rfl,trivial⟩ (.refl _ _) (fun⟨i,v⟩ hi=>?_))
 refine .fact (Yo .l0) fun⟨av,cv,(hvv:v=.slice av ((n.pairs.take i).map Zc).length cv)⟩=>?_;subst hvv;by_cases hlt:i<n.pairs.length
 ·refine .seq (.seq (.region (.pu .mv (.pu .mv (.pu .cy (.pu .mv (.on (.pu .fa (.on (.ld ?_))))))))));refine .pu .pk (.pu .mv (.on (.pu .mv (.on (.pu .nc (.on (.pu .fa (.on (.ld ?_)))))))));refine .on (.pu .nt (.pu .pk (.nil ?_)));refine .yes rfl (.skip (.seq (.block (.seq (.region (.pu .mv ?_))))));obtain⟨p1,p2,p3⟩:=hpo _ (List.getElem_mem hlt);have hp1:=hpre i;have hdr:=Zq5 hlt;rw[hdr];rw[hdr]at hp1;unfold Xa at hp1;simp only[List.length_append,List.length_cons]at hp1;refine .call (Sp.up (.s (.s .z)) (fun L=>Zau L _ b15 n.pairs[i].1 (Xa n.pairs[i].2++Yn (n.pairs.drop (i+1))) (by omega) (by unfold Xa;simp only[List.length_append,List.length_cons];omega))) ?_;rintro _ L P ⟨rfl,rfl,rfl⟩;refine .pu .as (.nil ?_);refine .drawn (by kernel_rfl) fun base=>?_;refine .pu .fa (.lo 0 1 .ld .mk ?_);refine .pu .mv (.pu .mv ?_);refine .call (Sp.up (.s (.s .z)) (fun L=>Zau L _ b15 n.pairs[i].2 (Yn (n.pairs.drop (i+1))) (by omega) (by omega))) ?_;rintro _ L P ⟨rfl,rfl,rfl⟩
  refine .pu (.bd (vs:=[_,_])) ?_;refine .bl (k:=2) (es:=[[_,_]]) (hlt:=by show∀x∈([]:Yh),_;simp) fun v47=>?_;refine .ap (.o .l0) (.s .z) (fun v48=>?_) (hn:=by rw[List.length_map,List.length_take];simp only[List.length_cons,List.length_nil];show(_+1)*32≤_;omega) (ho:=Hu [n.pairs[i]]);refine .fact (Yo .l0) fun⟨a48,c48,e48⟩=>?_;subst e48;refine .pu .fa (.st (vs:=[_]) ?_);refine .nil (.cons (.yes .mk (.yes .mk (.skip (.skip .nil)))) .nil) (.region (.pu .mv (.pu .add (.pu .as (.nil ?_)))));refine⟨(i+1,.slice a48 ((n.pairs.take i).map Zc++[Zc n.pairs[i]]).length c48),hlt,by show n.pairs.length-(i+1)<n.pairs.length-i;omega,⟨rfl,rfl,rfl,rfl,rfl,rfl,rfl,trivial⟩,?_⟩;show Ent _ _ (Ow 2 _ ((n.pairs.take (i+1)).map Zc)::_) P;rw[Zav hlt];exact Ent.swap.trans Ent.drop
 ·refine .seq (.seq (.region (.pu .mv (.pu .mv (.pu .cn (.pu .mv (.off (.off (.pu .pk (.pu .mv (.off (.off (.off (.off (.off (.pu .pk ?_))))))))))))))));have e1:n.pairs.take i=n.pairs:=List.take_of_length_le (Nat.le_of_not_lt hlt);have e2:n.pairs.drop i=[]:=List.drop_of_length_le (Nat.le_of_not_lt hlt);rw[e1,e2];refine .nil ?_;refine .no rfl (.exit (.seq (.seq (.region (.pu .as (.nil ?_))))));refine .block (W.loop (fun _:Unit=>True) (fun _=>0) (fun _=>(10,.int .i64 0)::[(6,.int .i64 (n.pairs.length:Nat)),(5,.int .i64 1),(4,pp0 b15),(7,pp0 b7),(2,pp0 b2),(0,S (1::UInt8.ofNat n.pairs.length::Yn n.pairs))]) (fun _=>Ow 2 (.slice av (n.pairs.map Zc).length cv) (n.pairs.map Zc)::Pt b7 [.bool true,.slice av (n.pairs.map Zc).length cv,.slice none 0 0,.slice none 0 0] (tz 0 131)::Rdr b15 []::Pt b2 [.bool false,.slice none 0 0,.slice none 0 0,.slice none 0 0] (tz 0 131)::L) (fun _=>P) () trivial ⟨rfl,rfl,rfl,rfl,rfl,rfl,rfl,trivial⟩ (.refl _ _) (fun _ _=>?_))
  refine .seq (.seq (.region (.pu .mv (.pu .mv (.pu .cy (.pu .mv (.on (.pu .fa (.on (.ld ?_))))))))));refine .on (.pu .nt (.pu .pk (.pu .mv (.off (.off (.off (.off (.off (.pu .pk (.nil ?_))))))))));refine .no rfl (.exit (.seq (.seq (.region (.pu .as (.nil ?_))))));refine .block (W.loop (fun _:Unit=>True) (fun _=>0) (fun _=>(12,.int .i64 1)::[(6,.int .i64 (n.pairs.length:Nat)),(5,.int .i64 1),(4,pp0 b15),(7,pp0 b7),(2,pp0 b2),(0,S (1::UInt8.ofNat n.pairs.length::Yn n.pairs))]) (fun _=>Ow 2 (.slice av (n.pairs.map Zc).length cv) (n.pairs.map Zc)::Pt b7 [.bool true,.slice av (n.pairs.map Zc).length cv,.slice none 0 0,.slice none 0 0] (tz 0 131)::Rdr b15 []::Pt b2 [.bool false,.slice none 0 0,.slice none 0 0,.slice none 0 0] (tz 0 131)::L) (fun _=>P) () trivial ⟨rfl,rfl,rfl,rfl,rfl,rfl,rfl,trivial⟩ (.refl _ _) (fun _ _=>?_));by_cases h1c:1<n.pairs.length
  ·refine .seq (.seq (.region (.pu .mv (.pu .mv (.pu .cy (.pu .mv (.on (.pu .fa (.on (.ld ?_))))))))));refine .on (.pu .nt (.pu .pk (.pu .mv (.off (.off (.off (.off (.off (.pu .pk (.nil ?_))))))))));refine .no rfl (.exit (.seq (.seq (.region (.pu .mv (.ent ((Ent.slR .z).trans (Ent.sl0 (k:=1) (c:=0))) ?_))))));refine .pu .nc (.pu .fa (.ld ?_));refine .pu .mv (.on (.pu .mv (.on (.pu .nc (.on (.pu .fa (.on (.ld ?_))))))));refine .on (.pu .sne (.pu .pk (.pu .mv (.on (.pu .mv ?_)))));refine .on (.pu (.cn (hq:=by simp[Vu])) ?_);refine .on (.pu .mv (.off (.off (.on (.pu .pk (.pu .pk (.pu .mv (.on (.pu .mv (.on (.pu .ls (.on (.pu .cn (.pu .pk (.pu .mv (.on (.lda (vs:=[_,_,_,_]) ?_)))))))))))))))));refine .on ?_;refine .call (Ui _ _ _ n ⟨⟨_,_,_,by rw[h1],.tail _ (.head _),by rw[h2];exact .head _,by rw[h3];exact .head _⟩⟩ hs.small) ?_;rintro _ L P ⟨rfl,rfl,rfl⟩;rw[Kd hok]
   refine .on (.pu .cmp (.pu .pk (.nil ?_)));refine .no rfl (.skip (.seq (.region (.lda (vs:=[_,_,_,_]) ?_))));refine .st (vs:=[_,_,_,_]) ?_;refine .pu .as (.nil (.ret ?_));exact⟨_,.cell rfl .l2 rfl (.tmp rfl .nil),_,_,.d3,_,rfl,⟨⟨_,_,_,by rw[h1];rfl,.tail _ (.head _),by rw[h2];exact .head _,by rw[h3];exact .head _⟩⟩,rfl,fun A hA=>.tail _ (.tail _ hA)⟩
  ·refine .seq (.seq (.region (.pu .mv (.pu .mv (.pu .cn (.pu .mv (.off (.off (.off (.pu .pk (.pu .mv (.off (.off (.off (.off (.off (.pu .pk (.nil ?_))))))))))))))))));refine .no rfl (.exit (.seq (.seq (.region (.pu .mv (.ent ((Ent.slR .z).trans (Ent.sl0 (k:=1) (c:=0))) ?_))))));refine .pu .nc (.pu .fa (.ld ?_));refine .pu .mv (.on (.pu .mv (.on (.pu .nc (.on (.pu .fa (.on (.ld ?_))))))));refine .on (.pu .sne (.pu .pk (.pu .mv (.on (.pu .mv ?_)))));refine .on (.pu (.cn (hq:=by simp[Vu])) ?_);refine .on (.pu .mv (.off (.off (.on (.pu .pk (.pu .pk (.pu .mv (.on (.pu .mv (.on (.pu .ls (.on (.pu .cn (.pu .pk (.pu .mv (.on (.lda (vs:=[_,_,_,_]) ?_)))))))))))))))));refine .on ?_;refine .call (Ui _ _ _ n ⟨⟨_,_,_,by rw[h1],.tail _ (.head _),by rw[h2];exact .head _,by rw[h3];exact .head _⟩⟩ hs.small) ?_;rintro _ L P ⟨rfl,rfl,rfl⟩;rw[Kd hok];refine .on (.pu .cmp (.pu .pk (.nil ?_)))
   refine .no rfl (.skip (.seq (.region (.lda (vs:=[_,_,_,_]) ?_))));refine .st (vs:=[_,_,_,_]) ?_;refine .pu .as (.nil (.ret ?_));exact⟨_,.cell rfl .l2 rfl (.tmp rfl .nil),_,_,.d3,_,rfl,⟨⟨_,_,_,by rw[h1];rfl,.tail _ (.head _),by rw[h2];exact .head _,by rw[h3];exact .head _⟩⟩,rfl,fun A hA=>.tail _ (.tail _ hA)⟩
theorem Zq7{ks:List Nat}{i:Nat}(h:i<ks.length):Ye (ks.drop i)=UInt8.ofNat ks[i]::UInt8.ofNat (ks[i] /256)::Ye (ks.drop (i+1)):=by
 unfold Ye;rw[List.drop_eq_getElem_cons h,List.flatMap_cons];rfl
theorem Zq8{ks:List Bs}{i:Nat}(h:i<ks.length):Z6 (ks.drop i)=Xa ks[i]++Z6 (ks.drop (i+1)):=by
 unfold Z6;rw[List.drop_eq_getElem_cons h,List.flatMap_cons]
theorem Zge(k:Nat)(h:k≤65535):Nat.lor ((UInt8.ofNat k).toNat) ((UInt8.ofNat (k/256)).toNat* 256)=k:=by
 rw[UInt8.toNat_ofNat',UInt8.toNat_ofNat'];have e:k/256%2^8*256=2^8*(k/256):=by omega
 rw[e];show(k%2^8)|||(2^8*(k/256))=k;rw[Nat.or_comm,←Nat.two_pow_add_eq_or_of_lt (show k%2^8<2^8 by omega)];omega
theorem Zq9(n:Nd)(hs:n.Sm)(hok:n.innerOk=true)(hz:n.size≤160):Sp SET 190 [S n.enc] L P (NdR n L P):=by
 obtain⟨h1,h2,h3,h4,h5,h6,h7,h8⟩:=Xc hok;have hsz:=Jo h1;have hel:=Fx n;have hok2:n.ok=true:=by unfold Nd.ok;rw[hok,Bool.or_true]
 have hen:n.enc=2::UInt8.ofNat n.kids.length::(Ye n.kids++Z6 n.keys):=by unfold Nd.enc;rw[h1];rfl
 have hpreK:∀i,(Ye (n.kids.drop i)).length+(Z6 n.keys).length≤158:=fun i=>by
  have e:=Zaq n.kids;have e2:Ye n.kids=Ye (n.kids.take i)++Ye (n.kids.drop i):=by unfold Ye;rw[←List.flatMap_append,List.take_append_drop]
  rw[e2,List.length_append]at e;have e3:=Fw n.keys;omega
 have hpreS:∀i,(Z6 (n.keys.drop i)).length≤158:=fun i=>by
  have e:=Fw n.keys;have e2:Z6 n.keys=Z6 (n.keys.take i)++Z6 (n.keys.drop i):=by unfold Z6;rw[←List.flatMap_append,List.take_append_drop]
  rw[e2,List.length_append]at e;omega
 rw[hen]at hel ⊢;refine .bo (fn:=Tryz.f190) (N:=133) ?_;refine .seq (.region ?_);refine .nw (cs:=[.bool false,.slice none 0 0,.slice none 0 0,.slice none 0 0]) fun b2=>?_;refine .pu .as (.nil (.seq (.region (.pu .mv (.pu (.bd (vs:=[_,_])) ?_)))));refine .bx (cs:=[_,_]) fun b15=>?_;refine .pu .as (.nil (.seq (.region (.pu .mv ?_))));refine .call (Hz _ _ b15 2 (UInt8.ofNat n.kids.length::(Ye n.kids++Z6 n.keys)) (by simp only[List.length_cons]at hel ⊢;omega)) ?_;rintro _ L P ⟨rfl,rfl,rfl⟩;rw[show(((2:UInt8).toNat:Nat):Int)=2 from rfl];refine .pu .mv ?_;refine .call (Hz _ _ b15 (UInt8.ofNat n.kids.length) (Ye n.kids++Z6 n.keys) (by simp only[List.length_cons]at hel ⊢;omega)) ?_;rintro _ L P ⟨rfl,rfl,rfl⟩;rw[M9 h4];refine .pu .as (.pu .as (.nil (.seq (.region (.pu .mv ?_)))));refine .pu (.cn (hq:=by simp[Vu])) ?_
 refine .pu (.bd (vs:=[_,_,_,_])) ?_;refine .nw (cs:=[.bool false,.slice none 0 0,.slice none 0 0,.slice none 0 0]) fun b7=>?_;refine .st (vs:=[_,_,_,_]) ?_;refine .ent (Ent.none (k:=1)) ?_;refine .nil (.seq (.seq (.region (.pu .as (.nil ?_)))));refine .block (W.loop (fun _:Unit=>True) (fun _=>0) (fun _=>(8,.int .i64 0)::[(6,.int .i64 (n.kids.length:Nat)),(5,.int .i64 2),(4,pp0 b15),(7,pp0 b7),(2,pp0 b2),(0,S (2::UInt8.ofNat n.kids.length::(Ye n.kids++Z6 n.keys)))]) (fun _=>Ow 1 (.slice none 0 0) []::Pt b7 [.bool false,.slice none 0 0,.slice none 0 0,.slice none 0 0] (tz 0 131)::Rdr b15 (Ye n.kids++Z6 n.keys)::Pt b2 [.bool false,.slice none 0 0,.slice none 0 0,.slice none 0 0] (tz 0 131)::L) (fun _=>P) () trivial ⟨rfl,rfl,rfl,rfl,rfl,rfl,rfl,trivial⟩ (.refl _ _) (fun _ _=>?_));refine .seq (.seq (.region (.pu .mv (.pu .mv (.pu .cy (.pu .mv (.on (.pu .fa (.on (.ld ?_))))))))))
 refine .pu .pk (.pu .mv (.off (.off (.off (.off (.off (.pu .pk (.nil ?_))))))));refine .no rfl (.exit (.seq (.seq (.region (.pu .as (.nil ?_))))));refine .block (W.loop (fun a:Nat×Value=>a.1≤n.kids.length) (fun a=>n.kids.length-a.1) (fun a=>[(10,.int .i64 (a.1:Nat)),(6,.int .i64 (n.kids.length:Nat)),(5,.int .i64 2),(4,pp0 b15),(7,pp0 b7),(2,pp0 b2),(0,S (2::UInt8.ofNat n.kids.length::(Ye n.kids++Z6 n.keys)))]) (fun a=>Ow 1 a.2 ((n.kids.take a.1).map encI)::Pt b7 [.bool false,.slice none 0 0,.slice none 0 0,a.2] (tz 0 131)::Rdr b15 (Ye (n.kids.drop a.1)++Z6 n.keys)::Pt b2 [.bool false,.slice none 0 0,.slice none 0 0,.slice none 0 0] (tz 0 131)::L) (fun _=>P) (0,.slice none 0 0) (Nat.zero_le _) ⟨rfl,rfl,rfl,rfl,rfl,rfl,rfl,trivial⟩ (.refl _ _) (fun⟨i,v⟩ hi=>?_));refine .fact (Yo .l0) fun⟨av,cv,(hvv:v=.slice av ((n.kids.take i).map encI).length cv)⟩=>?_
 subst hvv;by_cases hlt:i<n.kids.length
 ·refine .seq (.seq (.region (.pu .mv (.pu .mv (.pu .cy (.pu .mv (.on (.pu .fa (.on (.ld ?_))))))))));refine .on (.pu .nt (.pu .pk (.pu .mv (.on (.pu .mv (.on (.pu .nc (.on (.pu .fa (.on (.ld ?_)))))))))));refine .on (.pu .nt (.pu .pk (.nil ?_)));refine .yes rfl (.skip (.seq (.block (.seq (.region (.pu .mv ?_))))));obtain⟨p1,p2⟩:=h7 _ (List.getElem_mem hlt);have hp1:=hpreK i;have hdr:=Zq7 hlt;rw[hdr];rw[hdr]at hp1;simp only[List.length_cons]at hp1;refine .call (Sp.up (.s (.s .z)) (fun L=>Hz L _ b15 (UInt8.ofNat n.kids[i]) (UInt8.ofNat (n.kids[i] /256)::(Ye (n.kids.drop (i+1))++Z6 n.keys)) (by simp only[List.length_append,List.length_cons];omega))) ?_;rintro _ L P ⟨rfl,rfl,rfl⟩;refine .pu .as (.nil ?_);refine .drawn (by kernel_rfl) fun base=>?_;refine .pu .fa (.lo 0 1 .ld .mk ?_);refine .pu .mv (.pu .mv ?_);refine .call (Sp.up (.s (.s .z)) (fun L=>Hz L _ b15 (UInt8.ofNat (n.kids[i] /256)) (Ye (n.kids.drop (i+1))++Z6 n.keys) (by simp only[List.length_append];omega))) ?_;rintro _ L P ⟨rfl,rfl,rfl⟩
  have q1:=(UInt8.ofNat (n.kids[i] /256)).toNat_lt;have q2:=(UInt8.ofNat n.kids[i]).toNat_lt;refine .pu (.i_shl (n:=8) (hr:=by simp only[InR];show _∧_*(256:Int)<_;omega)) ?_;refine .pu (.i_or (a:=(UInt8.ofNat n.kids[i]).toNat) (b:=(UInt8.ofNat (n.kids[i] /256)).toNat* 256) (ha:=by show _<18446744073709551616;omega) (hb:=by show _<18446744073709551616;omega) (hr:=by rw[Zge _ p2];simp only[InR];omega)) ?_;rw[Zge _ p2];refine .bl (k:=1) (es:=[[_]]) (hlt:=by show∀x∈([]:Yh),_;simp) fun v76=>?_;refine .ap (.o .l0) (.s .z) (fun v77=>?_) (hn:=by rw[List.length_map,List.length_take];simp only[List.length_cons,List.length_nil];show(_+1)*8≤_;omega) (ho:=Hv [n.kids[i]]);refine .fact (Yo .l0) fun⟨a77,c77,e77⟩=>?_;subst e77;refine .pu .fa (.st (vs:=[_]) ?_);refine .nil (.cons (.yes .mk (.yes .mk (.skip (.skip .nil)))) .nil) (.region (.pu .mv (.pu .add (.pu .as (.nil ?_)))))
  refine⟨(i+1,.slice a77 ((n.kids.take i).map encI++[encI n.kids[i]]).length c77),hlt,by show n.kids.length-(i+1)<n.kids.length-i;omega,⟨rfl,rfl,rfl,rfl,rfl,rfl,rfl,trivial⟩,?_⟩;show Ent _ _ (Ow 1 _ ((n.kids.take (i+1)).map encI)::_) P;rw[Zav hlt];exact Ent.swap.trans Ent.drop
 ·refine .seq (.seq (.region (.pu .mv (.pu .mv (.pu .cn (.pu .mv (.off (.off (.off (.pu .pk (.pu .mv (.off (.off (.off (.off (.off (.pu .pk ?_)))))))))))))))));have e1:n.kids.take i=n.kids:=List.take_of_length_le (Nat.le_of_not_lt hlt);have e2:n.kids.drop i=[]:=List.drop_of_length_le (Nat.le_of_not_lt hlt);rw[e1,e2,show Ye []++Z6 n.keys=Z6 n.keys from rfl];refine .ent (Ent.none (k:=1)) ?_;refine .nil ?_;refine .no rfl (.exit (.seq (.seq (.region (.pu .as (.nil ?_))))));refine .block (W.loop (fun a:Nat×Value=>a.1≤n.keys.length) (fun a=>n.keys.length-a.1) (fun a=>[(12,.int .i64 ((a.1+1:Nat):Int)),(6,.int .i64 (n.kids.length:Nat)),(5,.int .i64 2),(4,pp0 b15),(7,pp0 b7),(2,pp0 b2),(0,S (2::UInt8.ofNat n.kids.length::(Ye n.kids++Z6 n.keys)))]) (fun a=>Ow 1 a.2 ((n.keys.take a.1).map encS)::Ow 1 (.slice av (n.kids.map encI).length cv) (n.kids.map encI)::Pt b7 [.bool false,.slice none 0 0,a.2,.slice av (n.kids.map encI).length cv] (tz 0 131)::Rdr b15 (Z6 (n.keys.drop a.1))::Pt b2 [.bool false,.slice none 0 0,.slice none 0 0,.slice none 0 0] (tz 0 131)::L) (fun _=>P) (0,.slice none 0 0) (Nat.zero_le _) ⟨rfl,rfl,rfl,rfl,rfl,rfl,rfl,trivial⟩ (.refl _ _) (fun⟨j,w⟩ hj=>?_))
  refine .fact (Yo .l0) fun⟨aw,cw,(hvw:w=.slice aw ((n.keys.take j).map encS).length cw)⟩=>?_;subst hvw;by_cases hlt2:j<n.keys.length
  ·refine .seq (.seq (.region (.pu .mv (.pu .mv (.pu .cy (.pu .mv (.on (.pu .fa (.on (.ld ?_))))))))));refine .on (.pu .nt (.pu .pk (.pu .mv (.on (.pu .mv (.on (.pu .nc (.on (.pu .fa (.on (.ld ?_)))))))))));refine .on (.pu .nt (.pu .pk (.nil ?_)));refine .yes rfl (.skip ?_);refine .seq (.block (.drawn (by kernel_rfl) fun base=>?_));obtain⟨p1,p2⟩:=Gm (h6 _ (List.getElem_mem hlt2));have hp1:=hpreS j;have hdr:=Zq8 hlt2;rw[hdr];rw[hdr]at hp1;unfold Xa at hp1;simp only[List.length_append,List.length_cons]at hp1;refine .pu .fa (.lo 0 1 .ld .mk ?_);refine .pu .mv ?_;refine .call (Sp.up (.s (.s (.s .z))) (fun L=>Zau L _ b15 n.keys[j] (Z6 (n.keys.drop (j+1))) (by omega) (by omega))) ?_;rintro _ L P ⟨rfl,rfl,rfl⟩;refine .bl (k:=1) (es:=[[_]]) (hlt:=by show∀x∈([]:Yh),_;simp) fun v100=>?_;refine .ap (.o .l0) (.s .z) (fun v101=>?_) (hn:=by rw[List.length_map,List.length_take];simp only[List.length_cons,List.length_nil];show(_+1)*16≤_;omega) (ho:=Jn [n.keys[j]])
   refine .fact (Yo .l0) fun⟨a101,c101,e101⟩=>?_;subst e101;refine .pu .fa (.st (vs:=[_]) ?_);refine .nil (.cons (.yes .mk (.yes .mk (.skip (.skip .nil)))) .nil) (.region (.pu .mv (.pu .add (.pu .as (.nil ?_)))));refine⟨(j+1,.slice a101 ((n.keys.take j).map encS++[encS n.keys[j]]).length c101),hlt2,by show n.keys.length-(j+1)<n.keys.length-j;omega,⟨rfl,rfl,rfl,rfl,rfl,rfl,rfl,trivial⟩,?_⟩;show Ent _ _ (Ow 1 _ ((n.keys.take (j+1)).map encS)::_) P;rw[Zav hlt2];exact Ent.swap.trans Ent.drop
  ·refine .seq (.seq (.region (.pu .mv (.pu .mv (.pu .cn (.pu .mv (.off (.off (.off (.pu .pk (.pu .mv (.off (.off (.off (.off (.off (.pu .pk ?_)))))))))))))))));have e3:n.keys.take j=n.keys:=List.take_of_length_le (Nat.le_of_not_lt hlt2);have e4:n.keys.drop j=[]:=List.drop_of_length_le (Nat.le_of_not_lt hlt2);rw[e3,e4,show Z6 []=[]from rfl];refine .nil ?_;refine .no rfl (.exit (.seq (.seq (.region (.pu .mv (.ent ((Ent.slR .z).trans ((Ent.slR .z).trans (Ent.sl0 (k:=2) (c:=0)))) ?_))))));refine .pu .nc (.pu .fa (.ld ?_));refine .pu .mv (.on (.pu .mv (.on (.pu .nc (.on (.pu .fa (.on (.ld ?_))))))));refine .on (.pu .sne (.pu .pk (.pu .mv (.on (.pu .mv ?_)))));refine .on (.pu (.cy (hq:=by simp[Vu])) ?_);refine .on (.pu .mv (.on (.pu .mv ?_)));refine .on (.pu (.cn (hq:=by simp[Vu])) ?_);refine .on (.pu .pk (.pu .pk (.pu .mv (.on (.pu .mv (.on (.pu .ls (.on (.pu .cn (.pu .pk (.pu .mv (.on (.lda (vs:=[_,_,_,_]) ?_)))))))))))))
   refine .on ?_;refine .call (Ui _ _ _ n ⟨⟨_,_,_,by rw[h1],by rw[h2];exact .head _,.tail _ (.tail _ (.head _)),.tail _ (.head _)⟩⟩ hs.small) ?_;rintro _ L P ⟨rfl,rfl,rfl⟩;rw[hok2];refine .on (.pu .cmp (.pu .pk (.nil ?_)));refine .no rfl (.skip (.seq (.region (.lda (vs:=[_,_,_,_]) ?_))));refine .st (vs:=[_,_,_,_]) ?_;refine .pu .as (.nil (.ret ?_));exact⟨_,.cell rfl .l2 rfl (.tmp rfl .nil),_,_,.d3,_,rfl,⟨⟨_,_,_,by rw[h1];rfl,by rw[h2];exact .head _,.tail _ (.tail _ (.head _)),.tail _ (.head _)⟩⟩,rfl,fun A hA=>.tail _ (.tail _ (.tail _ hA))⟩
theorem Zra(n:Nd)(hs:n.Sm)(hok:n.ok=true)(hne:n.leaf=true→n.pairs≠[])(hz:n.size≤160):Sp SET 190 [S n.enc] L P (NdR n L P):=by
 cases hl:n.leaf with
 |true=>exact Zq6 L P n hs (Xb hok hl) (hne hl) hz
 |false=>exact Zq9 L P n hs (Xr hok hl) hz
def SpR(a:Nd)(key:Bs)(b:Nd)(L P:List Asn)(r:Value)(L' P':List Asn):Prop:=∃va vb,r=.tuple ⟨[va,S key,vb,.int .i64 0]⟩∧NdV P' va a∧NdV P' vb b∧L'=L∧∀A∈P,A∈P'
theorem Bz{α:Type}{f:α→List Value}(xs:List α)(p q:Nat):((xs.map f).drop p).take (q-p)=((xs.drop p).take (q-p)).map f:=by
 rw[←List.map_drop,←List.map_take]
theorem Ent.slF{L L' P:List Asn}{e:TypeId}{k:Nat}{v:Value}{es:List (List Value)}(h:Rem (OwF e k v es) L L'):Ent L P L' (Sl k v es::P):=(Ent.perm h.perm).trans (Ent.last (fun _ _=>OwF.sl))
theorem Zrb{α:Type}(xs:List α)(i:Nat)(h:i<xs.length):(xs.drop i).take (i+1-i)=[xs[i]]:=by
 rw[show i+1-i=1 by omega,List.drop_eq_getElem_cons h];rfl
theorem Zrc(v:Value)(n:Nd)(hv:NdV P v n)(hs:n.Sm)(hok:n.leafOk=true)(h2l:2≤n.pairs.length)(hw:weight n.pairs≤100000):Sp SET 197 [v] L P (fun r L' P'=>∃(i:Nat) (hi:i<n.pairs.length),1≤i∧SpR (Zh (n.pairs.take i)) n.pairs[i].1 (Zh (n.pairs.drop i)) L P r L' P'):=by
 obtain⟨h1,h2,h3,h4,h5,h6⟩:=Y9 hok;have hv0:=hv;obtain⟨pv,kv,iv,rfl,hp,hkk,hii⟩:=hv.ex;have hlen:(n.pairs.map Zc).length=n.pairs.length:=List.length_map ..;refine .bo (fn:=Tryz.f197) (N:=126) ?_;refine .seq (.region ?_);refine .bx (cs:=[_,_,_,_]) fun b1=>?_;refine .nw (cs:=[.bool false,.slice none 0 0,.slice none 0 0,.slice none 0 0]) fun b2=>?_;refine .pu .as ?_;refine .nw (cs:=[.bool false,.slice none 0 0,.slice none 0 0,.slice none 0 0]) fun b4=>?_;refine .pu .as (.nil (.seq (.block (.seq (.region (.lda (vs:=[_,_,_,_]) ?_))))));refine .call (Ui _ _ _ n hv0 hs.small) ?_;rintro _ L P ⟨rfl,rfl,rfl⟩;rw[Kd hok];refine .pu .cmp (.pu .as (.nil ?_));refine .no rfl (.seq (.seq (.region (.pu .fa (.ld ?_)))));rw[h1];refine .pu .mv (.on (.pu .fa (.on (.ld ?_))));refine .on (.lk .ln ?_);refine .on (.pu .cn (.pu .pk (.pu .as (.nil ?_))))
 refine .no rfl (.region (.pu .fa (.ld ?_)));refine .pu .nt (.pu .mv (.off (.off (.off (.off (.pu .pk (.pu .as (.nil ?_))))))));refine .no rfl (.skip (.seq (.seq (.region (.pu .fa (.ld ?_))))));refine .pu .nt (.nil ?_);refine .no rfl (.skip (.seq (.region (.pu .fa (.ld ?_)))));refine .call (Zak _ _ _ n.pairs hp (by omega) (by omega)) ?_;rintro _ L P ⟨rfl,rfl,rfl⟩;refine .pu .as (.pu .as (.pu .as (.nil ?_)));refine .seq (.block (W.loop (fun i:Nat=>i+1≤n.pairs.length) (fun i=>n.pairs.length-i) (fun i=>[(11,.int .i64 (i:Nat)),(10,.int .i64 (weight (n.pairs.take i):Nat)),(9,.int .i64 (weight n.pairs:Nat)),(1,pp0 b1),(2,pp0 b2),(4,pp0 b4)]) (fun _=>Pt b4 [.bool false,.slice none 0 0,.slice none 0 0,.slice none 0 0] (tz 0 131)::Pt b2 [.bool false,.slice none 0 0,.slice none 0 0,.slice none 0 0] (tz 0 131)::Pt b1 [.bool true,pv,kv,iv] (tz 0 131)::L) (fun _=>P) 0 (by omega) ⟨rfl,rfl,rfl,rfl,rfl,rfl,trivial⟩ (.refl _ _) (fun i hi=>?_)))
 have hwi:=Zaj n.pairs i;refine .seq (.seq (.region (.pu .mv (.pu .fa (.ld ?_)))));refine .lk .ln ?_;rw[hlen];refine .pu .sub (.pu .cmp (.pu .mv ?_));refine .and 87 8 (decide ((i:Int)=0)||decide ((2*(weight (n.pairs.take i):Nat):Int)<(weight n.pairs:Nat))) (fun hq=>?_) ?_
 ·refine .on (.pu .mv (.on (.pu .cmp (.on (.pu .mv ?_)))));refine .or 90 4 (decide ((2*(weight (n.pairs.take i):Nat):Int)<(weight n.pairs:Nat))) (fun hq=>?_) ?_
  ·refine .on (.pu .mv (.on (.pu .mul (.on (.pu .mv (.on (.pu .cmp ?_)))))));exact .fin rfl
  exact .fin rfl
 refine .nil ?_;refine .ite rfl (fun ht96=>?_) (fun ht96=>?_)
 ·refine .skip (.block (.seq (.region (.pu .mv ?_))));have hc:i+1<n.pairs.length:=by
   simp only[Bool.and_eq_true,decide_eq_true_eq]at ht96;omega
  have hwt:=Zfw (ps:=n.pairs) (i:=i) (by omega);have hwt2:=Zaj n.pairs (i+1);have hwo:weight [n.pairs[i]]=2+n.pairs[i].1.length+n.pairs[i].2.length:=by unfold weight;simp
  refine .ent (Ent.slp (p:=i) (q:=i+1) hp (by omega) (by rw[hlen];omega)) ?_;rw[Bz,Zrb n.pairs i (by omega)];refine .pu .fa (.ld ?_);refine .pu .mv (.pu .mv (.pu .add ?_));refine .sl (k:=2) (p:=i) (q:=i+1) (es:=n.pairs.map Zc) (.s (.p (.tail _ hp))) (bdn) (fun m hm=>bdn (n:=i+1) (hn:=by rw[hlen]at hm;omega)) ?_ (by rw[hlen];omega) (by omega);refine .call (Zak _ _ _ [n.pairs[i]] (.head _) (by omega) (by simp)) ?_;rintro _ L P ⟨rfl,rfl,rfl⟩;refine .pu .add (.pu .as (.nil (.region (.pu .mv (.pu .add (.pu .as (.nil ?_)))))));refine⟨i+1,by omega,by show n.pairs.length-(i+1)<n.pairs.length-i;omega,⟨rfl,?_,rfl,rfl,rfl,rfl,trivial⟩,Ent.forget⟩;show some (Value.int .i64 _)=some (Value.int .i64 _);rw[hwt,hwo];rfl
 refine .exit (.seq (.region ?_));have hi1:1≤i:=by
  simp only[Bool.and_eq_false_iff,Bool.or_eq_false_iff,decide_eq_false_iff_not]at ht96;omega
 refine .ent (Ent.slp (p:=0) (q:=i) hp (by omega) (by rw[hlen];omega)) ?_;rw[Bz,List.drop_zero,Nat.sub_zero];refine .ent (Ent.slp (p:=i) (q:=n.pairs.length) (.tail _ hp) (by omega) (by rw[hlen];omega)) ?_;rw[Bz,show(n.pairs.drop i).take (n.pairs.length-i)=n.pairs.drop i from List.take_of_length_le (by rw[List.length_drop];omega)];refine .pu .fa (.ld ?_);refine .pu .mv ?_;refine .sl (k:=2) (p:=0) (q:=i) (es:=n.pairs.map Zc) (.s (.p (.tail _ (.tail _ hp)))) rfl (fun m hm=>bdn (n:=i) (hn:=by rw[hlen]at hm;omega)) ?_ (by rw[hlen];omega) (by omega);refine .call (Zad _ _ _ ((n.pairs.take i).map Zc) (.s (.p (.tail _ (.head _)))) (by rw[List.length_map,List.length_take];omega) (Hu _)) ?_;rintro _ _ P ⟨rfl,rfl⟩;refine .fact (Zg (.f (fun _ _=>OwF.sl) .l0)) fun⟨a112,c112,e112⟩=>?_;subst e112;refine .pu (.bd (vs:=[_,_,_,_])) ?_
 refine .nw (cs:=[.bool false,.slice none 0 0,.slice none 0 0,.slice none 0 0]) fun b12=>?_;refine .st (vs:=[_,_,_,_]) ?_;refine .nil (.seq (.region (.pu .fa (.ld ?_))));refine .pu .mv ?_;refine .sl (k:=2) (p:=i) (q:=(n.pairs.map Zc).length) (es:=n.pairs.map Zc) (.s (.p (.tail _ (.tail _ hp)))) (bdn (n:=i) (hn:=by rw[hlen];omega)) (fun m hm=>rfl) ?_ (Nat.le_refl _) (by rw[hlen];omega);rw[hlen];refine .call (Zad _ _ _ ((n.pairs.drop i).map Zc) (.s (.p (.head _))) (by rw[List.length_map,List.length_drop];omega) (Hu _)) ?_;rintro _ _ P ⟨rfl,rfl⟩;refine .fact (Zg (.f (fun _ _=>OwF.sl) .l0)) fun⟨a118,c118,e118⟩=>?_;subst e118;refine .pu (.bd (vs:=[_,_,_,_])) ?_;refine .nw (cs:=[.bool false,.slice none 0 0,.slice none 0 0,.slice none 0 0]) fun b13=>?_;refine .st (vs:=[_,_,_,_]) ?_;refine .ent ((Ent.slF (.s .z)).trans ((Ent.slF (.s (.s .z))).trans (Ent.sl0 (k:=1) (c:=0)))) ?_
 refine .nil ?_;refine .seq (.drawn (by kernel_rfl) fun base=>?_);refine .lo 0 0 .ld .mk ?_;refine .pu .fa (.lo 0 1 .ld .mk ?_);have hg0:((n.pairs.drop i).map Zc)[(0:Int).toNat]? =some (Zc n.pairs[i]):=by
  show((n.pairs.drop i).map Zc)[0]? =_;rw[List.getElem?_map,List.getElem?_drop,Nat.add_zero,List.getElem?_eq_getElem (by omega)];rfl
 refine .lk (.ia (k:=2) (es:=(n.pairs.drop i).map Zc) (hm:=.s (.p (.tail _ (.tail _ (.head _))))) (hn:=⟨by omega,by rw[List.length_map,List.length_drop];omega⟩)) ?_;refine .pu .fa (.lo 0 1 (.lf (k:=2) (i:=0) (j:=0) (v:=.slice a118 ((n.pairs.drop i).map Zc).length c118)) (.mk hg0 (hm:=.s (.p (.tail _ (.tail _ (.head _)))))) ?_);refine .lo 0 1 .ld .mk ?_;refine .st (vs:=[_,_,_,_]) ?_;refine .pu .as (.st (vs:=[_,_,_,_]) ?_);refine .pu .as (.nil (.cons (.yes .mk (.yes .mk (.skip .nil))) (.cons (.yes (.mk hg0 (hm:=.s (.p (.tail _ (.tail _ (.head _)))))) (.yes (.mk hg0 (hm:=.s (.p (.tail _ (.tail _ (.head _)))))) (.skip .nil))) (.cons (.yes .mk (.yes .mk (.skip .nil))) (.cons (.yes .mk (.skip (.skip .nil))) .nil)))) (.ret ?_));exact⟨_,.cell rfl .l3 rfl (.tmp rfl (.cell rfl .l2 rfl (.tmp rfl .nil))),_,_,(Ent.d3.trans Ent.d2),i,by omega,hi1,_,_,rfl,⟨⟨_,_,_,rfl,.tail _ (.head _),.head _,.head _⟩⟩,⟨⟨_,_,_,rfl,.tail _ (.tail _ (.head _)),.head _,.head _⟩⟩,rfl,fun A hA=>.tail _ (.tail _ (.tail _ (.tail _ (.tail _ hA))))⟩
def Xo(keys:List Bs)(kids:List Nat):Nd:=⟨false,[],keys,kids⟩
theorem Zgf{α:Type}(xs:List α)(i:Nat):(xs.drop i).take (xs.length-i)=xs.drop i:=List.take_of_length_le (by rw[List.length_drop];exact Nat.le_refl _)
theorem Zrd(v:Value)(n:Nd)(i:Nat)(hie:i=n.kids.length/2)(hv:NdV P v n)(hs:n.Sm)(hok:n.innerOk=true)(h4l:4≤n.kids.length)(hik:i-1<n.keys.length):Sp SET 197 [v] L P (SpR (Xo (n.keys.take (i-1)) (n.kids.take i)) n.keys[i-1] (Xo (n.keys.drop i) (n.kids.drop i)) L P):=by
 obtain⟨h1,h2,h3,h4,h5,h6,h7,h8⟩:=Xc hok;have hok2:n.ok=true:=by unfold Nd.ok;rw[hok,Bool.or_true]
 have hv0:=hv;obtain⟨pv,kv,iv,rfl,hp,hkk,hii⟩:=hv.ex;refine Sp.fact (Zg (.s (.p hii))) fun⟨ai,ci,ei⟩=>?_;refine Sp.fact (Zg (.s (.p hkk))) fun⟨ak,ck,ek⟩=>?_;subst ei ek;have hlK:(n.kids.map encI).length=n.kids.length:=List.length_map ..;have hlS:(n.keys.map encS).length=n.keys.length:=List.length_map ..;refine .bo (fn:=Tryz.f197) (N:=126) ?_;refine .seq (.region ?_);refine .bx (cs:=[_,_,_,_]) fun b1=>?_;refine .nw (cs:=[.bool false,.slice none 0 0,.slice none 0 0,.slice none 0 0]) fun b2=>?_;refine .pu .as ?_;refine .nw (cs:=[.bool false,.slice none 0 0,.slice none 0 0,.slice none 0 0]) fun b4=>?_;refine .pu .as (.nil (.seq (.block (.seq (.region (.lda (vs:=[_,_,_,_]) ?_))))));refine .call (Ui _ _ _ n hv0 hs.small) ?_;rintro _ L P ⟨rfl,rfl,rfl⟩;rw[hok2];refine .pu .cmp (.pu .as (.nil ?_));refine .no rfl (.seq (.seq (.region (.pu .fa (.ld ?_)))))
 rw[h1];refine .pu .mv (.off (.off (.off (.off (.pu .pk (.pu .as (.nil ?_)))))));refine .no rfl (.region (.pu .fa (.ld ?_)));refine .pu .nt (.pu .mv (.on (.pu .fa (.on (.ld ?_)))));refine .on (.lk .ln ?_);refine .on (.pu .cn (.pu .pk (.pu .as (.nil ?_))));refine .no rfl (.skip (.seq (.seq (.region (.pu .fa (.ld ?_))))));refine .pu .nt (.nil ?_);refine .yes rfl (.seq (.region (.pu .fa (.ld ?_))));refine .lk .ln ?_;rw[show Value.int .i64 ((n.kids.map encI).length:Nat)=Value.int .i64 (n.kids.length:Nat) by rw[hlK]];refine .pu (.i_quo (b:=2)) ?_;rw[←hie];refine .ent (Ent.slp (p:=0) (q:=i) hii (by omega) (by rw[hlK];omega)) ?_;rw[Bz,List.drop_zero,Nat.sub_zero];refine .ent (Ent.slp (p:=i) (q:=(n.kids.map encI).length) (.tail _ hii) (by rw[hlK];omega) (Nat.le_refl _)) ?_;rw[Zgf,←List.map_drop];refine .ent (Ent.slp (p:=0) (q:=i-1) (.tail _ (.tail _ hkk)) (by omega) (by rw[hlS];omega)) ?_
 rw[Bz,List.drop_zero,Nat.sub_zero];refine .ent (Ent.slp (p:=i) (q:=(n.keys.map encS).length) (.tail _ (.tail _ (.tail _ hkk))) (by rw[hlS];omega) (Nat.le_refl _)) ?_;rw[Zgf,←List.map_drop];refine .pu .as (.nil ?_);refine .seq (.drawn (by kernel_rfl) fun base=>?_);refine .pu .fa (.lo 0 0 .ld .mk ?_);refine .pu .mv ?_;refine .lo 0 0 (.sl (k:=1) (p:=0) (q:=i) (es:=n.kids.map encI) rfl (fun m hm=>bdn (n:=i) (hn:=by rw[hlK]at hm;omega)) (by rw[hlK];omega) (by omega)) (.s (.p (.tail _ (.tail _ (.tail _ (.tail _ hii)))))) ?_;refine .call (Zae _ _ _ ((n.kids.take i).map encI) (.s (.p (.tail _ (.tail _ (.tail _ (.head _)))))) (by rw[List.length_map,List.length_take];omega) (Hv _)) ?_;rintro _ _ P ⟨rfl,rfl⟩;refine .fact (Zg (.f (fun _ _=>OwF.sl) .l0)) fun⟨a51,c51,e51⟩=>?_;subst e51;refine .pu .fa (.lo 0 1 .ld .mk ?_);refine .pu .mv (.pu (.subN (b:=1)) ?_)
 refine .lo 0 1 (.sl (k:=1) (p:=0) (q:=i-1) (es:=n.keys.map encS) rfl (fun m hm=>bdn (n:=i-1) (hn:=by rw[hlS]at hm;omega)) (by rw[hlS];omega) (by omega)) (.s (.p (.tail _ (.tail _ (.tail _ (.tail _ hkk)))))) ?_;refine .call (Zaf _ _ _ ((n.keys.take (i-1)).map encS) (.s (.p (.tail _ (.head _)))) (by rw[List.length_map,List.length_take];omega) (Jn _)) ?_;rintro _ _ P ⟨rfl,rfl⟩;refine .fact (Zg (.f (fun _ _=>OwF.sl) .l0)) fun⟨a57,c57,e57⟩=>?_;subst e57;refine .pu (.bd (vs:=[_,_,_,_])) ?_;refine .nw (cs:=[_,_,_,_]) (hlt:=by show∀x∈([]:Yh),_;simp) fun b7=>?_;refine .st (vs:=[_,_,_,_]) ?_;refine .nil (.cons (.yes (.s (.p (.tail _ (.tail _ (.tail _ (.tail _ hkk)))))) (.yes (.s (.p (.tail _ (.tail _ (.tail _ (.tail _ hkk)))))) (.skip (.skip .nil)))) (.cons (.yes .mk (.yes .mk (.skip (.skip .nil)))) (.cons (.yes (.s (.p (.tail _ (.tail _ (.tail _ (.tail _ hii)))))) (.skip (.skip (.skip .nil)))) (.cons (.yes .mk (.skip (.skip (.skip .nil)))) .nil)))) ?_
 refine .seq (.drawn (by kernel_rfl) fun base=>?_);refine .pu .fa (.lo 0 0 .ld .mk ?_);refine .pu .mv ?_;refine .lo 0 0 (.sl (k:=1) (p:=i) (q:=(n.kids.map encI).length) (es:=n.kids.map encI) (bdn (n:=i) (hn:=by rw[hlK];omega)) (fun m hm=>rfl) (Nat.le_refl _) (by rw[hlK];omega)) (.s (.p (.tail _ (.tail _ (.tail _ (.tail _ hii)))))) ?_;refine .call (Zae _ _ _ ((n.kids.drop i).map encI) (.s (.p (.tail _ (.tail _ (.head _))))) (by rw[List.length_map,List.length_drop];omega) (Hv _)) ?_;rintro _ _ P ⟨rfl,rfl⟩;refine .fact (Zg (.f (fun _ _=>OwF.sl) .l0)) fun⟨a63,c63,e63⟩=>?_;subst e63;refine .pu .fa (.lo 0 1 .ld .mk ?_);refine .pu .mv ?_;refine .lo 0 1 (.sl (k:=1) (p:=i) (q:=(n.keys.map encS).length) (es:=n.keys.map encS) (bdn (n:=i) (hn:=by rw[hlS];omega)) (fun m hm=>rfl) (Nat.le_refl _) (by rw[hlS];omega)) (.s (.p (.tail _ (.tail _ (.tail _ (.tail _ hkk)))))) ?_
 refine .call (Zaf _ _ _ ((n.keys.drop i).map encS) (.s (.p (.head _))) (by rw[List.length_map,List.length_drop];omega) (Jn _)) ?_;rintro _ _ P ⟨rfl,rfl⟩;refine .fact (Zg (.f (fun _ _=>OwF.sl) .l0)) fun⟨a68,c68,e68⟩=>?_;subst e68;refine .pu (.bd (vs:=[_,_,_,_])) ?_;refine .nw (cs:=[_,_,_,_]) (hlt:=by show∀x∈([]:Yh),_;simp) fun b8=>?_;refine .st (vs:=[_,_,_,_]) ?_;refine .nil (.cons (.yes (.s (.p (.tail _ (.tail _ (.tail _ (.tail _ hkk)))))) (.yes (.s (.p (.tail _ (.tail _ (.tail _ (.tail _ hkk)))))) (.skip (.skip .nil)))) (.cons (.yes .mk (.yes .mk (.skip (.skip .nil)))) (.cons (.yes (.s (.p (.tail _ (.tail _ (.tail _ (.tail _ hii)))))) (.skip (.skip (.skip .nil)))) (.cons (.yes .mk (.skip (.skip (.skip .nil)))) .nil)))) (.ent ((Ent.slF (.s .z)).trans ((Ent.slF (.s .z)).trans ((Ent.slF (.s (.s .z))).trans ((Ent.slF (.s (.s .z))).trans (Ent.sl0 (k:=2) (c:=0)))))) ?_)
 have hgk:(n.keys.map encS)[((i-1:Nat):Int).toNat]? =some (encS n.keys[i-1]):=J9 hik;refine .seq (.drawn (by kernel_rfl) fun base=>?_);refine .lo 0 0 .ld .mk ?_;refine .pu .fa (.lo 0 1 .ld .mk ?_);refine .pu .mv (.pu (.subN (b:=1)) ?_);refine .lk (.ia (k:=1) (es:=n.keys.map encS) (hm:=.s (.p (by repeat (first|exact hkk|refine List.mem_cons_of_mem _ ?_)))) (hn:=⟨Int.natCast_nonneg _,by rw[hlS];omega⟩)) ?_;refine .lo 0 1 .le (.mk hgk (hm:=.s (.p (by repeat (first|exact hkk|refine List.mem_cons_of_mem _ ?_))))) ?_;refine .lo 0 1 .ld .mk ?_;refine .st (vs:=[_,_,_,_]) ?_;refine .pu .as (.st (vs:=[_,_,_,_]) ?_);refine .pu .as ?_;refine .nil (.cons (.yes .mk (.yes .mk (.skip .nil))) (.cons (.yes (.mk hgk (hm:=.s (.p (by repeat (first|exact hkk|refine List.mem_cons_of_mem _ ?_))))) (.yes (.mk hgk (hm:=.s (.p (by repeat (first|exact hkk|refine List.mem_cons_of_mem _ ?_))))) (.skip .nil))) (.cons (.yes .mk (.yes .mk (.skip .nil))) (.cons (.yes .mk (.skip (.skip .nil))) .nil)))) ?_
 refine .ret ?_;refine⟨_,.cell rfl .l3 rfl (.tmp rfl (.cell rfl .l2 rfl (.tmp rfl .nil))),_,_,(Ent.d3.trans Ent.d2),_,_,rfl,⟨⟨_,_,_,rfl,.head _,.tail _ (.tail _ (.head _)),.tail _ (.head _)⟩⟩,⟨⟨_,_,_,rfl,.head _,.tail _ (.tail _ (.tail _ (.tail _ (.head _)))),.tail _ (.tail _ (.tail _ (.head _)))⟩⟩,rfl,fun A hA=>by repeat (first|exact hA|refine List.mem_cons_of_mem _ ?_)⟩
end Go.Cis
