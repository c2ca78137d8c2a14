/- The checksum of bytes: what pack.Crc answers. -/
import Derived.Test.YtjadpdncjnokbaaGreatDoorChecked
import Derived.Test.YtjadpdncjnokbaaGreatDoorAxC
import Derived.WalkKit
import Derived.Lib.Hide
import Derived.Laws.BitsAllLaws
import Derived.Test.YtjadpdncjnokbaaGreatDoorProg
import Derived.KernelRfl
import Derived.Test.YtjadpdncjnokbaaGreatDoorAxG
set_option linter.unusedSimpArgs false
set_option linter.unusedVariables false
namespace Go.Proofs
open Go Go.RowKit
open Go.Ax (V1 Uh V2)
theorem crc1_lt{x:Nat}(h:x<4294967296):V1 x<4294967296:=by
 unfold V1;split
 ·exact Nat.xor_lt_two_pow (n:=32) (by omega) (by omega)
 ·omega
theorem crcN_lt{x:Nat}(h:x<4294967296):∀j,Uh j x<4294967296
 |0=>h
 |j+1=>crc1_lt (crcN_lt h j)
theorem Zxq{x:Nat}{l:List UInt8}{k:Nat}(h:k<l.length):V2 x (l.drop k)=V2 (Uh 8 (x^^^l[k].toNat)) (l.drop (k+1)):=by
 rw[List.drop_eq_getElem_cons h];rfl
theorem Zks{z:Nat}(hz:z<4294967296)(b:Bool)(h:(bits .and .u32 (z:Int) 1==1)=b):decide (z%2=1)=b:=by
 have e:=u32_and_nat z 1 hz (by omega);rw[Nat.and_one_is_mod]at e;have e':bits .and .u32 (z:Int) 1=((z%2:Nat):Int):=e;rw[e']at h;rw[←h];rcases Nat.mod_two_eq_zero_or_one z with h|h<;>rw[h]<;>rfl
theorem Zxr{z:Nat}(hz:z<4294967296)(hb:(bits .and .u32 (z:Int) 1==1)=true):Value.int .u32 (bits .xor .u32 ((z:Int)/2) 3988292384)=Value.int .u32 (V1 z:Nat):=by
 have h:=of_decide_eq_true (Zks hz true hb);have:=u32_xor_nat (z/2) 3988292384 (by omega) (by omega);rw[V1,if_pos h,←this];rfl
theorem Zxs{z:Nat}(hz:z<4294967296)(hb:(bits .and .u32 (z:Int) 1==1)=false):Value.int .u32 ((z:Int)/2)=Value.int .u32 (V1 z:Nat):=by
 have h:=of_decide_eq_false (Zks hz false hb);rw[V1,if_neg h];rfl
theorem Zxt{x:Nat}(hx:x<4294967296):wrap64 (bits .xor .u32 IntKind.u32.max (x:Int))=((x^^^4294967295:Nat):Int):=by
 have:=u32_xor_nat 4294967295 x (by omega) hx;have h2:x^^^4294967295<4294967296:=Nat.xor_lt_two_pow (n:=32) (by omega) (by omega);have h3:bits .xor .u32 IntKind.u32.max (x:Int)=((x^^^4294967295:Nat):Int):=by
  rw[Nat.xor_comm x];exact this
 rw[h3];unfold wrap64;omega
set_option maxHeartbeats 1000000 in
theorem Zkt(b o n c:Nat)(l:List UInt8)(hl:l.length=n)(hn:n≤1000000)(w:World)(hc:∀k (h:k<l.length),w.cell? ⟨b,o+k,none⟩=some (.int .u8 (l[k].toNat:Nat))):
  Calls Tryz.prog 96 #[.slice (some ⟨b,o,none⟩) n c] w fun e w'=>e=.returned (.int .i64 ((V2 4294967295 l^^^4294967295:Nat):Int))∧w'=w:=by
 go_enter Tryz.func96,Tryz.ntmps96
 go_wp2
 go_loop [3,9] (fun s i=>∃(k x:Nat),k≤n∧i=.int .i64 k∧s=.int .u32 (x:Nat)∧x<4294967296∧V2 4294967295 l=V2 x (l.drop k)) (fun _ i=>n-(intOf i).toNat)
 case atStart=>exact⟨0,4294967295,Nat.zero_le _,rfl,rfl,by decide,rfl⟩
 case round=>
  obtain⟨k,x,hk,rfl,rfl,hx,hcr⟩:=hrel;have HC:=Lib.hid hcr;clear hcr;by_cases hlt:k<n
  ·have hck:=hc k (by omega);have hcd:=Zxq (x:=x) (l:=l) (k:=k) (by omega);have hcl:l[k].toNat<256:=l[k].toNat_lt;generalize l[k].toNat=cc at hck hcd hcl;have HD:=Lib.hid hcd;clear hcd;have HH:=Lib.hid hc;clear hc;have hm:((cc:Int)%4294967296)=cc:=by omega
   have hx1:=u32_xor_nat x cc hx (by omega);have hy:x^^^cc<4294967296:=Nat.xor_lt_two_pow (n:=32) (by omega) (by omega);generalize hgy:x^^^cc=y at hx1 hy HD;clear hgy
   go_wp2
   go_loop [3,17] (fun s i=>∃(j:Nat),j≤8∧i=.int .i64 j∧s=.int .u32 (Uh j y:Nat)) (fun _ i=>8-(intOf i).toNat)
   case atStart=>exact⟨0,by omega,rfl,rfl⟩
   case round=>
    obtain⟨j,hj,rfl,rfl⟩:=hrel;have hz:=crcN_lt hy j;have hz1:Uh (j+1) y=V1 (Uh j y):=rfl;have HZ:=Lib.hid hz1;clear hz1;generalize hzz:Uh j y=z at hz HZ;have HE:=Lib.hid hzz;clear hzz;by_cases hlt8:j<8
    ·go_wp2
     all_goals
      go_round
      case rel=>exact⟨j+1,by omega,by go_num,by rw[HZ.out];first|exact Zxr hz (by assumption)|exact Zxs hz (by assumption)⟩
      case measure=>simp[intOf];omega
    ·obtain rfl:j=8:=by omega
     go_wp2
     go_round
     case rel=>exact⟨k+1,z,by omega,by go_num,rfl,hz,by rw[HC.out,HD.out,HE.out]⟩
     case measure=>simp[intOf];omega
  ·obtain rfl:k=n:=by omega
   go_wp2
   go_ret
   refine⟨?_,rfl⟩;have e:=HC.out;rw[List.drop_of_length_le (by omega)]at e;rw[Zxt hx,e];rfl
end Go.Proofs
namespace Go.Proofs
open Go Go.RowKit
open Go.Ax (Xi)
namespace AxTrim
theorem Zxu{c:Nat}{l:List UInt8}{m:Nat}(h:m<l.length)(e:l[m].toNat=c):Xi c (l.take (m+1))=Xi c (l.take m):=by
 unfold Xi;rw[List.take_succ_eq_append_getElem h,List.reverse_append];simp[e]
theorem Zxv{c:Nat}{l:List UInt8}{m:Nat}(h:m<l.length)(e:¬l[m].toNat=c):Xi c (l.take (m+1))=m+1:=by
 unfold Xi;rw[List.take_succ_eq_append_getElem h,List.reverse_append];simp[e];omega
def Zku :Value→Nat
 |.slice _ m _=>m
 |_=>0
end AxTrim
open AxTrim
set_option maxHeartbeats 1000000 in
theorem Zkv(b o n cp:Nat)(c:Nat)(l:List UInt8)(hl:l.length=n)(hcp:n≤cp)(hn:n≤1000000)(w:World)(hc:∀k (h:k<l.length),w.cell? ⟨b,o+k,none⟩=some (.int .u8 (l[k].toNat:Nat))):
  Calls Tryz.prog 294 #[.slice (some ⟨b,o,none⟩) n cp,.int .u8 (c:Nat)] w fun e w'=>e=.returned (.slice (some ⟨b,o,none⟩) (Xi c l) cp)∧w'=w:=by
 go_enter Tryz.func294,Tryz.ntmps294
 go_wp2
 go_loop [0] (fun s=>∃(m:Nat),m≤n∧s=.slice (some ⟨b,o,none⟩) m cp∧Xi c l=Xi c (l.take m)) (fun s=>Zku s)
 case atStart=>exact⟨n,Nat.le_refl _,rfl,by rw[List.take_of_length_le (by omega)]⟩
 case round=>
  obtain⟨m,hm,rfl,ht⟩:=hrel;have HT:=Lib.hid ht;clear ht;cases m with
  |zero=>
   go_wp2
   go_ret
   refine⟨?_,rfl⟩;rw[HT.out];rfl
  |succ m=>
   have hck:=hc m (by omega);have hh:=Zxu (c:=c) (l:=l) (m:=m) (by omega);have hi:=Zxv (c:=c) (l:=l) (m:=m) (by omega);generalize l[m].toNat=cc at hck hh hi;have HC:=Lib.hid hc;clear hc;have H1:=Lib.hid hh;have H2:=Lib.hid hi;clear hh hi;by_cases hq:cc=c
   ·subst hq
    go_wp2
    go_round
    case rel=>exact⟨m,by omega,rfl,by rw[HT.out,H1.out rfl]⟩
    case measure=>simp[Zku]
   ·go_wp2
    go_ret
    refine⟨?_,rfl⟩;rw[HT.out,H2.out hq];rfl
end Go.Proofs
namespace Go.Proofs
open Go Go.Ax
set_option maxRecDepth 100000
noncomputable def Tryz.tyTab :T TI:=(.n (.n (.n (.n (.n (.n (.n (.n (.n .e (some ⟨Tryz.t254.desc,6,Za Tryz.t255,48⟩) .e) (some ⟨Tryz.t127.desc,1,Za Tryz.t127,24⟩) (.n .e (some ⟨Tryz.t383.desc,256,Za Tryz.t383,256⟩) .e)) (some ⟨Tryz.t63.desc,1,Za Tryz.t63,8⟩) (.n (.n .e (some ⟨Tryz.t319.desc,1,Za Tryz.t319,8⟩) .e) (some ⟨Tryz.t190.desc,5,Za Tryz.t191,64⟩) .e)) none (.n (.n (.n .e (some ⟨Tryz.t286.desc,2,Za Tryz.t287,32⟩) .e) none (.n .e (some ⟨Tryz.t415.desc,11,Za Tryz.t415,48⟩) .e)) (some ⟨Tryz.t95.desc,1,Za Tryz.t95,8⟩) (.n (.n .e (some ⟨Tryz.t351.desc,1,Za Tryz.t351,8⟩) .e) none .e))) (some ⟨Tryz.t15.desc,1,Za Tryz.t15,8⟩) (.n (.n (.n (.n .e (some ⟨Tryz.t271.desc,1,Za Tryz.t271,8⟩) .e) (some ⟨Tryz.t143.desc,1,Za Tryz.t143,8⟩) (.n .e (some ⟨Tryz.t399.desc,1,Za Tryz.t399,8⟩) .e)) (some ⟨Tryz.t79.desc,1,Za Tryz.t79,8⟩) (.n (.n .e (some ⟨Tryz.t335.desc,1,Za Tryz.t335,24⟩) .e) (some ⟨Tryz.t207.desc,1,Za Tryz.t207,8⟩) .e)) (some ⟨Tryz.t47.desc,4,Za Tryz.t47,32⟩) (.n (.n (.n .e (some ⟨Tryz.t303.desc,1,Za Tryz.t303,8⟩) .e) (some ⟨Tryz.t175.desc,1,Za Tryz.t175,24⟩) .e) (some ⟨Tryz.t111.desc,1,Za Tryz.t111,8⟩) (.n (.n .e (some ⟨Tryz.t367.desc,1,Za Tryz.t367,8⟩) .e) (some ⟨Tryz.t239.desc,1,Za Tryz.t239,8⟩) .e)))) (some ⟨Tryz.t7.desc,4,Za Tryz.t7,24⟩) (.n (.n (.n (.n (.n .e (some ⟨Tryz.t263.desc,1,Za Tryz.t263,8⟩) .e) (some ⟨Tryz.t135.desc,1,Za Tryz.t135,8⟩) (.n .e (some ⟨Tryz.t391.desc,1,Za Tryz.t391,8⟩) .e)) (some ⟨Tryz.t71.desc,1,Za Tryz.t71,8⟩) (.n (.n .e (some ⟨Tryz.t327.desc,2,Za Tryz.t327,24⟩) .e) (some ⟨Tryz.t199.desc,1,Za Tryz.t199,8⟩) .e)) (some ⟨Tryz.t39.desc,1,Za Tryz.t39,8⟩) (.n (.n (.n .e (some ⟨Tryz.t295.desc,1,Za Tryz.t295,8⟩) .e) (some ⟨Tryz.t167.desc,1,Za Tryz.t167,8⟩) .e) (some ⟨Tryz.t103.desc,1,Za Tryz.t103,8⟩) (.n (.n .e (some ⟨Tryz.t359.desc,1,Za Tryz.t359,8⟩) .e) none .e))) (some ⟨Tryz.t23.desc,1,Za Tryz.t23,8⟩) (.n (.n (.n (.n .e (some ⟨Tryz.t279.desc,64,Za Tryz.t279,64⟩) .e) (some ⟨Tryz.t151.desc,1,Za Tryz.t151,8⟩) (.n .e (some ⟨Tryz.t407.desc,0,Za Tryz.t407,0⟩) .e)) (some ⟨Tryz.t87.desc,1,Za Tryz.t87,8⟩) (.n (.n .e (some ⟨Tryz.t3.desc,1,Za Tryz.t343,8⟩) .e) (some ⟨Tryz.t215.desc,1,Za Tryz.t215,8⟩) .e)) (some ⟨Tryz.t55.desc,1,Za Tryz.t55,8⟩) (.n (.n (.n .e (some ⟨Tryz.t310.desc,4,Za Tryz.t311,32⟩) .e) (some ⟨Tryz.t183.desc,1,Za Tryz.t183,8⟩) .e) (some ⟨Tryz.t119.desc,1,Za Tryz.t119,8⟩) (.n (.n .e (some ⟨Tryz.t375.desc,1,Za Tryz.t375,8⟩) .e) (some ⟨Tryz.t247.desc,1,Za Tryz.t247,8⟩) .e))))) (some ⟨Tryz.t3.desc,1,Za Tryz.t3,8⟩) (.n (.n (.n (.n (.n (.n .e (some ⟨Tryz.t259.desc,1,Za Tryz.t259,24⟩) .e) (some ⟨Tryz.t130.desc,4,Za Tryz.t131,80⟩) (.n .e (some ⟨Tryz.t387.desc,1,Za Tryz.t387,8⟩) .e)) (some ⟨Tryz.t67.desc,1,Za Tryz.t67,8⟩) (.n (.n .e (some ⟨Tryz.t323.desc,1,Za Tryz.t323,8⟩) .e) (some ⟨Tryz.t195.desc,2,Za Tryz.t195,32⟩) .e)) (some ⟨Tryz.t35.desc,1,Za Tryz.t35,24⟩) (.n (.n (.n .e none .e) (some ⟨Tryz.t163.desc,1,Za Tryz.t163,8⟩) .e) (some ⟨Tryz.t99.desc,1,Za Tryz.t99,24⟩) (.n (.n .e (some ⟨Tryz.t355.desc,1,Za Tryz.t355,8⟩) .e) (some ⟨Tryz.t227.desc,2,Za Tryz.t227,24⟩) .e))) (some ⟨Tryz.t18.desc,1,Za Tryz.t19,8⟩) (.n (.n (.n (.n .e (some ⟨Tryz.t275.desc,1,Za Tryz.t275,8⟩) .e) (some ⟨Tryz.t147.desc,7,Za Tryz.t147,56⟩) (.n .e (some ⟨Tryz.t402.desc,2,Za Tryz.t403,2⟩) .e)) (some ⟨Tryz.t83.desc,1,Za Tryz.t83,8⟩) (.n (.n .e (some ⟨Tryz.t339.desc,1,Za Tryz.t339,24⟩) .e) (some ⟨Tryz.t211.desc,1,Za Tryz.t211,24⟩) .e)) (some ⟨Tryz.t51.desc,1,Za Tryz.t51,24⟩) (.n (.n (.n .e (some ⟨Tryz.t307.desc,1,Za Tryz.t307,8⟩) .e) (some ⟨Tryz.t179.desc,1,Za Tryz.t179,24⟩) .e) (some ⟨Tryz.t115.desc,1,Za Tryz.t115,8⟩) (.n (.n .e (some ⟨Tryz.t371.desc,1,Za Tryz.t371,8⟩) .e) (some ⟨Tryz.t243.desc,1,Za Tryz.t243,8⟩) .e)))) (some ⟨Tryz.t9.desc,1,Za Tryz.t11,16⟩) (.n (.n (.n (.n (.n .e (some ⟨Tryz.t267.desc,1,Za Tryz.t267,8⟩) .e) (some ⟨Tryz.t139.desc,1,Za Tryz.t139,8⟩) (.n .e (some ⟨Tryz.t395.desc,1,Za Tryz.t395,8⟩) .e)) (some ⟨Tryz.t74.desc,3,Za Tryz.t75,40⟩) (.n (.n .e (some ⟨Tryz.t330.desc,3,Za Tryz.t331,24⟩) .e) (some ⟨Tryz.t203.desc,1,Za Tryz.t203,8⟩) .e)) (some ⟨Tryz.t43.desc,1,Za Tryz.t43,8⟩) (.n (.n (.n .e (some ⟨Tryz.t299.desc,1,Za Tryz.t299,8⟩) .e) (some ⟨Tryz.t171.desc,1,Za Tryz.t171,8⟩) .e) none (.n (.n .e (some ⟨Tryz.t363.desc,1,Za Tryz.t363,8⟩) .e) (some ⟨Tryz.t235.desc,1,Za Tryz.t235,8⟩) .e))) (some ⟨Tryz.t27.desc,1,Za Tryz.t27,8⟩) (.n (.n (.n (.n .e (some ⟨Tryz.t283.desc,1,Za Tryz.t283,8⟩) .e) (some ⟨Tryz.t155.desc,1,Za Tryz.t155,8⟩) (.n .e (some ⟨Tryz.t5.desc,1,Za Tryz.t411,1⟩) .e)) (some ⟨Tryz.t91.desc,6,Za Tryz.t91,56⟩) (.n (.n .e (some ⟨Tryz.t347.desc,1,Za Tryz.t347,8⟩) .e) (some ⟨Tryz.t219.desc,1,Za Tryz.t219,8⟩) .e)) (some ⟨Tryz.t59.desc,6,Za Tryz.t59,48⟩) (.n (.n (.n .e (some ⟨Tryz.t315.desc,1,Za Tryz.t315,8⟩) .e) (some ⟨Tryz.t187.desc,1,Za Tryz.t187,8⟩) .e) (some ⟨Tryz.t123.desc,1,Za Tryz.t123,8⟩) (.n (.n .e (some ⟨Tryz.t379.desc,1,Za Tryz.t379,8⟩) .e) (some ⟨Tryz.t251.desc,1,Za Tryz.t251,8⟩) .e)))))) (some ⟨Tryz.t1.desc,1,Za Tryz.t1,8⟩) (.n (.n (.n (.n (.n (.n (.n .e (some ⟨Tryz.t184.desc,2,Za Tryz.t257,24⟩) .e) (some ⟨Tryz.t129.desc,1,Za Tryz.t129,8⟩) (.n .e none .e)) (some ⟨Tryz.t65.desc,1,Za Tryz.t65,8⟩) (.n (.n .e (some ⟨Tryz.t321.desc,1,Za Tryz.t321,8⟩) .e) (some ⟨Tryz.t192.desc,2,Za Tryz.t193,32⟩) .e)) (some ⟨Tryz.t33.desc,1,Za Tryz.t33,8⟩) (.n (.n (.n .e (some ⟨Tryz.t288.desc,1,Za Tryz.t289,16⟩) .e) (some ⟨Tryz.t161.desc,2,Za Tryz.t161,16⟩) .e) (some ⟨Tryz.t97.desc,1,Za Tryz.t97,8⟩) (.n (.n .e (some ⟨Tryz.t353.desc,1,Za Tryz.t353,8⟩) .e) (some ⟨Tryz.t225.desc,1,Za Tryz.t225,8⟩) .e))) (some ⟨Tryz.t17.desc,1,Za Tryz.t17,8⟩) (.n (.n (.n (.n .e (some ⟨Tryz.t273.desc,1,Za Tryz.t273,8⟩) .e) (some ⟨Tryz.t145.desc,9,Za Tryz.t145,72⟩) (.n .e (some ⟨Tryz.t401.desc,256,Za Tryz.t401,256⟩) .e)) (some ⟨Tryz.t81.desc,1,Za Tryz.t81,8⟩) (.n (.n .e (some ⟨Tryz.t337.desc,1,Za Tryz.t337,24⟩) .e) (some ⟨Tryz.t209.desc,1,Za Tryz.t209,8⟩) .e)) none (.n (.n (.n .e (some ⟨Tryz.t305.desc,1,Za Tryz.t305,8⟩) .e) (some ⟨Tryz.t176.desc,4,Za Tryz.t177,48⟩) .e) none (.n (.n .e (some ⟨Tryz.t369.desc,1,Za Tryz.t369,8⟩) .e) (some ⟨Tryz.t241.desc,1,Za Tryz.t241,8⟩) .e)))) (some ⟨Tryz.t9.desc,1,Za Tryz.t9,16⟩) (.n (.n (.n (.n (.n .e (some ⟨Tryz.t265.desc,1,Za Tryz.t265,8⟩) .e) (some ⟨Tryz.t137.desc,1,Za Tryz.t137,8⟩) (.n .e none .e)) (some ⟨Tryz.t73.desc,1,Za Tryz.t73,24⟩) (.n (.n .e (some ⟨Tryz.t329.desc,1,Za Tryz.t329,8⟩) .e) (some ⟨Tryz.t200.desc,3,Za Tryz.t201,24⟩) .e)) (some ⟨Tryz.t41.desc,2,Za Tryz.t41,32⟩) (.n (.n (.n .e (some ⟨Tryz.t297.desc,1,Za Tryz.t297,8⟩) .e) (some ⟨Tryz.t169.desc,1,Za Tryz.t169,24⟩) .e) (some ⟨Tryz.t105.desc,1,Za Tryz.t105,8⟩) (.n (.n .e (some ⟨Tryz.t361.desc,1,Za Tryz.t361,8⟩) .e) (some ⟨Tryz.t233.desc,1,Za Tryz.t233,8⟩) .e))) (some ⟨Tryz.t25.desc,1,Za Tryz.t25,8⟩) (.n (.n (.n (.n .e (some ⟨Tryz.t281.desc,1,Za Tryz.t281,8⟩) .e) (some ⟨Tryz.t152.desc,5,Za Tryz.t153,40⟩) (.n .e (some ⟨Tryz.t408.desc,0,Za Tryz.t409,0⟩) .e)) (some ⟨Tryz.t89.desc,4,Za Tryz.t89,32⟩) (.n (.n .e (some ⟨Tryz.t345.desc,1,Za Tryz.t345,8⟩) .e) (some ⟨Tryz.t217.desc,1,Za Tryz.t217,8⟩) .e)) none (.n (.n (.n .e (some ⟨Tryz.t313.desc,1,Za Tryz.t313,8⟩) .e) (some ⟨Tryz.t184.desc,2,Za Tryz.t185,24⟩) .e) (some ⟨Tryz.t121.desc,4,Za Tryz.t121,48⟩) (.n (.n .e (some ⟨Tryz.t377.desc,1,Za Tryz.t377,8⟩) .e) (some ⟨Tryz.t249.desc,1,Za Tryz.t249,8⟩) .e))))) (some ⟨Tryz.t5.desc,1,Za Tryz.t5,1⟩) (.n (.n (.n (.n (.n (.n .e (some ⟨Tryz.t261.desc,8,Za Tryz.t261,72⟩) .e) none (.n .e none .e)) (some ⟨Tryz.t69.desc,1,Za Tryz.t69,8⟩) (.n (.n .e (some ⟨Tryz.t325.desc,1,Za Tryz.t325,8⟩) .e) (some ⟨Tryz.t197.desc,1,Za Tryz.t197,8⟩) .e)) (some ⟨Tryz.t37.desc,1,Za Tryz.t37,8⟩) (.n (.n (.n .e (some ⟨Tryz.t293.desc,1,Za Tryz.t293,8⟩) .e) (some ⟨Tryz.t164.desc,4,Za Tryz.t165,32⟩) .e) (some ⟨Tryz.t100.desc,7,Za Tryz.t101,72⟩) (.n (.n .e (some ⟨Tryz.t357.desc,1,Za Tryz.t357,8⟩) .e) (some ⟨Tryz.t229.desc,1,Za Tryz.t229,8⟩) .e))) (some ⟨Tryz.t21.desc,1,Za Tryz.t21,4⟩) (.n (.n (.n (.n .e (some ⟨Tryz.t276.desc,7,Za Tryz.t277,56⟩) .e) none (.n .e (some ⟨Tryz.t405.desc,4,Za Tryz.t405,40⟩) .e)) (some ⟨Tryz.t85.desc,1,Za Tryz.t85,24⟩) (.n (.n .e (some ⟨Tryz.t341.desc,1,Za Tryz.t341,8⟩) .e) (some ⟨Tryz.t213.desc,4,Za Tryz.t213,64⟩) .e)) (some ⟨Tryz.t53.desc,1,Za Tryz.t53,8⟩) (.n (.n (.n .e (some ⟨Tryz.t309.desc,1,Za Tryz.t309,8⟩) .e) (some ⟨Tryz.t181.desc,1,Za Tryz.t181,8⟩) .e) (some ⟨Tryz.t116.desc,5,Za Tryz.t117,40⟩) (.n (.n .e (some ⟨Tryz.t373.desc,1,Za Tryz.t373,8⟩) .e) (some ⟨Tryz.t245.desc,1,Za Tryz.t245,8⟩) .e)))) (some ⟨Tryz.t13.desc,2,Za Tryz.t13,24⟩) (.n (.n (.n (.n (.n .e none .e) (some ⟨Tryz.t141.desc,1,Za Tryz.t141,8⟩) (.n .e (some ⟨Tryz.t397.desc,1,Za Tryz.t397,8⟩) .e)) (some ⟨Tryz.t77.desc,1,Za Tryz.t77,24⟩) (.n (.n .e (some ⟨Tryz.t333.desc,1,Za Tryz.t333,8⟩) .e) none .e)) (some ⟨Tryz.t45.desc,1,Za Tryz.t45,24⟩) (.n (.n (.n .e (some ⟨Tryz.t301.desc,1,Za Tryz.t301,8⟩) .e) (some ⟨Tryz.t173.desc,2,Za Tryz.t173,16⟩) .e) (some ⟨Tryz.t109.desc,1,Za Tryz.t109,8⟩) (.n (.n .e (some ⟨Tryz.t365.desc,1,Za Tryz.t365,8⟩) .e) (some ⟨Tryz.t237.desc,1,Za Tryz.t237,8⟩) .e))) (some ⟨Tryz.t29.desc,1,Za Tryz.t29,8⟩) (.n (.n (.n (.n .e (some ⟨Tryz.t285.desc,1,Za Tryz.t285,8⟩) .e) none (.n .e (some ⟨Tryz.t21.desc,1,Za Tryz.t413,4⟩) .e)) none (.n (.n .e (some ⟨Tryz.t349.desc,1,Za Tryz.t349,8⟩) .e) (some ⟨Tryz.t221.desc,1,Za Tryz.t221,8⟩) .e)) none (.n (.n (.n .e (some ⟨Tryz.t316.desc,3,Za Tryz.t317,32⟩) .e) (some ⟨Tryz.t189.desc,1,Za Tryz.t189,24⟩) .e) (some ⟨Tryz.t125.desc,1,Za Tryz.t125,8⟩) (.n (.n .e (some ⟨Tryz.t381.desc,1,Za Tryz.t381,8⟩) .e) (some ⟨Tryz.t253.desc,1,Za Tryz.t253,8⟩) .e))))))) none (.n (.n (.n (.n (.n (.n (.n (.n .e (some ⟨Tryz.t256.desc,1,Za Tryz.t256,8⟩) .e) none (.n .e (some ⟨Tryz.t383.desc,256,Za Tryz.t384,256⟩) .e)) (some ⟨Tryz.t64.desc,1,Za Tryz.t64,8⟩) (.n (.n .e (some ⟨Tryz.t320.desc,1,Za Tryz.t320,8⟩) .e) (some ⟨Tryz.t192.desc,2,Za Tryz.t192,32⟩) .e)) (some ⟨Tryz.t32.desc,1,Za Tryz.t32,8⟩) (.n (.n (.n .e (some ⟨Tryz.t288.desc,1,Za Tryz.t288,16⟩) .e) (some ⟨Tryz.t160.desc,1,Za Tryz.t160,8⟩) (.n .e (some ⟨Tryz.t415.desc,11,Za Tryz.t416,48⟩) .e)) none (.n (.n .e none .e) (some ⟨Tryz.t224.desc,1,Za Tryz.t224,8⟩) .e))) (some ⟨Tryz.t16.desc,1,Za Tryz.t16,8⟩) (.n (.n (.n (.n .e (some ⟨Tryz.t272.desc,1,Za Tryz.t272,8⟩) .e) (some ⟨Tryz.t144.desc,1,Za Tryz.t144,8⟩) (.n .e (some ⟨Tryz.t400.desc,1,Za Tryz.t400,8⟩) .e)) none (.n (.n .e (some ⟨Tryz.t336.desc,1,Za Tryz.t336,8⟩) .e) none .e)) (some ⟨Tryz.t47.desc,4,Za Tryz.t48,32⟩) (.n (.n (.n .e (some ⟨Tryz.t304.desc,1,Za Tryz.t304,8⟩) .e) (some ⟨Tryz.t176.desc,4,Za Tryz.t176,48⟩) .e) (some ⟨Tryz.t112.desc,1,Za Tryz.t112,8⟩) (.n (.n .e (some ⟨Tryz.t368.desc,1,Za Tryz.t368,8⟩) .e) none .e)))) (some ⟨Tryz.t7.desc,4,Za Tryz.t8,24⟩) (.n (.n (.n (.n (.n .e (some ⟨Tryz.t264.desc,1,Za Tryz.t264,8⟩) .e) (some ⟨Tryz.t136.desc,1,Za Tryz.t136,8⟩) (.n .e (some ⟨Tryz.t392.desc,1,Za Tryz.t392,8⟩) .e)) (some ⟨Tryz.t72.desc,1,Za Tryz.t72,8⟩) (.n (.n .e (some ⟨Tryz.t327.desc,2,Za Tryz.t328,24⟩) .e) (some ⟨Tryz.t200.desc,3,Za Tryz.t200,24⟩) .e)) (some ⟨Tryz.t40.desc,1,Za Tryz.t40,8⟩) (.n (.n (.n .e (some ⟨Tryz.t296.desc,1,Za Tryz.t296,8⟩) .e) (some ⟨Tryz.t168.desc,1,Za Tryz.t168,8⟩) .e) (some ⟨Tryz.t104.desc,1,Za Tryz.t104,8⟩) (.n (.n .e (some ⟨Tryz.t360.desc,1,Za Tryz.t360,8⟩) .e) (some ⟨Tryz.t232.desc,1,Za Tryz.t232,8⟩) .e))) (some ⟨Tryz.t24.desc,1,Za Tryz.t24,8⟩) (.n (.n (.n (.n .e (some ⟨Tryz.t280.desc,1,Za Tryz.t280,8⟩) .e) (some ⟨Tryz.t152.desc,5,Za Tryz.t152,40⟩) (.n .e (some ⟨Tryz.t408.desc,0,Za Tryz.t408,0⟩) .e)) (some ⟨Tryz.t88.desc,1,Za Tryz.t88,8⟩) (.n (.n .e none .e) (some ⟨Tryz.t216.desc,1,Za Tryz.t216,8⟩) .e)) (some ⟨Tryz.t56.desc,1,Za Tryz.t56,8⟩) (.n (.n (.n .e (some ⟨Tryz.t312.desc,1,Za Tryz.t312,8⟩) .e) (some ⟨Tryz.t184.desc,2,Za Tryz.t184,24⟩) .e) (some ⟨Tryz.t120.desc,1,Za Tryz.t120,8⟩) (.n (.n .e (some ⟨Tryz.t376.desc,1,Za Tryz.t376,8⟩) .e) (some ⟨Tryz.t247.desc,1,Za Tryz.t248,8⟩) .e))))) (some ⟨Tryz.t4.desc,1,Za Tryz.t4,1⟩) (.n (.n (.n (.n (.n (.n .e (some ⟨Tryz.t260.desc,1,Za Tryz.t260,8⟩) .e) (some ⟨Tryz.t132.desc,1,Za Tryz.t132,8⟩) (.n .e (some ⟨Tryz.t388.desc,1,Za Tryz.t388,8⟩) .e)) (some ⟨Tryz.t68.desc,1,Za Tryz.t68,8⟩) (.n (.n .e none .e) (some ⟨Tryz.t195.desc,2,Za Tryz.t196,32⟩) .e)) (some ⟨Tryz.t35.desc,1,Za Tryz.t36,24⟩) (.n (.n (.n .e (some ⟨Tryz.t292.desc,1,Za Tryz.t292,8⟩) .e) (some ⟨Tryz.t164.desc,4,Za Tryz.t164,32⟩) .e) (some ⟨Tryz.t100.desc,7,Za Tryz.t100,72⟩) (.n (.n .e (some ⟨Tryz.t356.desc,1,Za Tryz.t356,8⟩) .e) (some ⟨Tryz.t227.desc,2,Za Tryz.t228,24⟩) .e))) (some ⟨Tryz.t20.desc,1,Za Tryz.t20,16⟩) (.n (.n (.n (.n .e (some ⟨Tryz.t276.desc,7,Za Tryz.t276,56⟩) .e) (some ⟨Tryz.t147.desc,7,Za Tryz.t148,56⟩) (.n .e (some ⟨Tryz.t404.desc,32,Za Tryz.t404,32⟩) .e)) (some ⟨Tryz.t84.desc,1,Za Tryz.t84,8⟩) (.n (.n .e (some ⟨Tryz.t340.desc,1,Za Tryz.t340,8⟩) .e) (some ⟨Tryz.t211.desc,1,Za Tryz.t212,24⟩) .e)) (some ⟨Tryz.t52.desc,1,Za Tryz.t52,8⟩) (.n (.n (.n .e (some ⟨Tryz.t308.desc,1,Za Tryz.t308,8⟩) .e) (some ⟨Tryz.t180.desc,1,Za Tryz.t180,8⟩) .e) (some ⟨Tryz.t116.desc,5,Za Tryz.t116,40⟩) (.n (.n .e (some ⟨Tryz.t372.desc,1,Za Tryz.t372,8⟩) .e) (some ⟨Tryz.t244.desc,1,Za Tryz.t244,8⟩) .e)))) (some ⟨Tryz.t12.desc,1,Za Tryz.t12,8⟩) (.n (.n (.n (.n (.n .e (some ⟨Tryz.t268.desc,1,Za Tryz.t268,8⟩) .e) none (.n .e none .e)) (some ⟨Tryz.t76.desc,1,Za Tryz.t76,8⟩) (.n (.n .e (some ⟨Tryz.t332.desc,1,Za Tryz.t332,8⟩) .e) (some ⟨Tryz.t204.desc,1,Za Tryz.t204,24⟩) .e)) (some ⟨Tryz.t44.desc,1,Za Tryz.t44,8⟩) (.n (.n (.n .e (some ⟨Tryz.t300.desc,1,Za Tryz.t300,8⟩) .e) (some ⟨Tryz.t172.desc,1,Za Tryz.t172,8⟩) .e) (some ⟨Tryz.t108.desc,1,Za Tryz.t108,8⟩) (.n (.n .e (some ⟨Tryz.t364.desc,1,Za Tryz.t364,8⟩) .e) (some ⟨Tryz.t236.desc,1,Za Tryz.t236,8⟩) .e))) (some ⟨Tryz.t28.desc,1,Za Tryz.t28,8⟩) (.n (.n (.n (.n .e (some ⟨Tryz.t284.desc,1,Za Tryz.t284,8⟩) .e) (some ⟨Tryz.t156.desc,1,Za Tryz.t156,24⟩) (.n .e (some ⟨Tryz.t412.desc,1,Za Tryz.t412,8⟩) .e)) (some ⟨Tryz.t91.desc,6,Za Tryz.t92,56⟩) (.n (.n .e (some ⟨Tryz.t348.desc,1,Za Tryz.t348,8⟩) .e) (some ⟨Tryz.t220.desc,1,Za Tryz.t220,8⟩) .e)) (some ⟨Tryz.t59.desc,6,Za Tryz.t60,48⟩) (.n (.n (.n .e (some ⟨Tryz.t316.desc,3,Za Tryz.t316,32⟩) .e) (some ⟨Tryz.t188.desc,1,Za Tryz.t188,24⟩) .e) none (.n (.n .e none .e) (some ⟨Tryz.t252.desc,1,Za Tryz.t252,8⟩) .e)))))) (some ⟨Tryz.t2.desc,1,Za Tryz.t2,8⟩) (.n (.n (.n (.n (.n (.n (.n .e (some ⟨Tryz.t258.desc,1,Za Tryz.t258,8⟩) .e) (some ⟨Tryz.t130.desc,4,Za Tryz.t130,80⟩) (.n .e (some ⟨Tryz.t386.desc,1,Za Tryz.t386,8⟩) .e)) none (.n (.n .e none .e) (some ⟨Tryz.t194.desc,1,Za Tryz.t194,8⟩) .e)) (some ⟨Tryz.t34.desc,1,Za Tryz.t34,24⟩) (.n (.n (.n .e (some ⟨Tryz.t290.desc,1,Za Tryz.t290,8⟩) .e) (some ⟨Tryz.t161.desc,2,Za Tryz.t162,16⟩) .e) (some ⟨Tryz.t98.desc,1,Za Tryz.t98,8⟩) (.n (.n .e none .e) (some ⟨Tryz.t226.desc,1,Za Tryz.t226,8⟩) .e))) (some ⟨Tryz.t18.desc,1,Za Tryz.t18,8⟩) (.n (.n (.n (.n .e (some ⟨Tryz.t274.desc,1,Za Tryz.t274,8⟩) .e) (some ⟨Tryz.t145.desc,9,Za Tryz.t146,72⟩) (.n .e (some ⟨Tryz.t402.desc,2,Za Tryz.t402,2⟩) .e)) (some ⟨Tryz.t82.desc,1,Za Tryz.t82,8⟩) (.n (.n .e (some ⟨Tryz.t338.desc,1,Za Tryz.t338,8⟩) .e) (some ⟨Tryz.t210.desc,1,Za Tryz.t210,8⟩) .e)) (some ⟨Tryz.t50.desc,1,Za Tryz.t50,8⟩) (.n (.n (.n .e (some ⟨Tryz.t306.desc,1,Za Tryz.t306,8⟩) .e) (some ⟨Tryz.t178.desc,1,Za Tryz.t178,8⟩) .e) (some ⟨Tryz.t114.desc,1,Za Tryz.t114,8⟩) (.n (.n .e (some ⟨Tryz.t370.desc,1,Za Tryz.t370,8⟩) .e) (some ⟨Tryz.t242.desc,1,Za Tryz.t242,8⟩) .e)))) (some ⟨Tryz.t9.desc,1,Za Tryz.t10,16⟩) (.n (.n (.n (.n (.n .e none .e) (some ⟨Tryz.t138.desc,1,Za Tryz.t138,8⟩) (.n .e (some ⟨Tryz.t394.desc,1,Za Tryz.t394,8⟩) .e)) (some ⟨Tryz.t74.desc,3,Za Tryz.t74,40⟩) (.n (.n .e (some ⟨Tryz.t330.desc,3,Za Tryz.t330,24⟩) .e) none .e)) (some ⟨Tryz.t41.desc,2,Za Tryz.t42,32⟩) (.n (.n (.n .e (some ⟨Tryz.t298.desc,1,Za Tryz.t298,8⟩) .e) none .e) (some ⟨Tryz.t106.desc,1,Za Tryz.t106,8⟩) (.n (.n .e (some ⟨Tryz.t362.desc,1,Za Tryz.t362,8⟩) .e) (some ⟨Tryz.t234.desc,1,Za Tryz.t234,8⟩) .e))) none (.n (.n (.n (.n .e none .e) (some ⟨Tryz.t154.desc,1,Za Tryz.t154,8⟩) (.n .e (some ⟨Tryz.t5.desc,1,Za Tryz.t410,1⟩) .e)) (some ⟨Tryz.t89.desc,4,Za Tryz.t90,32⟩) (.n (.n .e (some ⟨Tryz.t346.desc,1,Za Tryz.t346,8⟩) .e) (some ⟨Tryz.t218.desc,1,Za Tryz.t218,8⟩) .e)) (some ⟨Tryz.t58.desc,1,Za Tryz.t58,8⟩) (.n (.n (.n .e (some ⟨Tryz.t314.desc,1,Za Tryz.t314,24⟩) .e) (some ⟨Tryz.t186.desc,1,Za Tryz.t186,8⟩) .e) (some ⟨Tryz.t121.desc,4,Za Tryz.t122,48⟩) (.n (.n .e (some ⟨Tryz.t378.desc,1,Za Tryz.t378,8⟩) .e) (some ⟨Tryz.t250.desc,1,Za Tryz.t250,8⟩) .e))))) (some ⟨Tryz.t5.desc,1,Za Tryz.t6,1⟩) (.n (.n (.n (.n (.n (.n .e (some ⟨Tryz.t261.desc,8,Za Tryz.t262,72⟩) .e) (some ⟨Tryz.t134.desc,1,Za Tryz.t134,8⟩) (.n .e (some ⟨Tryz.t390.desc,1,Za Tryz.t390,8⟩) .e)) (some ⟨Tryz.t70.desc,1,Za Tryz.t70,8⟩) (.n (.n .e (some ⟨Tryz.t326.desc,1,Za Tryz.t326,8⟩) .e) (some ⟨Tryz.t198.desc,1,Za Tryz.t198,8⟩) .e)) (some ⟨Tryz.t38.desc,1,Za Tryz.t38,8⟩) (.n (.n (.n .e (some ⟨Tryz.t294.desc,1,Za Tryz.t294,8⟩) .e) none .e) (some ⟨Tryz.t102.desc,1,Za Tryz.t102,8⟩) (.n (.n .e (some ⟨Tryz.t358.desc,1,Za Tryz.t358,8⟩) .e) (some ⟨Tryz.t230.desc,1,Za Tryz.t230,8⟩) .e))) (some ⟨Tryz.t22.desc,1,Za Tryz.t22,24⟩) (.n (.n (.n (.n .e (some ⟨Tryz.t278.desc,1,Za Tryz.t278,8⟩) .e) (some ⟨Tryz.t150.desc,1,Za Tryz.t150,8⟩) (.n .e (some ⟨Tryz.t405.desc,4,Za Tryz.t406,40⟩) .e)) (some ⟨Tryz.t86.desc,1,Za Tryz.t86,8⟩) (.n (.n .e (some ⟨Tryz.t342.desc,1,Za Tryz.t342,8⟩) .e) (some ⟨Tryz.t213.desc,4,Za Tryz.t214,64⟩) .e)) (some ⟨Tryz.t54.desc,1,Za Tryz.t54,8⟩) (.n (.n (.n .e (some ⟨Tryz.t310.desc,4,Za Tryz.t310,32⟩) .e) (some ⟨Tryz.t181.desc,1,Za Tryz.t182,8⟩) .e) (some ⟨Tryz.t118.desc,1,Za Tryz.t118,8⟩) (.n (.n .e (some ⟨Tryz.t374.desc,1,Za Tryz.t374,8⟩) .e) (some ⟨Tryz.t246.desc,1,Za Tryz.t246,4⟩) .e)))) (some ⟨Tryz.t13.desc,2,Za Tryz.t14,24⟩) (.n (.n (.n (.n (.n .e (some ⟨Tryz.t270.desc,1,Za Tryz.t270,8⟩) .e) (some ⟨Tryz.t142.desc,1,Za Tryz.t142,8⟩) (.n .e none .e)) none (.n (.n .e (some ⟨Tryz.t334.desc,1,Za Tryz.t334,8⟩) .e) (some ⟨Tryz.t206.desc,1,Za Tryz.t206,8⟩) .e)) (some ⟨Tryz.t46.desc,1,Za Tryz.t46,8⟩) (.n (.n (.n .e (some ⟨Tryz.t302.desc,1,Za Tryz.t302,8⟩) .e) (some ⟨Tryz.t173.desc,2,Za Tryz.t174,16⟩) .e) none (.n (.n .e (some ⟨Tryz.t28.desc,1,Za Tryz.t366,8⟩) .e) (some ⟨Tryz.t238.desc,1,Za Tryz.t238,8⟩) .e))) (some ⟨Tryz.t3.desc,1,Za Tryz.t30,8⟩) (.n (.n (.n (.n .e (some ⟨Tryz.t286.desc,2,Za Tryz.t286,32⟩) .e) (some ⟨Tryz.t158.desc,1,Za Tryz.t158,8⟩) (.n .e (some ⟨Tryz.t21.desc,1,Za Tryz.t414,4⟩) .e)) (some ⟨Tryz.t94.desc,1,Za Tryz.t94,8⟩) (.n (.n .e (some ⟨Tryz.t350.desc,1,Za Tryz.t350,8⟩) .e) (some ⟨Tryz.t222.desc,1,Za Tryz.t222,24⟩) .e)) (some ⟨Tryz.t62.desc,1,Za Tryz.t62,8⟩) (.n (.n (.n .e (some ⟨Tryz.t318.desc,1,Za Tryz.t318,8⟩) .e) (some ⟨Tryz.t190.desc,5,Za Tryz.t190,64⟩) .e) (some ⟨Tryz.t126.desc,1,Za Tryz.t126,8⟩) (.n (.n .e (some ⟨Tryz.t382.desc,1,Za Tryz.t382,8⟩) .e) (some ⟨Tryz.t254.desc,6,Za Tryz.t254,48⟩) .e))))))))
noncomputable def Tryz.fnTab :T Func:=(.n (.n (.n (.n (.n (.n (.n (.n (.n .e (some Tryz.f255) .e) (some Tryz.f127) .e) (some Tryz.f63) (.n (.n .e (some Tryz.f319) .e) (some Tryz.f191) .e)) (some Tryz.f31) (.n (.n (.n .e (some Tryz.f287) .e) (some Tryz.f159) .e) (some Tryz.f95) (.n .e (some Tryz.f223) .e))) (some Tryz.f15) (.n (.n (.n (.n .e (some Tryz.f271) .e) (some Tryz.f143) .e) (some Tryz.f79) (.n (.n .e (some Tryz.f335) .e) (some Tryz.f207) .e)) (some Tryz.f47) (.n (.n (.n .e (some Tryz.f303) .e) (some Tryz.f175) .e) (some Tryz.f111) (.n .e (some Tryz.f239) .e)))) (some Tryz.f7) (.n (.n (.n (.n (.n .e (some Tryz.f263) .e) (some Tryz.f135) .e) (some Tryz.f71) (.n (.n .e (some Tryz.f327) .e) (some Tryz.f199) .e)) (some Tryz.f39) (.n (.n (.n .e (some Tryz.f295) .e) (some Tryz.f167) .e) (some Tryz.f103) (.n .e (some Tryz.f231) .e))) (some Tryz.f23) (.n (.n (.n (.n .e (some Tryz.f279) .e) (some Tryz.f151) .e) (some Tryz.f87) (.n .e (some Tryz.f215) .e)) (some Tryz.f55) (.n (.n (.n .e (some Tryz.f311) .e) (some Tryz.f183) .e) (some Tryz.f119) (.n .e (some Tryz.f247) .e))))) (some Tryz.f3) (.n (.n (.n (.n (.n (.n .e (some Tryz.f259) .e) (some Tryz.f131) .e) (some Tryz.f67) (.n (.n .e (some Tryz.f323) .e) (some Tryz.f195) .e)) (some Tryz.f35) (.n (.n (.n .e (some Tryz.f291) .e) (some Tryz.f163) .e) (some Tryz.f99) (.n .e (some Tryz.f227) .e))) (some Tryz.f19) (.n (.n (.n (.n .e (some Tryz.f275) .e) (some Tryz.f147) .e) (some Tryz.f83) (.n (.n .e (some Tryz.f339) .e) (some Tryz.f211) .e)) (some Tryz.f51) (.n (.n (.n .e (some Tryz.f307) .e) (some Tryz.f179) .e) (some Tryz.f115) (.n .e (some Tryz.f243) .e)))) (some Tryz.f11) (.n (.n (.n (.n (.n .e (some Tryz.f267) .e) (some Tryz.f139) .e) (some Tryz.f75) (.n (.n .e (some Tryz.f331) .e) (some Tryz.f203) .e)) (some Tryz.f43) (.n (.n (.n .e (some Tryz.f299) .e) (some Tryz.f171) .e) (some Tryz.f107) (.n .e (some Tryz.f235) .e))) (some Tryz.f27) (.n (.n (.n (.n .e (some Tryz.f283) .e) (some Tryz.f155) .e) (some Tryz.f91) (.n .e (some Tryz.f219) .e)) (some Tryz.f59) (.n (.n (.n .e (some Tryz.f315) .e) (some Tryz.f187) .e) (some Tryz.f123) (.n .e (some Tryz.f251) .e)))))) (some Tryz.f1) (.n (.n (.n (.n (.n (.n (.n .e (some Tryz.f257) .e) (some Tryz.f129) .e) (some Tryz.f65) (.n (.n .e (some Tryz.f321) .e) (some Tryz.f193) .e)) (some Tryz.f33) (.n (.n (.n .e (some Tryz.f289) .e) (some Tryz.f161) .e) (some Tryz.f97) (.n .e (some Tryz.f225) .e))) (some Tryz.f17) (.n (.n (.n (.n .e (some Tryz.f273) .e) (some Tryz.f145) .e) (some Tryz.f81) (.n (.n .e (some Tryz.f337) .e) (some Tryz.f209) .e)) (some Tryz.f49) (.n (.n (.n .e (some Tryz.f305) .e) (some Tryz.f177) .e) (some Tryz.f113) (.n .e (some Tryz.f241) .e)))) (some Tryz.f9) (.n (.n (.n (.n (.n .e (some Tryz.f265) .e) (some Tryz.f137) .e) (some Tryz.f73) (.n (.n .e (some Tryz.f329) .e) (some Tryz.f201) .e)) (some Tryz.f41) (.n (.n (.n .e (some Tryz.f297) .e) (some Tryz.f169) .e) (some Tryz.f105) (.n .e (some Tryz.f233) .e))) (some Tryz.f25) (.n (.n (.n (.n .e (some Tryz.f281) .e) (some Tryz.f153) .e) (some Tryz.f89) (.n .e (some Tryz.f217) .e)) (some Tryz.f57) (.n (.n (.n .e (some Tryz.f313) .e) (some Tryz.f185) .e) (some Tryz.f121) (.n .e (some Tryz.f249) .e))))) (some Tryz.f5) (.n (.n (.n (.n (.n (.n .e (some Tryz.f261) .e) (some Tryz.f133) .e) (some Tryz.f69) (.n (.n .e (some Tryz.f325) .e) (some Tryz.f197) .e)) (some Tryz.f37) (.n (.n (.n .e (some Tryz.f293) .e) (some Tryz.f165) .e) (some Tryz.f101) (.n .e (some Tryz.f229) .e))) (some Tryz.f21) (.n (.n (.n (.n .e (some Tryz.f277) .e) (some Tryz.f149) .e) (some Tryz.f85) (.n .e (some Tryz.f213) .e)) (some Tryz.f53) (.n (.n (.n .e (some Tryz.f309) .e) (some Tryz.f181) .e) (some Tryz.f117) (.n .e (some Tryz.f245) .e)))) (some Tryz.f13) (.n (.n (.n (.n (.n .e (some Tryz.f269) .e) (some Tryz.f141) .e) (some Tryz.f77) (.n (.n .e (some Tryz.f333) .e) (some Tryz.f205) .e)) (some Tryz.f45) (.n (.n (.n .e (some Tryz.f301) .e) (some Tryz.f173) .e) (some Tryz.f109) (.n .e (some Tryz.f237) .e))) (some Tryz.f29) (.n (.n (.n (.n .e (some Tryz.f285) .e) (some Tryz.f157) .e) (some Tryz.f93) (.n .e (some Tryz.f221) .e)) (some Tryz.f61) (.n (.n (.n .e (some Tryz.f317) .e) (some Tryz.f189) .e) (some Tryz.f125) (.n .e (some Tryz.f253) .e))))))) (some Tryz.f0) (.n (.n (.n (.n (.n (.n (.n (.n .e (some Tryz.f256) .e) (some Tryz.f128) .e) (some Tryz.f64) (.n (.n .e (some Tryz.f320) .e) (some Tryz.f192) .e)) (some Tryz.f32) (.n (.n (.n .e (some Tryz.f288) .e) (some Tryz.f160) .e) (some Tryz.f96) (.n .e (some Tryz.f224) .e))) (some Tryz.f16) (.n (.n (.n (.n .e (some Tryz.f272) .e) (some Tryz.f144) .e) (some Tryz.f80) (.n (.n .e (some Tryz.f336) .e) (some Tryz.f208) .e)) (some Tryz.f48) (.n (.n (.n .e (some Tryz.f304) .e) (some Tryz.f176) .e) (some Tryz.f112) (.n .e (some Tryz.f240) .e)))) (some Tryz.f8) (.n (.n (.n (.n (.n .e (some Tryz.f264) .e) (some Tryz.f136) .e) (some Tryz.f72) (.n (.n .e (some Tryz.f328) .e) (some Tryz.f200) .e)) (some Tryz.f40) (.n (.n (.n .e (some Tryz.f296) .e) (some Tryz.f168) .e) (some Tryz.f104) (.n .e (some Tryz.f232) .e))) (some Tryz.f24) (.n (.n (.n (.n .e (some Tryz.f280) .e) (some Tryz.f152) .e) (some Tryz.f88) (.n .e (some Tryz.f216) .e)) (some Tryz.f56) (.n (.n (.n .e (some Tryz.f312) .e) (some Tryz.f184) .e) (some Tryz.f120) (.n .e (some Tryz.f248) .e))))) (some Tryz.f4) (.n (.n (.n (.n (.n (.n .e (some Tryz.f260) .e) (some Tryz.f132) .e) (some Tryz.f68) (.n (.n .e (some Tryz.f324) .e) (some Tryz.f196) .e)) (some Tryz.f36) (.n (.n (.n .e (some Tryz.f292) .e) (some Tryz.f164) .e) (some Tryz.f100) (.n .e (some Tryz.f228) .e))) (some Tryz.f20) (.n (.n (.n (.n .e (some Tryz.f276) .e) (some Tryz.f148) .e) (some Tryz.f84) (.n .e (some Tryz.f212) .e)) (some Tryz.f52) (.n (.n (.n .e (some Tryz.f308) .e) (some Tryz.f180) .e) (some Tryz.f116) (.n .e (some Tryz.f244) .e)))) (some Tryz.f12) (.n (.n (.n (.n (.n .e (some Tryz.f268) .e) (some Tryz.f140) .e) (some Tryz.f76) (.n (.n .e (some Tryz.f332) .e) (some Tryz.f204) .e)) (some Tryz.f44) (.n (.n (.n .e (some Tryz.f300) .e) (some Tryz.f172) .e) (some Tryz.f108) (.n .e (some Tryz.f236) .e))) (some Tryz.f28) (.n (.n (.n (.n .e (some Tryz.f284) .e) (some Tryz.f156) .e) (some Tryz.f92) (.n .e (some Tryz.f220) .e)) (some Tryz.f60) (.n (.n (.n .e (some Tryz.f316) .e) (some Tryz.f188) .e) (some Tryz.f124) (.n .e (some Tryz.f252) .e)))))) (some Tryz.f2) (.n (.n (.n (.n (.n (.n (.n .e (some Tryz.f258) .e) (some Tryz.f130) .e) (some Tryz.f66) (.n (.n .e (some Tryz.f322) .e) (some Tryz.f194) .e)) (some Tryz.f34) (.n (.n (.n .e (some Tryz.f290) .e) (some Tryz.f162) .e) (some Tryz.f98) (.n .e (some Tryz.f226) .e))) (some Tryz.f18) (.n (.n (.n (.n .e (some Tryz.f274) .e) (some Tryz.f146) .e) (some Tryz.f82) (.n (.n .e (some Tryz.f338) .e) (some Tryz.f210) .e)) (some Tryz.f50) (.n (.n (.n .e (some Tryz.f306) .e) (some Tryz.f178) .e) (some Tryz.f114) (.n .e (some Tryz.f242) .e)))) (some Tryz.f10) (.n (.n (.n (.n (.n .e (some Tryz.f266) .e) (some Tryz.f138) .e) (some Tryz.f74) (.n (.n .e (some Tryz.f330) .e) (some Tryz.f202) .e)) (some Tryz.f42) (.n (.n (.n .e (some Tryz.f298) .e) (some Tryz.f170) .e) (some Tryz.f106) (.n .e (some Tryz.f234) .e))) (some Tryz.f26) (.n (.n (.n (.n .e (some Tryz.f282) .e) (some Tryz.f154) .e) (some Tryz.f90) (.n .e (some Tryz.f218) .e)) (some Tryz.f58) (.n (.n (.n .e (some Tryz.f314) .e) (some Tryz.f186) .e) (some Tryz.f122) (.n .e (some Tryz.f250) .e))))) (some Tryz.f6) (.n (.n (.n (.n (.n (.n .e (some Tryz.f262) .e) (some Tryz.f134) .e) (some Tryz.f70) (.n (.n .e (some Tryz.f326) .e) (some Tryz.f198) .e)) (some Tryz.f38) (.n (.n (.n .e (some Tryz.f294) .e) (some Tryz.f166) .e) (some Tryz.f102) (.n .e (some Tryz.f230) .e))) (some Tryz.f22) (.n (.n (.n (.n .e (some Tryz.f278) .e) (some Tryz.f150) .e) (some Tryz.f86) (.n .e (some Tryz.f214) .e)) (some Tryz.f54) (.n (.n (.n .e (some Tryz.f310) .e) (some Tryz.f182) .e) (some Tryz.f118) (.n .e (some Tryz.f246) .e)))) (some Tryz.f14) (.n (.n (.n (.n (.n .e (some Tryz.f270) .e) (some Tryz.f142) .e) (some Tryz.f78) (.n (.n .e (some Tryz.f334) .e) (some Tryz.f206) .e)) (some Tryz.f46) (.n (.n (.n .e (some Tryz.f302) .e) (some Tryz.f174) .e) (some Tryz.f110) (.n .e (some Tryz.f238) .e))) (some Tryz.f30) (.n (.n (.n (.n .e (some Tryz.f286) .e) (some Tryz.f158) .e) (some Tryz.f94) (.n .e (some Tryz.f222) .e)) (some Tryz.f62) (.n (.n (.n .e (some Tryz.f318) .e) (some Tryz.f190) .e) (some Tryz.f126) (.n .e (some Tryz.f254) .e))))))))
theorem Tryz.tyTab_eq :Tryz.tyTab=T.e.fillO 0 (tyL Tryz.prog):=by kernel_rfl
theorem Tryz.fnTab_eq :Tryz.fnTab=T.e.fillO 0 (fnL Tryz.tyTab Tryz.prog):=by kernel_rfl
end Go.Proofs
namespace Go.Proofs
open Go Go.RowKit Go.Ax
noncomputable def Zc3 :List Value→AS→Option (Value×AS)
 |[.slice (some a) n c,.int .u8 (.ofNat k)],s=>bif Nat.ble n 1000000 then(match rdN s a.block a.off n with
  |none=>none
  |some l=>match kt k l 0 0 with
   |none=>none
   |some r=>Yd r fun r=>some (.slice (some a) r c,s))else none
 |_,_=>none
theorem Zxw :POk Tryz.prog 294 Zc3:=by
 intro args s v s' h i w args' hR hg ha;unfold Zc3 at h;split at h
 ·rename_i a n c k;cases hn:Nat.ble n 1000000 with
  |false=>rw[hn]at h;cases h
  |true=>
   rw[hn,cond_true]at h;split at h
   ·cases h
   ·rename_i l hl;split at h
    ·cases h
    ·rename_i r hr;rw[natK_eq]at h;cases h;cases ha with
     |cons h1 h2=>
     cases h2 with
     |cons h2 h3=>
     cases h3;cases h2;cases h1 with
     | @slice b o q t _ _ p c' hi x1 x2 x3 x4 x5=>
      obtain⟨bs,e1,e2⟩:=Ze1 hr;obtain⟨e3,e4⟩:=hR.bytes hl hi e1;have hle:Xi k bs≤n:=by
       rw[←e3];unfold Xi;have:=(List.dropWhile_sublist (l:=bs.reverse) (fun x:UInt8=>x.toNat==k)).length_le;simpa using this
      have hr':r=Xi k bs:=by
       rw[e2];split
       ·rename_i h0;rw[h0]
       ·omega
      subst hr';rcases Nat.eq_zero_or_pos c' with hc0|hc0
      ·
       have hn0:n=0:=by omega
       subst hn0;have hb0:bs=[]:=List.eq_nil_of_length_eq_zero e3;subst hb0;have hc:=Zkv q p 0 c' k [] rfl (Nat.zero_le _) (by omega) w (fun k h=>by cases h);exact Xw.same (fn:=Tryz.f294) Tryz.func294 rfl rfl hR hc (.slice hi (by omega) x2 x3 x4 x5)
      ·obtain rfl:=x4.resolve_right (by omega);have hc:=Zkv q (t+o) n c' k bs e3 (by omega) (Nat.le_of_ble_eq_true hn) w (fun j hj=>e4 j hj);exact Xw.same (fn:=Tryz.f294) Tryz.func294 rfl rfl hR hc (.slice hi (by omega) x2 x3 x4 x5)
 ·cases h
theorem Zxx :POk Tryz.prog 96 Dy:=by
 intro args s v s' h i w args' hR hg ha;unfold Dy at h;split at h
 ·rename_i a n c;cases hn:Nat.ble n 1000000 with
  |false=>rw[hn]at h;cases h
  |true=>
   rw[hn,cond_true]at h;split at h
   ·cases h
   ·rename_i l hl;split at h
    ·cases h
    ·rename_i r hr;rw[natK_eq]at h;cases h;cases ha with
     |cons h1 h2=>
     cases h2;cases h1 with
     | @slice b o q t _ _ p c' hi x1 x2 x3 x4 x5=>
      obtain⟨bs,e1,e2⟩:=Zez hr;obtain⟨e3,e4⟩:=hR.bytes hl hi e1;have hres:VR i (.int .i64 (.ofNat (Nat.xor r 4294967295))) (.int .i64 ((V2 4294967295 bs^^^4294967295:Nat):Int)):=by
       rw[←e2];exact .int _ _
      rcases Nat.eq_zero_or_pos c' with hc0|hc0
      ·have hn0:n=0:=by omega
       subst hn0;have hb0:bs=[]:=List.eq_nil_of_length_eq_zero e3;subst hb0;have hc:=Zkt q p 0 c' [] rfl (by omega) w (fun k h=>by cases h);exact Xw.same (fn:=Tryz.f96) Tryz.func96 rfl rfl hR hc hres
      ·obtain rfl:=x4.resolve_right (by omega);have hc:=Zkt q (t+o) n c' bs e3 (Nat.le_of_ble_eq_true hn) w (fun j hj=>e4 j hj);exact Xw.same (fn:=Tryz.f96) Tryz.func96 rfl rfl hR hc hres
 ·cases h
theorem Zxy(l:Nat)(ad:Addr)(a:Option Addr)(c:Nat)(W:World)(h:W.cell? ad=some (.slice a 0 c)):
  Calls Tryz.prog 221 #[.func (.yield l) #[] #[],.pointer (some ad)] W fun e W'=>(∃v,e=.returned v)∧Below W.heap.size W W':=by
 go_enter Tryz.func221,Tryz.ntmps221
 go_wp2
 go_loop [3] (fun i=>i=.int .i64 (-1)) (fun _=>0)
 case atStart=>rfl
 case round=>
  subst hrel
  go_wp2
  go_end0
  exact⟨⟨_,rfl⟩,Below.refl _ _⟩
end Go.Proofs
namespace Go.Proofs
open Go Go.RowKit Go.Ax
noncomputable def Cx :T (List Value→AS→Option (Value×AS)):=((((T.e.set 96 Dy).set 294 Zc3).set 266 Bl).set 214 I1).set 273 Dz
noncomputable def SE :Env:= {P:=Tryz.prog,ty:=Tryz.tyTab,fn:=Tryz.fnTab,prim:=Cx,back:=fun g=>Nat.beq g 221}
theorem Zkw :Zn SE:=Iy Tryz.tyTab_eq
theorem Zxz :Do SE:=I0 Tryz.fnTab_eq
theorem Zc4 :Ig SE:=by
 intro f p hp;have hp':Cx.get f=some p:=hp;unfold Cx at hp';rw[T.get_set]at hp';split at hp'
 ·rename_i h;subst h;cases hp';exact Znw (fn:=Tryz.f273) Tryz.func273 (by kernel_rfl) rfl (by kernel_rfl) (by kernel_rfl)
 rw[T.get_set]at hp';split at hp'
 ·rename_i h;subst h;cases hp';exact Zny (E:=SE) Zkw (fn:=Tryz.f214) (t:=34) (r:=4) Tryz.func214 (by kernel_rfl) rfl (by kernel_rfl) (by kernel_rfl) (by kernel_rfl)
 rw[T.get_set]at hp';split at hp'
 ·rename_i h;subst h;cases hp';exact Znx (fn:=Tryz.f266) Tryz.func266 (by kernel_rfl) rfl (by kernel_rfl) (by kernel_rfl)
 rw[T.get_set]at hp';split at hp'
 ·rename_i h;subst h;cases hp';exact Zxw
 rw[T.get_set]at hp';split at hp'
 ·rename_i h;subst h;cases hp';exact Zxx
 ·cases hp'
theorem Zc5 :Bf SE:=by
 intro g hg;have:g=221:=Nat.eq_of_beq_eq_true hg;subst this;refine⟨fun args w=>?_,Zxy⟩;have hf:Tryz.prog.funcs[221]? =some Tryz.f221:=Tryz.func221
 have hn : Tryz.f221.name ≠ "runtime.NumGoroutine" := by
  have : (Tryz.f221.name == "runtime.NumGoroutine") = false := by kernel_rfl
  simpa using this
 have hb:Tryz.f221.body≠none:=by
  have:Tryz.f221.body.isNone=false:=by kernel_rfl
  intro h;rw[h]at this;cases this
 show(callFunc 221 args).run Tryz.prog w=_;unfold callFunc;simp[hf,hn,hb]
theorem Zc6(F D:Nat):Xn Tryz.prog (Zs SE F D):=Iw (E:=SE) (by kernel_rfl) Zkw Zc5 Zxz Zc4 F D
end Go.Proofs
