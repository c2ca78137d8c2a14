/- The checksum of bytes: what pack.Crc answers. -/
import Derived.Test.YtjadpdncjnokbaaGreatDoorChecked
import Derived.Lib.Hide
import Derived.Laws.BitsAllLaws
import Derived.Test.YtjadpdncjnokbaaGreatDoorProg
import Derived.KernelRfl
import Derived.Test.YtjadpdncjnokbaaGreatDoorAxG
set_option linter.all false
open Nat renaming xor_lt_two_pow→Xu,ble→Zb,zero_le→Zj,eq_zero_or_pos→Xi,le_of_ble_eq_true→Yr
open List renaming take_succ_eq_append_getElem→Xb,reverse_append→Zro,eq_nil_of_length_eq_zero→Vg
namespace Go.Proofs
open Go Go.RowKit
open Go.Ax (M0 Nr Ns)
theorem crc1_lt{x:Nat}(h:x<4294967296):M0 x<4294967296:=by
 unfold M0;split
 ·exact Xu (n:=32) (by omega) (by omega)
 ·omega
theorem crcN_lt{x:Nat}(h:x<4294967296):∀j,Nr j x<4294967296
 |0=>h
 |j+1=>crc1_lt (crcN_lt h j)
theorem Zlx{x:Nat}{l:List UInt8}{k:Nat}(h:k<l.length):Ns x (l.drop k)=Ns (Nr 8 (x^^^l[k].toNat)) (l.drop (k+1)):=by
 rw[List.drop_eq_getElem_cons h];rfl
theorem OU{z:Nat}(hz:z<4294967296)(b:Bool)(h:(bits .and .u32 (z:Int) 1==1)=b):decide (z%2=1)=b:=by
 have e:=u32_and_nat z 1 hz (by omega);rw[Nat.and_one_is_mod]at e;have e':bits .and .u32 (z:Int) 1=((z%2:Nat):Int):=e;rw[e']at h;rw[←h];rcases Nat.mod_two_eq_zero_or_one z with h|h<;>rw[h]<;>rfl
theorem Zly{z:Nat}(hz:z<4294967296)(hb:(bits .and .u32 (z:Int) 1==1)=true):Value.int .u32 (bits .xor .u32 ((z:Int)/2) 3988292384)=Value.int .u32 (M0 z:Nat):=by
 have h:=of_decide_eq_true (OU hz true hb);have:=u32_xor_nat (z/2) 3988292384 (by omega) (by omega);rw[M0,if_pos h,←this];rfl
theorem Zlz{z:Nat}(hz:z<4294967296)(hb:(bits .and .u32 (z:Int) 1==1)=false):Value.int .u32 ((z:Int)/2)=Value.int .u32 (M0 z:Nat):=by
 have h:=of_decide_eq_false (OU hz false hb);rw[M0,if_neg h];rfl
theorem Zl0{x:Nat}(hx:x<4294967296):wrap64 (bits .xor .u32 IntKind.u32.max (x:Int))=((x^^^4294967295:Nat):Int):=by
 have:=u32_xor_nat 4294967295 x (by omega) hx;have h2:x^^^4294967295<4294967296:=Xu (n:=32) (by omega) (by omega);have h3:bits .xor .u32 IntKind.u32.max (x:Int)=((x^^^4294967295:Nat):Int):=by
  rw[Nat.xor_comm x];exact this
 rw[h3];unfold wrap64;omega
set_option maxHeartbeats 1000000 in
theorem OJ(b o n c:Nat)(l:List UInt8)(hl:l.length=n)(hn:n≤1000000)(w:World)(hc:∀k (h:k<l.length),w.cell? ⟨b,o+k,none⟩=some (.int .u8 (l[k].toNat:Nat))):
  Calls Tryz.prog 96 #[.slice (some ⟨b,o,none⟩) n c] w fun e w'=>e=.returned (.int .i64 ((Ns 4294967295 l^^^4294967295:Nat):Int))∧w'=w:=by
 go_enter Tryz.func96,Tryz.ntmps96
 go_wp2
 go_loop [3,9] (fun s i=>∃(k x:Nat),k≤n∧i=.int .i64 k∧s=.int .u32 (x:Nat)∧x<4294967296∧Ns 4294967295 l=Ns x (l.drop k)) (fun _ i=>n-(intOf i).toNat)
 case atStart=>exact⟨0,4294967295,Zj _,rfl,rfl,by decide,rfl⟩
 case round=>
  obtain⟨k,x,hk,rfl,rfl,hx,hcr⟩:=hrel;have HC:=Lib.hid hcr;clear hcr;by_cases hlt:k<n
  ·have hck:=hc k (by omega);have hcd:=Zlx (x:=x) (l:=l) (k:=k) (by omega);have hcl:l[k].toNat<256:=l[k].toNat_lt;generalize l[k].toNat=cc at hck hcd hcl;have HD:=Lib.hid hcd;clear hcd;have HH:=Lib.hid hc;clear hc;have hm:((cc:Int)%4294967296)=cc:=by omega
   have hx1:=u32_xor_nat x cc hx (by omega);have hy:x^^^cc<4294967296:=Xu (n:=32) (by omega) (by omega);generalize hgy:x^^^cc=y at hx1 hy HD;clear hgy
   go_wp2
   go_loop [3,17] (fun s i=>∃(j:Nat),j≤8∧i=.int .i64 j∧s=.int .u32 (Nr j y:Nat)) (fun _ i=>8-(intOf i).toNat)
   case atStart=>exact⟨0,by omega,rfl,rfl⟩
   case round=>
    obtain⟨j,hj,rfl,rfl⟩:=hrel;have hz:=crcN_lt hy j;have hz1:Nr (j+1) y=M0 (Nr j y):=rfl;have HZ:=Lib.hid hz1;clear hz1;generalize hzz:Nr j y=z at hz HZ;have HE:=Lib.hid hzz;clear hzz;by_cases hlt8:j<8
    ·go_wp2
     all_goals
      go_round
      case rel=>exact⟨j+1,by omega,by go_num,by rw[HZ.out];first|exact Zly hz (by assumption)|exact Zlz hz (by assumption)⟩
      case measure=>simp[intOf];omega
    ·obtain rfl:j=8:=by omega
     go_wp2
     go_round
     case rel=>exact⟨k+1,z,by omega,by go_num,rfl,hz,by rw[HC.out,HD.out,HE.out]⟩
     case measure=>simp[intOf];omega
  ·obtain rfl:k=n:=by omega
   go_wp2
   go_ret
   refine⟨?_,rfl⟩;have e:=HC.out;rw[List.drop_of_length_le (by omega)]at e;rw[Zl0 hx,e];rfl
end Go.Proofs
namespace Go.Proofs
open Go Go.RowKit
open Go.Ax (Ms)
namespace AxTrim
theorem Zl1{c:Nat}{l:List UInt8}{m:Nat}(h:m<l.length)(e:l[m].toNat=c):Ms c (l.take (m+1))=Ms c (l.take m):=by
 unfold Ms;rw[Xb h,Zro];simp[e]
theorem Zl2{c:Nat}{l:List UInt8}{m:Nat}(h:m<l.length)(e:¬l[m].toNat=c):Ms c (l.take (m+1))=m+1:=by
 unfold Ms;rw[Xb h,Zro];simp[e];omega
def OK :Value→Nat
 |.slice _ m _=>m
 |_=>0
end AxTrim
open AxTrim
set_option maxHeartbeats 1000000 in
theorem OG(b o n cp:Nat)(c:Nat)(l:List UInt8)(hl:l.length=n)(hcp:n≤cp)(hn:n≤1000000)(w:World)(hc:∀k (h:k<l.length),w.cell? ⟨b,o+k,none⟩=some (.int .u8 (l[k].toNat:Nat))):
  Calls Tryz.prog 294 #[.slice (some ⟨b,o,none⟩) n cp,.int .u8 (c:Nat)] w fun e w'=>e=.returned (.slice (some ⟨b,o,none⟩) (Ms c l) cp)∧w'=w:=by
 go_enter Tryz.func294,Tryz.ntmps294
 go_wp2
 go_loop [0] (fun s=>∃(m:Nat),m≤n∧s=.slice (some ⟨b,o,none⟩) m cp∧Ms c l=Ms c (l.take m)) (fun s=>OK s)
 case atStart=>exact⟨n,Nat.le_refl _,rfl,by rw[List.take_of_length_le (by omega)]⟩
 case round=>
  obtain⟨m,hm,rfl,ht⟩:=hrel;have HT:=Lib.hid ht;clear ht;cases m with
  |zero=>
   go_wp2
   go_ret
   refine⟨?_,rfl⟩;rw[HT.out];rfl
  |succ m=>
   have hck:=hc m (by omega);have hh:=Zl1 (c:=c) (l:=l) (m:=m) (by omega);have hi:=Zl2 (c:=c) (l:=l) (m:=m) (by omega);generalize l[m].toNat=cc at hck hh hi;have HC:=Lib.hid hc;clear hc;have H1:=Lib.hid hh;have H2:=Lib.hid hi;clear hh hi;by_cases hq:cc=c
   ·subst hq
    go_wp2
    go_round
    case rel=>exact⟨m,by omega,rfl,by rw[HT.out,H1.out rfl]⟩
    case measure=>simp[OK]
   ·go_wp2
    go_ret
    refine⟨?_,rfl⟩;rw[HT.out,H2.out hq];rfl
end Go.Proofs
namespace Go.Proofs
open Go Go.Ax
set_option maxRecDepth 100000
open Tryz in
noncomputable def Tryz.tyTab :T TI:=(.n (.n (.n (.n (.n (.n (.n (.n (.n .e (some ⟨t254.desc,6,Gc t255,48⟩) .e) (some ⟨t127.desc,1,Gc t127,24⟩) (.n .e (some ⟨t383.desc,256,Gc t383,256⟩) .e)) (some ⟨t63.desc,1,Gc t63,8⟩) (.n (.n .e (some ⟨t319.desc,1,Gc t319,8⟩) .e) (some ⟨t190.desc,5,Gc t191,64⟩) .e)) none (.n (.n (.n .e (some ⟨t286.desc,2,Gc t287,32⟩) .e) none (.n .e (some ⟨t415.desc,11,Gc t415,48⟩) .e)) (some ⟨t95.desc,1,Gc t95,8⟩) (.n (.n .e (some ⟨t351.desc,1,Gc t351,8⟩) .e) none .e))) (some ⟨t15.desc,1,Gc t15,8⟩) (.n (.n (.n (.n .e (some ⟨t271.desc,1,Gc t271,8⟩) .e) (some ⟨t143.desc,1,Gc t143,8⟩) (.n .e (some ⟨t399.desc,1,Gc t399,8⟩) .e)) (some ⟨t79.desc,1,Gc t79,8⟩) (.n (.n .e (some ⟨t335.desc,1,Gc t335,24⟩) .e) (some ⟨t207.desc,1,Gc t207,8⟩) .e)) (some ⟨t47.desc,4,Gc t47,32⟩) (.n (.n (.n .e (some ⟨t303.desc,1,Gc t303,8⟩) .e) (some ⟨t175.desc,1,Gc t175,24⟩) .e) (some ⟨t111.desc,1,Gc t111,8⟩) (.n (.n .e (some ⟨t367.desc,1,Gc t367,8⟩) .e) (some ⟨t239.desc,1,Gc t239,8⟩) .e)))) (some ⟨t7.desc,4,Gc t7,24⟩) (.n (.n (.n (.n (.n .e (some ⟨t263.desc,1,Gc t263,8⟩) .e) (some ⟨t135.desc,1,Gc t135,8⟩) (.n .e (some ⟨t391.desc,1,Gc t391,8⟩) .e)) (some ⟨t71.desc,1,Gc t71,8⟩) (.n (.n .e (some ⟨t327.desc,2,Gc t327,24⟩) .e) (some ⟨t199.desc,1,Gc t199,8⟩) .e)) (some ⟨t39.desc,1,Gc t39,8⟩) (.n (.n (.n .e (some ⟨t295.desc,1,Gc t295,8⟩) .e) (some ⟨t167.desc,1,Gc t167,8⟩) .e) (some ⟨t103.desc,1,Gc t103,8⟩) (.n (.n .e (some ⟨t359.desc,1,Gc t359,8⟩) .e) none .e))) (some ⟨t23.desc,1,Gc t23,8⟩) (.n (.n (.n (.n .e (some ⟨t279.desc,64,Gc t279,64⟩) .e) (some ⟨t151.desc,1,Gc t151,8⟩) (.n .e (some ⟨t407.desc,0,Gc t407,0⟩) .e)) (some ⟨t87.desc,1,Gc t87,8⟩) (.n (.n .e (some ⟨t3.desc,1,Gc t343,8⟩) .e) (some ⟨t215.desc,1,Gc t215,8⟩) .e)) (some ⟨t55.desc,1,Gc t55,8⟩) (.n (.n (.n .e (some ⟨t310.desc,4,Gc t311,32⟩) .e) (some ⟨t183.desc,1,Gc t183,8⟩) .e) (some ⟨t119.desc,1,Gc t119,8⟩) (.n (.n .e (some ⟨t375.desc,1,Gc t375,8⟩) .e) (some ⟨t247.desc,1,Gc t247,8⟩) .e))))) (some ⟨t3.desc,1,Gc t3,8⟩) (.n (.n (.n (.n (.n (.n .e (some ⟨t259.desc,1,Gc t259,24⟩) .e) (some ⟨t130.desc,4,Gc t131,80⟩) (.n .e (some ⟨t387.desc,1,Gc t387,8⟩) .e)) (some ⟨t67.desc,1,Gc t67,8⟩) (.n (.n .e (some ⟨t323.desc,1,Gc t323,8⟩) .e) (some ⟨t195.desc,2,Gc t195,32⟩) .e)) (some ⟨t35.desc,1,Gc t35,24⟩) (.n (.n (.n .e none .e) (some ⟨t163.desc,1,Gc t163,8⟩) .e) (some ⟨t99.desc,1,Gc t99,24⟩) (.n (.n .e (some ⟨t355.desc,1,Gc t355,8⟩) .e) (some ⟨t227.desc,2,Gc t227,24⟩) .e))) (some ⟨t18.desc,1,Gc t19,8⟩) (.n (.n (.n (.n .e (some ⟨t275.desc,1,Gc t275,8⟩) .e) (some ⟨t147.desc,7,Gc t147,56⟩) (.n .e (some ⟨t402.desc,2,Gc t403,2⟩) .e)) (some ⟨t83.desc,1,Gc t83,8⟩) (.n (.n .e (some ⟨t339.desc,1,Gc t339,24⟩) .e) (some ⟨t211.desc,1,Gc t211,24⟩) .e)) (some ⟨t51.desc,1,Gc t51,24⟩) (.n (.n (.n .e (some ⟨t307.desc,1,Gc t307,8⟩) .e) (some ⟨t179.desc,1,Gc t179,24⟩) .e) (some ⟨t115.desc,1,Gc t115,8⟩) (.n (.n .e (some ⟨t371.desc,1,Gc t371,8⟩) .e) (some ⟨t243.desc,1,Gc t243,8⟩) .e)))) (some ⟨t9.desc,1,Gc t11,16⟩) (.n (.n (.n (.n (.n .e (some ⟨t267.desc,1,Gc t267,8⟩) .e) (some ⟨t139.desc,1,Gc t139,8⟩) (.n .e (some ⟨t395.desc,1,Gc t395,8⟩) .e)) (some ⟨t74.desc,3,Gc t75,40⟩) (.n (.n .e (some ⟨t330.desc,3,Gc t331,24⟩) .e) (some ⟨t203.desc,1,Gc t203,8⟩) .e)) (some ⟨t43.desc,1,Gc t43,8⟩) (.n (.n (.n .e (some ⟨t299.desc,1,Gc t299,8⟩) .e) (some ⟨t171.desc,1,Gc t171,8⟩) .e) none (.n (.n .e (some ⟨t363.desc,1,Gc t363,8⟩) .e) (some ⟨t235.desc,1,Gc t235,8⟩) .e))) (some ⟨t27.desc,1,Gc t27,8⟩) (.n (.n (.n (.n .e (some ⟨t283.desc,1,Gc t283,8⟩) .e) (some ⟨t155.desc,1,Gc t155,8⟩) (.n .e (some ⟨t5.desc,1,Gc t411,1⟩) .e)) (some ⟨t91.desc,6,Gc t91,56⟩) (.n (.n .e (some ⟨t347.desc,1,Gc t347,8⟩) .e) (some ⟨t219.desc,1,Gc t219,8⟩) .e)) (some ⟨t59.desc,6,Gc t59,48⟩) (.n (.n (.n .e (some ⟨t315.desc,1,Gc t315,8⟩) .e) (some ⟨t187.desc,1,Gc t187,8⟩) .e) (some ⟨t123.desc,1,Gc t123,8⟩) (.n (.n .e (some ⟨t379.desc,1,Gc t379,8⟩) .e) (some ⟨t251.desc,1,Gc t251,8⟩) .e)))))) (some ⟨t1.desc,1,Gc t1,8⟩) (.n (.n (.n (.n (.n (.n (.n .e (some ⟨t184.desc,2,Gc t257,24⟩) .e) (some ⟨t129.desc,1,Gc t129,8⟩) (.n .e none .e)) (some ⟨t65.desc,1,Gc t65,8⟩) (.n (.n .e (some ⟨t321.desc,1,Gc t321,8⟩) .e) (some ⟨t192.desc,2,Gc t193,32⟩) .e)) (some ⟨t33.desc,1,Gc t33,8⟩) (.n (.n (.n .e (some ⟨t288.desc,1,Gc t289,16⟩) .e) (some ⟨t161.desc,2,Gc t161,16⟩) .e) (some ⟨t97.desc,1,Gc t97,8⟩) (.n (.n .e (some ⟨t353.desc,1,Gc t353,8⟩) .e) (some ⟨t225.desc,1,Gc t225,8⟩) .e))) (some ⟨t17.desc,1,Gc t17,8⟩) (.n (.n (.n (.n .e (some ⟨t273.desc,1,Gc t273,8⟩) .e) (some ⟨t145.desc,9,Gc t145,72⟩) (.n .e (some ⟨t401.desc,256,Gc t401,256⟩) .e)) (some ⟨t81.desc,1,Gc t81,8⟩) (.n (.n .e (some ⟨t337.desc,1,Gc t337,24⟩) .e) (some ⟨t209.desc,1,Gc t209,8⟩) .e)) none (.n (.n (.n .e (some ⟨t305.desc,1,Gc t305,8⟩) .e) (some ⟨t176.desc,4,Gc t177,48⟩) .e) none (.n (.n .e (some ⟨t369.desc,1,Gc t369,8⟩) .e) (some ⟨t241.desc,1,Gc t241,8⟩) .e)))) (some ⟨t9.desc,1,Gc t9,16⟩) (.n (.n (.n (.n (.n .e (some ⟨t265.desc,1,Gc t265,8⟩) .e) (some ⟨t137.desc,1,Gc t137,8⟩) (.n .e none .e)) (some ⟨t73.desc,1,Gc t73,24⟩) (.n (.n .e (some ⟨t329.desc,1,Gc t329,8⟩) .e) (some ⟨t200.desc,3,Gc t201,24⟩) .e)) (some ⟨t41.desc,2,Gc t41,32⟩) (.n (.n (.n .e (some ⟨t297.desc,1,Gc t297,8⟩) .e) (some ⟨t169.desc,1,Gc t169,24⟩) .e) (some ⟨t105.desc,1,Gc t105,8⟩) (.n (.n .e (some ⟨t361.desc,1,Gc t361,8⟩) .e) (some ⟨t233.desc,1,Gc t233,8⟩) .e))) (some ⟨t25.desc,1,Gc t25,8⟩) (.n (.n (.n (.n .e (some ⟨t281.desc,1,Gc t281,8⟩) .e) (some ⟨t152.desc,5,Gc t153,40⟩) (.n .e (some ⟨t408.desc,0,Gc t409,0⟩) .e)) (some ⟨t89.desc,4,Gc t89,32⟩) (.n (.n .e (some ⟨t345.desc,1,Gc t345,8⟩) .e) (some ⟨t217.desc,1,Gc t217,8⟩) .e)) none (.n (.n (.n .e (some ⟨t313.desc,1,Gc t313,8⟩) .e) (some ⟨t184.desc,2,Gc t185,24⟩) .e) (some ⟨t121.desc,4,Gc t121,48⟩) (.n (.n .e (some ⟨t377.desc,1,Gc t377,8⟩) .e) (some ⟨t249.desc,1,Gc t249,8⟩) .e))))) (some ⟨t5.desc,1,Gc t5,1⟩) (.n (.n (.n (.n (.n (.n .e (some ⟨t261.desc,8,Gc t261,72⟩) .e) none (.n .e none .e)) (some ⟨t69.desc,1,Gc t69,8⟩) (.n (.n .e (some ⟨t325.desc,1,Gc t325,8⟩) .e) (some ⟨t197.desc,1,Gc t197,8⟩) .e)) (some ⟨t37.desc,1,Gc t37,8⟩) (.n (.n (.n .e (some ⟨t293.desc,1,Gc t293,8⟩) .e) (some ⟨t164.desc,4,Gc t165,32⟩) .e) (some ⟨t100.desc,7,Gc t101,72⟩) (.n (.n .e (some ⟨t357.desc,1,Gc t357,8⟩) .e) (some ⟨t229.desc,1,Gc t229,8⟩) .e))) (some ⟨t21.desc,1,Gc t21,4⟩) (.n (.n (.n (.n .e (some ⟨t276.desc,7,Gc t277,56⟩) .e) none (.n .e (some ⟨t405.desc,4,Gc t405,40⟩) .e)) (some ⟨t85.desc,1,Gc t85,24⟩) (.n (.n .e (some ⟨t341.desc,1,Gc t341,8⟩) .e) (some ⟨t213.desc,4,Gc t213,64⟩) .e)) (some ⟨t53.desc,1,Gc t53,8⟩) (.n (.n (.n .e (some ⟨t309.desc,1,Gc t309,8⟩) .e) (some ⟨t181.desc,1,Gc t181,8⟩) .e) (some ⟨t116.desc,5,Gc t117,40⟩) (.n (.n .e (some ⟨t373.desc,1,Gc t373,8⟩) .e) (some ⟨t245.desc,1,Gc t245,8⟩) .e)))) (some ⟨t13.desc,2,Gc t13,24⟩) (.n (.n (.n (.n (.n .e none .e) (some ⟨t141.desc,1,Gc t141,8⟩) (.n .e (some ⟨t397.desc,1,Gc t397,8⟩) .e)) (some ⟨t77.desc,1,Gc t77,24⟩) (.n (.n .e (some ⟨t333.desc,1,Gc t333,8⟩) .e) none .e)) (some ⟨t45.desc,1,Gc t45,24⟩) (.n (.n (.n .e (some ⟨t301.desc,1,Gc t301,8⟩) .e) (some ⟨t173.desc,2,Gc t173,16⟩) .e) (some ⟨t109.desc,1,Gc t109,8⟩) (.n (.n .e (some ⟨t365.desc,1,Gc t365,8⟩) .e) (some ⟨t237.desc,1,Gc t237,8⟩) .e))) (some ⟨t29.desc,1,Gc t29,8⟩) (.n (.n (.n (.n .e (some ⟨t285.desc,1,Gc t285,8⟩) .e) none (.n .e (some ⟨t21.desc,1,Gc t413,4⟩) .e)) none (.n (.n .e (some ⟨t349.desc,1,Gc t349,8⟩) .e) (some ⟨t221.desc,1,Gc t221,8⟩) .e)) none (.n (.n (.n .e (some ⟨t316.desc,3,Gc t317,32⟩) .e) (some ⟨t189.desc,1,Gc t189,24⟩) .e) (some ⟨t125.desc,1,Gc t125,8⟩) (.n (.n .e (some ⟨t381.desc,1,Gc t381,8⟩) .e) (some ⟨t253.desc,1,Gc t253,8⟩) .e))))))) none (.n (.n (.n (.n (.n (.n (.n (.n .e (some ⟨t256.desc,1,Gc t256,8⟩) .e) none (.n .e (some ⟨t383.desc,256,Gc t384,256⟩) .e)) (some ⟨t64.desc,1,Gc t64,8⟩) (.n (.n .e (some ⟨t320.desc,1,Gc t320,8⟩) .e) (some ⟨t192.desc,2,Gc t192,32⟩) .e)) (some ⟨t32.desc,1,Gc t32,8⟩) (.n (.n (.n .e (some ⟨t288.desc,1,Gc t288,16⟩) .e) (some ⟨t160.desc,1,Gc t160,8⟩) (.n .e (some ⟨t415.desc,11,Gc t416,48⟩) .e)) none (.n (.n .e none .e) (some ⟨t224.desc,1,Gc t224,8⟩) .e))) (some ⟨t16.desc,1,Gc t16,8⟩) (.n (.n (.n (.n .e (some ⟨t272.desc,1,Gc t272,8⟩) .e) (some ⟨t144.desc,1,Gc t144,8⟩) (.n .e (some ⟨t400.desc,1,Gc t400,8⟩) .e)) none (.n (.n .e (some ⟨t336.desc,1,Gc t336,8⟩) .e) none .e)) (some ⟨t47.desc,4,Gc t48,32⟩) (.n (.n (.n .e (some ⟨t304.desc,1,Gc t304,8⟩) .e) (some ⟨t176.desc,4,Gc t176,48⟩) .e) (some ⟨t112.desc,1,Gc t112,8⟩) (.n (.n .e (some ⟨t368.desc,1,Gc t368,8⟩) .e) none .e)))) (some ⟨t7.desc,4,Gc t8,24⟩) (.n (.n (.n (.n (.n .e (some ⟨t264.desc,1,Gc t264,8⟩) .e) (some ⟨t136.desc,1,Gc t136,8⟩) (.n .e (some ⟨t392.desc,1,Gc t392,8⟩) .e)) (some ⟨t72.desc,1,Gc t72,8⟩) (.n (.n .e (some ⟨t327.desc,2,Gc t328,24⟩) .e) (some ⟨t200.desc,3,Gc t200,24⟩) .e)) (some ⟨t40.desc,1,Gc t40,8⟩) (.n (.n (.n .e (some ⟨t296.desc,1,Gc t296,8⟩) .e) (some ⟨t168.desc,1,Gc t168,8⟩) .e) (some ⟨t104.desc,1,Gc t104,8⟩) (.n (.n .e (some ⟨t360.desc,1,Gc t360,8⟩) .e) (some ⟨t232.desc,1,Gc t232,8⟩) .e))) (some ⟨t24.desc,1,Gc t24,8⟩) (.n (.n (.n (.n .e (some ⟨t280.desc,1,Gc t280,8⟩) .e) (some ⟨t152.desc,5,Gc t152,40⟩) (.n .e (some ⟨t408.desc,0,Gc t408,0⟩) .e)) (some ⟨t88.desc,1,Gc t88,8⟩) (.n (.n .e none .e) (some ⟨t216.desc,1,Gc t216,8⟩) .e)) (some ⟨t56.desc,1,Gc t56,8⟩) (.n (.n (.n .e (some ⟨t312.desc,1,Gc t312,8⟩) .e) (some ⟨t184.desc,2,Gc t184,24⟩) .e) (some ⟨t120.desc,1,Gc t120,8⟩) (.n (.n .e (some ⟨t376.desc,1,Gc t376,8⟩) .e) (some ⟨t247.desc,1,Gc t248,8⟩) .e))))) (some ⟨t4.desc,1,Gc t4,1⟩) (.n (.n (.n (.n (.n (.n .e (some ⟨t260.desc,1,Gc t260,8⟩) .e) (some ⟨t132.desc,1,Gc t132,8⟩) (.n .e (some ⟨t388.desc,1,Gc t388,8⟩) .e)) (some ⟨t68.desc,1,Gc t68,8⟩) (.n (.n .e none .e) (some ⟨t195.desc,2,Gc t196,32⟩) .e)) (some ⟨t35.desc,1,Gc t36,24⟩) (.n (.n (.n .e (some ⟨t292.desc,1,Gc t292,8⟩) .e) (some ⟨t164.desc,4,Gc t164,32⟩) .e) (some ⟨t100.desc,7,Gc t100,72⟩) (.n (.n .e (some ⟨t356.desc,1,Gc t356,8⟩) .e) (some ⟨t227.desc,2,Gc t228,24⟩) .e))) (some ⟨t20.desc,1,Gc t20,16⟩) (.n (.n (.n (.n .e (some ⟨t276.desc,7,Gc t276,56⟩) .e) (some ⟨t147.desc,7,Gc t148,56⟩) (.n .e (some ⟨t404.desc,32,Gc t404,32⟩) .e)) (some ⟨t84.desc,1,Gc t84,8⟩) (.n (.n .e (some ⟨t340.desc,1,Gc t340,8⟩) .e) (some ⟨t211.desc,1,Gc t212,24⟩) .e)) (some ⟨t52.desc,1,Gc t52,8⟩) (.n (.n (.n .e (some ⟨t308.desc,1,Gc t308,8⟩) .e) (some ⟨t180.desc,1,Gc t180,8⟩) .e) (some ⟨t116.desc,5,Gc t116,40⟩) (.n (.n .e (some ⟨t372.desc,1,Gc t372,8⟩) .e) (some ⟨t244.desc,1,Gc t244,8⟩) .e)))) (some ⟨t12.desc,1,Gc t12,8⟩) (.n (.n (.n (.n (.n .e (some ⟨t268.desc,1,Gc t268,8⟩) .e) none (.n .e none .e)) (some ⟨t76.desc,1,Gc t76,8⟩) (.n (.n .e (some ⟨t332.desc,1,Gc t332,8⟩) .e) (some ⟨t204.desc,1,Gc t204,24⟩) .e)) (some ⟨t44.desc,1,Gc t44,8⟩) (.n (.n (.n .e (some ⟨t300.desc,1,Gc t300,8⟩) .e) (some ⟨t172.desc,1,Gc t172,8⟩) .e) (some ⟨t108.desc,1,Gc t108,8⟩) (.n (.n .e (some ⟨t364.desc,1,Gc t364,8⟩) .e) (some ⟨t236.desc,1,Gc t236,8⟩) .e))) (some ⟨t28.desc,1,Gc t28,8⟩) (.n (.n (.n (.n .e (some ⟨t284.desc,1,Gc t284,8⟩) .e) (some ⟨t156.desc,1,Gc t156,24⟩) (.n .e (some ⟨t412.desc,1,Gc t412,8⟩) .e)) (some ⟨t91.desc,6,Gc t92,56⟩) (.n (.n .e (some ⟨t348.desc,1,Gc t348,8⟩) .e) (some ⟨t220.desc,1,Gc t220,8⟩) .e)) (some ⟨t59.desc,6,Gc t60,48⟩) (.n (.n (.n .e (some ⟨t316.desc,3,Gc t316,32⟩) .e) (some ⟨t188.desc,1,Gc t188,24⟩) .e) none (.n (.n .e none .e) (some ⟨t252.desc,1,Gc t252,8⟩) .e)))))) (some ⟨t2.desc,1,Gc t2,8⟩) (.n (.n (.n (.n (.n (.n (.n .e (some ⟨t258.desc,1,Gc t258,8⟩) .e) (some ⟨t130.desc,4,Gc t130,80⟩) (.n .e (some ⟨t386.desc,1,Gc t386,8⟩) .e)) none (.n (.n .e none .e) (some ⟨t194.desc,1,Gc t194,8⟩) .e)) (some ⟨t34.desc,1,Gc t34,24⟩) (.n (.n (.n .e (some ⟨t290.desc,1,Gc t290,8⟩) .e) (some ⟨t161.desc,2,Gc t162,16⟩) .e) (some ⟨t98.desc,1,Gc t98,8⟩) (.n (.n .e none .e) (some ⟨t226.desc,1,Gc t226,8⟩) .e))) (some ⟨t18.desc,1,Gc t18,8⟩) (.n (.n (.n (.n .e (some ⟨t274.desc,1,Gc t274,8⟩) .e) (some ⟨t145.desc,9,Gc t146,72⟩) (.n .e (some ⟨t402.desc,2,Gc t402,2⟩) .e)) (some ⟨t82.desc,1,Gc t82,8⟩) (.n (.n .e (some ⟨t338.desc,1,Gc t338,8⟩) .e) (some ⟨t210.desc,1,Gc t210,8⟩) .e)) (some ⟨t50.desc,1,Gc t50,8⟩) (.n (.n (.n .e (some ⟨t306.desc,1,Gc t306,8⟩) .e) (some ⟨t178.desc,1,Gc t178,8⟩) .e) (some ⟨t114.desc,1,Gc t114,8⟩) (.n (.n .e (some ⟨t370.desc,1,Gc t370,8⟩) .e) (some ⟨t242.desc,1,Gc t242,8⟩) .e)))) (some ⟨t9.desc,1,Gc t10,16⟩) (.n (.n (.n (.n (.n .e none .e) (some ⟨t138.desc,1,Gc t138,8⟩) (.n .e (some ⟨t394.desc,1,Gc t394,8⟩) .e)) (some ⟨t74.desc,3,Gc t74,40⟩) (.n (.n .e (some ⟨t330.desc,3,Gc t330,24⟩) .e) none .e)) (some ⟨t41.desc,2,Gc t42,32⟩) (.n (.n (.n .e (some ⟨t298.desc,1,Gc t298,8⟩) .e) none .e) (some ⟨t106.desc,1,Gc t106,8⟩) (.n (.n .e (some ⟨t362.desc,1,Gc t362,8⟩) .e) (some ⟨t234.desc,1,Gc t234,8⟩) .e))) none (.n (.n (.n (.n .e none .e) (some ⟨t154.desc,1,Gc t154,8⟩) (.n .e (some ⟨t5.desc,1,Gc t410,1⟩) .e)) (some ⟨t89.desc,4,Gc t90,32⟩) (.n (.n .e (some ⟨t346.desc,1,Gc t346,8⟩) .e) (some ⟨t218.desc,1,Gc t218,8⟩) .e)) (some ⟨t58.desc,1,Gc t58,8⟩) (.n (.n (.n .e (some ⟨t314.desc,1,Gc t314,24⟩) .e) (some ⟨t186.desc,1,Gc t186,8⟩) .e) (some ⟨t121.desc,4,Gc t122,48⟩) (.n (.n .e (some ⟨t378.desc,1,Gc t378,8⟩) .e) (some ⟨t250.desc,1,Gc t250,8⟩) .e))))) (some ⟨t5.desc,1,Gc t6,1⟩) (.n (.n (.n (.n (.n (.n .e (some ⟨t261.desc,8,Gc t262,72⟩) .e) (some ⟨t134.desc,1,Gc t134,8⟩) (.n .e (some ⟨t390.desc,1,Gc t390,8⟩) .e)) (some ⟨t70.desc,1,Gc t70,8⟩) (.n (.n .e (some ⟨t326.desc,1,Gc t326,8⟩) .e) (some ⟨t198.desc,1,Gc t198,8⟩) .e)) (some ⟨t38.desc,1,Gc t38,8⟩) (.n (.n (.n .e (some ⟨t294.desc,1,Gc t294,8⟩) .e) none .e) (some ⟨t102.desc,1,Gc t102,8⟩) (.n (.n .e (some ⟨t358.desc,1,Gc t358,8⟩) .e) (some ⟨t230.desc,1,Gc t230,8⟩) .e))) (some ⟨t22.desc,1,Gc t22,24⟩) (.n (.n (.n (.n .e (some ⟨t278.desc,1,Gc t278,8⟩) .e) (some ⟨t150.desc,1,Gc t150,8⟩) (.n .e (some ⟨t405.desc,4,Gc t406,40⟩) .e)) (some ⟨t86.desc,1,Gc t86,8⟩) (.n (.n .e (some ⟨t342.desc,1,Gc t342,8⟩) .e) (some ⟨t213.desc,4,Gc t214,64⟩) .e)) (some ⟨t54.desc,1,Gc t54,8⟩) (.n (.n (.n .e (some ⟨t310.desc,4,Gc t310,32⟩) .e) (some ⟨t181.desc,1,Gc t182,8⟩) .e) (some ⟨t118.desc,1,Gc t118,8⟩) (.n (.n .e (some ⟨t374.desc,1,Gc t374,8⟩) .e) (some ⟨t246.desc,1,Gc t246,4⟩) .e)))) (some ⟨t13.desc,2,Gc t14,24⟩) (.n (.n (.n (.n (.n .e (some ⟨t270.desc,1,Gc t270,8⟩) .e) (some ⟨t142.desc,1,Gc t142,8⟩) (.n .e none .e)) none (.n (.n .e (some ⟨t334.desc,1,Gc t334,8⟩) .e) (some ⟨t206.desc,1,Gc t206,8⟩) .e)) (some ⟨t46.desc,1,Gc t46,8⟩) (.n (.n (.n .e (some ⟨t302.desc,1,Gc t302,8⟩) .e) (some ⟨t173.desc,2,Gc t174,16⟩) .e) none (.n (.n .e (some ⟨t28.desc,1,Gc t366,8⟩) .e) (some ⟨t238.desc,1,Gc t238,8⟩) .e))) (some ⟨t3.desc,1,Gc t30,8⟩) (.n (.n (.n (.n .e (some ⟨t286.desc,2,Gc t286,32⟩) .e) (some ⟨t158.desc,1,Gc t158,8⟩) (.n .e (some ⟨t21.desc,1,Gc t414,4⟩) .e)) (some ⟨t94.desc,1,Gc t94,8⟩) (.n (.n .e (some ⟨t350.desc,1,Gc t350,8⟩) .e) (some ⟨t222.desc,1,Gc t222,24⟩) .e)) (some ⟨t62.desc,1,Gc t62,8⟩) (.n (.n (.n .e (some ⟨t318.desc,1,Gc t318,8⟩) .e) (some ⟨t190.desc,5,Gc t190,64⟩) .e) (some ⟨t126.desc,1,Gc t126,8⟩) (.n (.n .e (some ⟨t382.desc,1,Gc t382,8⟩) .e) (some ⟨t254.desc,6,Gc t254,48⟩) .e))))))))
open Tryz in
noncomputable def Tryz.fnTab :T Func:=(.n (.n (.n (.n (.n (.n (.n (.n (.n .e (some f255) .e) (some f127) .e) (some f63) (.n (.n .e (some f319) .e) (some f191) .e)) (some f31) (.n (.n (.n .e (some f287) .e) (some f159) .e) (some f95) (.n .e (some f223) .e))) (some f15) (.n (.n (.n (.n .e (some f271) .e) (some f143) .e) (some f79) (.n (.n .e (some f335) .e) (some f207) .e)) (some f47) (.n (.n (.n .e (some f303) .e) (some f175) .e) (some f111) (.n .e (some f239) .e)))) (some f7) (.n (.n (.n (.n (.n .e (some f263) .e) (some f135) .e) (some f71) (.n (.n .e (some f327) .e) (some f199) .e)) (some f39) (.n (.n (.n .e (some f295) .e) (some f167) .e) (some f103) (.n .e (some f231) .e))) (some f23) (.n (.n (.n (.n .e (some f279) .e) (some f151) .e) (some f87) (.n .e (some f215) .e)) (some f55) (.n (.n (.n .e (some f311) .e) (some f183) .e) (some f119) (.n .e (some f247) .e))))) (some f3) (.n (.n (.n (.n (.n (.n .e (some f259) .e) (some f131) .e) (some f67) (.n (.n .e (some f323) .e) (some f195) .e)) (some f35) (.n (.n (.n .e (some f291) .e) (some f163) .e) (some f99) (.n .e (some f227) .e))) (some f19) (.n (.n (.n (.n .e (some f275) .e) (some f147) .e) (some f83) (.n (.n .e (some f339) .e) (some f211) .e)) (some f51) (.n (.n (.n .e (some f307) .e) (some f179) .e) (some f115) (.n .e (some f243) .e)))) (some f11) (.n (.n (.n (.n (.n .e (some f267) .e) (some f139) .e) (some f75) (.n (.n .e (some f331) .e) (some f203) .e)) (some f43) (.n (.n (.n .e (some f299) .e) (some f171) .e) (some f107) (.n .e (some f235) .e))) (some f27) (.n (.n (.n (.n .e (some f283) .e) (some f155) .e) (some f91) (.n .e (some f219) .e)) (some f59) (.n (.n (.n .e (some f315) .e) (some f187) .e) (some f123) (.n .e (some f251) .e)))))) (some f1) (.n (.n (.n (.n (.n (.n (.n .e (some f257) .e) (some f129) .e) (some f65) (.n (.n .e (some f321) .e) (some f193) .e)) (some f33) (.n (.n (.n .e (some f289) .e) (some f161) .e) (some f97) (.n .e (some f225) .e))) (some f17) (.n (.n (.n (.n .e (some f273) .e) (some f145) .e) (some f81) (.n (.n .e (some f337) .e) (some f209) .e)) (some f49) (.n (.n (.n .e (some f305) .e) (some f177) .e) (some f113) (.n .e (some f241) .e)))) (some f9) (.n (.n (.n (.n (.n .e (some f265) .e) (some f137) .e) (some f73) (.n (.n .e (some f329) .e) (some f201) .e)) (some f41) (.n (.n (.n .e (some f297) .e) (some f169) .e) (some f105) (.n .e (some f233) .e))) (some f25) (.n (.n (.n (.n .e (some f281) .e) (some f153) .e) (some f89) (.n .e (some f217) .e)) (some f57) (.n (.n (.n .e (some f313) .e) (some f185) .e) (some f121) (.n .e (some f249) .e))))) (some f5) (.n (.n (.n (.n (.n (.n .e (some f261) .e) (some f133) .e) (some f69) (.n (.n .e (some f325) .e) (some f197) .e)) (some f37) (.n (.n (.n .e (some f293) .e) (some f165) .e) (some f101) (.n .e (some f229) .e))) (some f21) (.n (.n (.n (.n .e (some f277) .e) (some f149) .e) (some f85) (.n .e (some f213) .e)) (some f53) (.n (.n (.n .e (some f309) .e) (some f181) .e) (some f117) (.n .e (some f245) .e)))) (some f13) (.n (.n (.n (.n (.n .e (some f269) .e) (some f141) .e) (some f77) (.n (.n .e (some f333) .e) (some f205) .e)) (some f45) (.n (.n (.n .e (some f301) .e) (some f173) .e) (some f109) (.n .e (some f237) .e))) (some f29) (.n (.n (.n (.n .e (some f285) .e) (some f157) .e) (some f93) (.n .e (some f221) .e)) (some f61) (.n (.n (.n .e (some f317) .e) (some f189) .e) (some f125) (.n .e (some f253) .e))))))) (some f0) (.n (.n (.n (.n (.n (.n (.n (.n .e (some f256) .e) (some f128) .e) (some f64) (.n (.n .e (some f320) .e) (some f192) .e)) (some f32) (.n (.n (.n .e (some f288) .e) (some f160) .e) (some f96) (.n .e (some f224) .e))) (some f16) (.n (.n (.n (.n .e (some f272) .e) (some f144) .e) (some f80) (.n (.n .e (some f336) .e) (some f208) .e)) (some f48) (.n (.n (.n .e (some f304) .e) (some f176) .e) (some f112) (.n .e (some f240) .e)))) (some f8) (.n (.n (.n (.n (.n .e (some f264) .e) (some f136) .e) (some f72) (.n (.n .e (some f328) .e) (some f200) .e)) (some f40) (.n (.n (.n .e (some f296) .e) (some f168) .e) (some f104) (.n .e (some f232) .e))) (some f24) (.n (.n (.n (.n .e (some f280) .e) (some f152) .e) (some f88) (.n .e (some f216) .e)) (some f56) (.n (.n (.n .e (some f312) .e) (some f184) .e) (some f120) (.n .e (some f248) .e))))) (some f4) (.n (.n (.n (.n (.n (.n .e (some f260) .e) (some f132) .e) (some f68) (.n (.n .e (some f324) .e) (some f196) .e)) (some f36) (.n (.n (.n .e (some f292) .e) (some f164) .e) (some f100) (.n .e (some f228) .e))) (some f20) (.n (.n (.n (.n .e (some f276) .e) (some f148) .e) (some f84) (.n .e (some f212) .e)) (some f52) (.n (.n (.n .e (some f308) .e) (some f180) .e) (some f116) (.n .e (some f244) .e)))) (some f12) (.n (.n (.n (.n (.n .e (some f268) .e) (some f140) .e) (some f76) (.n (.n .e (some f332) .e) (some f204) .e)) (some f44) (.n (.n (.n .e (some f300) .e) (some f172) .e) (some f108) (.n .e (some f236) .e))) (some f28) (.n (.n (.n (.n .e (some f284) .e) (some f156) .e) (some f92) (.n .e (some f220) .e)) (some f60) (.n (.n (.n .e (some f316) .e) (some f188) .e) (some f124) (.n .e (some f252) .e)))))) (some f2) (.n (.n (.n (.n (.n (.n (.n .e (some f258) .e) (some f130) .e) (some f66) (.n (.n .e (some f322) .e) (some f194) .e)) (some f34) (.n (.n (.n .e (some f290) .e) (some f162) .e) (some f98) (.n .e (some f226) .e))) (some f18) (.n (.n (.n (.n .e (some f274) .e) (some f146) .e) (some f82) (.n (.n .e (some f338) .e) (some f210) .e)) (some f50) (.n (.n (.n .e (some f306) .e) (some f178) .e) (some f114) (.n .e (some f242) .e)))) (some f10) (.n (.n (.n (.n (.n .e (some f266) .e) (some f138) .e) (some f74) (.n (.n .e (some f330) .e) (some f202) .e)) (some f42) (.n (.n (.n .e (some f298) .e) (some f170) .e) (some f106) (.n .e (some f234) .e))) (some f26) (.n (.n (.n (.n .e (some f282) .e) (some f154) .e) (some f90) (.n .e (some f218) .e)) (some f58) (.n (.n (.n .e (some f314) .e) (some f186) .e) (some f122) (.n .e (some f250) .e))))) (some f6) (.n (.n (.n (.n (.n (.n .e (some f262) .e) (some f134) .e) (some f70) (.n (.n .e (some f326) .e) (some f198) .e)) (some f38) (.n (.n (.n .e (some f294) .e) (some f166) .e) (some f102) (.n .e (some f230) .e))) (some f22) (.n (.n (.n (.n .e (some f278) .e) (some f150) .e) (some f86) (.n .e (some f214) .e)) (some f54) (.n (.n (.n .e (some f310) .e) (some f182) .e) (some f118) (.n .e (some f246) .e)))) (some f14) (.n (.n (.n (.n (.n .e (some f270) .e) (some f142) .e) (some f78) (.n (.n .e (some f334) .e) (some f206) .e)) (some f46) (.n (.n (.n .e (some f302) .e) (some f174) .e) (some f110) (.n .e (some f238) .e))) (some f30) (.n (.n (.n (.n .e (some f286) .e) (some f158) .e) (some f94) (.n .e (some f222) .e)) (some f62) (.n (.n (.n .e (some f318) .e) (some f190) .e) (some f126) (.n .e (some f254) .e))))))))
theorem Tryz.tyTab_eq :Tryz.tyTab=T.e.fillO 0 (tyL Tryz.prog):=by kernel_rfl
theorem Tryz.fnTab_eq :Tryz.fnTab=T.e.fillO 0 (fnL Tryz.tyTab Tryz.prog):=by kernel_rfl
end Go.Proofs
namespace Go.Proofs
open Go Go.RowKit Go.Ax
noncomputable def GX :List Value→AS→Option (Value×AS)
 |[.slice (some a) n c,.int .u8 (.ofNat k)],s=>bif Zb n 1000000 then(match rdN s a.block a.off n with
  |none=>none
  |some l=>match kt k l 0 0 with
   |none=>none
   |some r=>Hf r fun r=>some (.slice (some a) r c,s))else none
 |_,_=>none
theorem Zl3 :POk Tryz.prog 294 GX:=by
 intro args s v s' h i w args' hR hg ha;unfold GX at h;split at h
 ·rename_i a n c k;cases hn:Zb n 1000000 with
  |false=>rw[hn]at h;cases h
  |true=>
   rw[hn,cond_true]at h;split at h
   ·cases h
   ·rename_i l hl;split at h
    ·cases h
    ·rename_i r hr;rw[natK_eq]at h;cases h;cases ha with
     |cons h1 h2=>
     cases h2 with
     |cons h2 h3=>
     cases h3;cases h2;cases h1 with
     | @slice b o q t _ _ p c' hi x1 x2 x3 x4 x5=>
      obtain⟨bs,e1,e2⟩:=NR hr;obtain⟨e3,e4⟩:=hR.bytes hl hi e1;have hle:Ms k bs≤n:=by
       rw[←e3];unfold Ms;have:=(List.dropWhile_sublist (l:=bs.reverse) (fun x:UInt8=>x.toNat==k)).length_le;simpa using this
      have hr':r=Ms k bs:=by
       rw[e2];split
       ·rename_i h0;rw[h0]
       ·omega
      subst hr';rcases Xi c' with hc0|hc0
      ·
       have hn0:n=0:=by omega
       subst hn0;have hb0:bs=[]:=Vg e3;subst hb0;have hc:=OG q p 0 c' k [] rfl (Zj _) (by omega) w (fun k h=>by cases h);exact Nc.same (fn:=Tryz.f294) Tryz.func294 rfl rfl hR hc (.slice hi (by omega) x2 x3 x4 x5)
      ·obtain rfl:=x4.resolve_right (by omega);have hc:=OG q (t+o) n c' k bs e3 (by omega) (Yr hn) w (fun j hj=>e4 j hj);exact Nc.same (fn:=Tryz.f294) Tryz.func294 rfl rfl hR hc (.slice hi (by omega) x2 x3 x4 x5)
 ·cases h
theorem Zl4 :POk Tryz.prog 96 rq:=by
 intro args s v s' h i w args' hR hg ha;unfold rq at h;split at h
 ·rename_i a n c;cases hn:Zb n 1000000 with
  |false=>rw[hn]at h;cases h
  |true=>
   rw[hn,cond_true]at h;split at h
   ·cases h
   ·rename_i l hl;split at h
    ·cases h
    ·rename_i r hr;rw[natK_eq]at h;cases h;cases ha with
     |cons h1 h2=>
     cases h2;cases h1 with
     | @slice b o q t _ _ p c' hi x1 x2 x3 x4 x5=>
      obtain⟨bs,e1,e2⟩:=ND hr;obtain⟨e3,e4⟩:=hR.bytes hl hi e1;have hres:VR i (.int .i64 (.ofNat (Nat.xor r 4294967295))) (.int .i64 ((Ns 4294967295 bs^^^4294967295:Nat):Int)):=by
       rw[←e2];exact .int _ _
      rcases Xi c' with hc0|hc0
      ·have hn0:n=0:=by omega
       subst hn0;have hb0:bs=[]:=Vg e3;subst hb0;have hc:=OJ q p 0 c' [] rfl (by omega) w (fun k h=>by cases h);exact Nc.same (fn:=Tryz.f96) Tryz.func96 rfl rfl hR hc hres
      ·obtain rfl:=x4.resolve_right (by omega);have hc:=OJ q (t+o) n c' bs e3 (Yr hn) w (fun j hj=>e4 j hj);exact Nc.same (fn:=Tryz.f96) Tryz.func96 rfl rfl hR hc hres
 ·cases h
theorem Zl5(l:Nat)(ad:Addr)(a:Option Addr)(c:Nat)(W:World)(h:W.cell? ad=some (.slice a 0 c)):
  Calls Tryz.prog 221 #[.func (.yield l) #[] #[],.pointer (some ad)] W fun e W'=>(∃v,e=.returned v)∧Below W.heap.size W W':=by
 go_enter Tryz.func221,Tryz.ntmps221
 go_wp2
 go_loop [3] (fun i=>i=.int .i64 (-1)) (fun _=>0)
 case atStart=>rfl
 case round=>
  subst hrel
  go_wp2
  go_end0
  exact⟨⟨_,rfl⟩,Below.refl _ _⟩
end Go.Proofs
namespace Go.Proofs
open Go Go.RowKit Go.Ax
noncomputable def mw :T (List Value→AS→Option (Value×AS)):=((((T.e.set 96 rq).set 294 GX).set 266 jc).set 214 YQ).set 273 rr
noncomputable def SE :Env:= {P:=Tryz.prog,ty:=Tryz.tyTab,fn:=Tryz.fnTab,prim:=mw,back:=fun g=>Nat.beq g 221}
theorem OH :Gr SE:=YF Tryz.tyTab_eq
theorem Zl6 :q8 SE:=YT Tryz.fnTab_eq
theorem GV :ZL SE:=by
 intro f p hp;have hp':mw.get f=some p:=hp;unfold mw at hp';rw[T.get_set]at hp';split at hp'
 ·rename_i h;subst h;cases hp';exact Zbf (fn:=Tryz.f273) Tryz.func273 (by kernel_rfl) rfl (by kernel_rfl) (by kernel_rfl)
 rw[T.get_set]at hp';split at hp'
 ·rename_i h;subst h;cases hp';exact Zbh (E:=SE) OH (fn:=Tryz.f214) (t:=34) (r:=4) Tryz.func214 (by kernel_rfl) rfl (by kernel_rfl) (by kernel_rfl) (by kernel_rfl)
 rw[T.get_set]at hp';split at hp'
 ·rename_i h;subst h;cases hp';exact Zbg (fn:=Tryz.f266) Tryz.func266 (by kernel_rfl) rfl (by kernel_rfl) (by kernel_rfl)
 rw[T.get_set]at hp';split at hp'
 ·rename_i h;subst h;cases hp';exact Zl3
 rw[T.get_set]at hp';split at hp'
 ·rename_i h;subst h;cases hp';exact Zl4
 ·cases hp'
theorem GU :gp SE:=by
 intro g hg;have:g=221:=Nat.eq_of_beq_eq_true hg;subst this;refine⟨fun args w=>?_,Zl5⟩;have hf:Tryz.prog.funcs[221]? =some Tryz.f221:=Tryz.func221
 have hn : Tryz.f221.name ≠ "runtime.NumGoroutine" := by
  have : (Tryz.f221.name == "runtime.NumGoroutine") = false := by kernel_rfl
  simpa using this
 have hb:Tryz.f221.body≠none:=by
  have:Tryz.f221.body.isNone=false:=by kernel_rfl
  intro h;rw[h]at this;cases this
 show(callFunc 221 args).run Tryz.prog w=_;unfold callFunc;simp[hf,hn,hb]
theorem GJ(F D:Nat):Mz Tryz.prog (Gw SE F D):=YC (E:=SE) (by kernel_rfl) OH GU Zl6 GV F D
end Go.Proofs
