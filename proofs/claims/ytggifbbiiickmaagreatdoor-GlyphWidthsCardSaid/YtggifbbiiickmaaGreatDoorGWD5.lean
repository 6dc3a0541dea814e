/-
  Texts that lean on one another, laid in one file. No condition.
-/
import Derived.Test.YtggifbbiiickmaaGreatDoorGWD1
import Derived.Test.YtggifbbiiickmaaGreatDoorGWD4
import Derived.Test.YtggifbbiiickmaaGreatDoorGWD2
import Derived.Test.YtggifbbiiickmaaGreatDoorGWD3
import Derived.Deep.DeepCutAuto
namespace Go.Proofs.YtggifbbiiickmaaGreatDoor.PX
open Go.RowKit Go.Proofs.zx.zJ Go.Proofs.zx.zu Go.Proofs.zx.zo
attribute [local go_sem] yU y7 qX qJ yM yN y8 y9   -- for this text's walks alone
set_option linter.unusedVariables false
set_option linter.unusedSimpArgs false
mutual
def z8.l0:Nat → List (yD) → ByteArray → Int → Option (ByteArray)
 | 0,_,_,_=>none
 | k + 1,x0,x3,x4=>if x4 < (x0.length:Int) then (if 0 ≤ x4 then (if ((zw x0 x4).f0) = 0 then (z8.j1 k x0 x3 x4 ((((zw x0 x4).f4).size:Int) == 1)) else (z8.j1 k x0 x3 x4 false)) else (none)) else (some x3)
def z8.j1:Nat → List (yD) → ByteArray → Int → Bool → Option (ByteArray)
 | 0,_,_,_,_=>none
 | k + 1,x0,x3,x4,x11=>if x11 = true then (if 0 ≤ x4 then (if x4 < (x0.length:Int) then (if x3.size + ((zw x0 x4).f4).size ≤ 9223372036854775807 then (z8.l0 k x0 (x3 ++ ((zw x0 x4).f4)) (wrap64 (x4 + 1))) else (none)) else (none)) else (none)) else (if 0 ≤ x4 then (if x4 < (x0.length:Int) then (if ((zw x0 x4).f0) = 0 then (if x3.size + 2 ≤ 9223372036854775807 then (if (x3 ++ (⟨#[92,91]⟩:ByteArray)).size + ((zw x0 x4).f4).size ≤ 9223372036854775807 then (if ((x3 ++ (⟨#[92,91]⟩:ByteArray)) ++ ((zw x0 x4).f4)).size + 1 ≤ 9223372036854775807 then (z8.l0 k x0 (((x3 ++ (⟨#[92,91]⟩:ByteArray)) ++ ((zw x0 x4).f4)) ++ (⟨#[93]⟩:ByteArray)) (wrap64 (x4 + 1))) else (none)) else (none)) else (none)) else (if ((zw x0 x4).f0) = 1 then (if x3.size + 1 ≤ 9223372036854775807 then (z8.l0 k x0 (x3 ++ (⟨#[32]⟩:ByteArray)) (wrap64 (x4 + 1))) else (none)) else (if ((zw x0 x4).f0) = 6 then (if x3.size + 1 ≤ 9223372036854775807 then (z8.l0 k x0 (x3 ++ (⟨#[32]⟩:ByteArray)) (wrap64 (x4 + 1))) else (none)) else (z8.l0 k x0 x3 (wrap64 (x4 + 1)))))) else (none)) else (none))
end
def z8.f (k:Nat) (l0:List (yD)):Option (ByteArray):=z8.l0 k l0 (⟨#[]⟩:ByteArray) 0
set_option maxHeartbeats 8000000 in
set_option maxRecDepth 100000 in
theorem z8.calls (k:Nat) (A0:Option Addr) (c0:Nat) (l0:List (yD)) (r:ByteArray) (w:World) (hr0:Kd.C qK w A0 l0.length l0) (hc0:l0.length ≤ c0) (h:z8.f k l0 = some r) :
  Calls Tryz.prog 29 #[.slice A0 l0.length c0] w fun e w'=>e = .returned (.string r) ∧ zL w w':=by
 have qA:=zk.mk hr0
 have YJ:=zk.mk hc0
 clear hr0 hc0
 have H:(z8.l0 k l0 (⟨#[]⟩:ByteArray) 0) = some r:=h
 clear h
 have H':=zk.mk H
 clear H
 go_enter Tryz.func29,Tryz.ntmps29
 go_wp2
 go_loopg [3,4] k (fun kq v3 v4 w'=>∃ (zD:ByteArray) (zA:Int),v3 = .string zD ∧ v4 = .int .i64 zA ∧ zk (z8.l0 kq l0 zD zA = some r) ∧ zk (kq ≤ k) ∧ zL w w')
 case atStart=>exact ⟨((⟨#[]⟩:ByteArray)),(0),(by first | rfl | (simp;done) | (simp [*];done)),(by first | rfl | (simp;done) | (simp [*];done)),H',⟨Nat.le_refl _⟩,by repeat (first | exact zL.refl _ | apply zL.step)⟩
 case round =>
  clear H'
  obtain ⟨zD,zA,rfl,rfl,HA,vQ,⟨m1,rfl⟩⟩:=hrel
  cases gk with
  | zero=>exact absurd HA.out (by simp [z8.l0])
  | succ k1 =>
   have H:=HA.out
   clear HA
   simp only [z8.l0] at H
   by_cases c2:zA < (l0.length:Int)
   ·rw [if_pos c2] at H
    have Ya:decide (zA < (l0.length:Int)) = true:=decide_eq_true c2
    clear c2
    have JV:=zk.mk H
    clear H
    go_upto_region 5 with (fail)
    go_cut [11] (fun v11 wc=>∃ (kq:Nat) (zve:Bool),v11 = .bool zve ∧ zk (z8.j1 kq l0 zD zA zve = some r) ∧ zk (kq ≤ k1) ∧ zL w wc)
    case first =>
     have H:=JV.out
     clear JV
     by_cases c4:0 ≤ zA
     ·rw [if_pos c4] at H
      have kD:decide (0 ≤ zA) = true:=decide_eq_true c4
      clear c4
      (first | rw [kD] | (simp only [qR,qU];rw [kD]) | skip)
      by_cases c5:((zw l0 zA).f0) = 0
      ·rw [if_pos c5] at H
       have Z9:(((zw l0 zA).f0) == 0) = true:=beq_iff_eq.mpr c5
       have Kl:(((zw l0 zA).f0) != 0) = false:=bne_eq_false_iff_eq.mpr c5
       clear c5
       have H':=zk.mk H
       clear H
       have rz:0 ≤ (zA:Int):=of_decide_eq_true yj
       have rZ:zA < (l0.length:Int):=of_decide_eq_true yj
       obtain ⟨zWl,zc3,zc4,zYD,zZz,zZq,zZx,zZj,zZv,zZk,zxB,dZ,dQ⟩:=yR qA.out zA rz rZ
       cases zYD
       have zbz:=zk.mk dQ
       have zbq:=zk.mk dZ
       clear dQ dZ
       replace rz:=eq_true rz
       replace rZ:=eq_true rZ
       have zJa:0 ≤ (zA:Int):=of_decide_eq_true yj
       have zJb:zA < (l0.length:Int):=of_decide_eq_true yj
       obtain ⟨zfg,zog,zoh,zhm,zbx,zbj,zbv,zbk,zby,zbw,zZy,zZw,zZZ⟩:=yR qA.out zA zJa zJb
       obtain rfl:zWl = zfg:=(by injection zhm)
       have zmd:=zk.mk zZZ
       have zme:=zk.mk zZw
       clear zZZ zZw
       replace zJa:=eq_true zJa
       replace zJb:=eq_true zJb
       have qQ:=Option.some.inj (zxB.symm.trans zZy)
       injection qQ with qQ vM vN
       subst qQ
       subst vN
       clear vM
       go_wp2
       go_meet
       case rel=>exact ⟨_,(((((zw l0 zA).f4).size:Int) == 1)),(by first | rfl | (simp;done) | (simp [*];done)),H',⟨by have:=vQ.out;first | omega | exact Nat.le_refl _⟩,by repeat (first | exact zL.refl _ | apply zL.step)⟩
      ·rw [if_neg c5] at H
       have Z9:(((zw l0 zA).f0) == 0) = false:=beq_eq_false_iff_ne.mpr c5
       have Kl:(((zw l0 zA).f0) != 0) = true:=bne_iff_ne.mpr c5
       have H':=zk.mk H
       clear H
       have rz:0 ≤ (zA:Int):=of_decide_eq_true yj
       have rZ:zA < (l0.length:Int):=of_decide_eq_true yj
       obtain ⟨zWl,zc3,zc4,zYD,zZz,zZq,zZx,zZj,zZv,zZk,zxB,dZ,dQ⟩:=yR qA.out zA rz rZ
       cases zYD
       have zbz:=zk.mk dQ
       have zbq:=zk.mk dZ
       clear dQ dZ
       replace rz:=eq_true rz
       replace rZ:=eq_true rZ
       go_wp2
       go_meet
       case rel=>exact ⟨_,(false),(by first | rfl | (simp;done) | (simp [*];done)),H',⟨by have:=vQ.out;first | omega | exact Nat.le_refl _⟩,by repeat (first | exact zL.refl _ | apply zL.step)⟩
     ·rw [if_neg c4] at H
      exact absurd H (by simp)
    case rest =>
     clear JV
     try clear c2
     try clear Ya
     try clear c4
     try clear kD
     try clear c5
     try clear Z9
     try clear Kl
     try clear zZz
     try clear zZq
     try clear zZx
     try clear zZj
     try clear zZv
     try clear zZk
     try clear zxB
     try clear zbx
     try clear zbj
     try clear zbv
     try clear zbk
     try clear zby
     try clear zbw
     try clear zZy
     try clear rz
     try clear zJa
     try clear rZ
     try clear zJb
     obtain ⟨kq,zve,rfl,HA,HJ2,⟨mc2,rfl⟩⟩:=hcut
     cases kq with
     | zero=>exact absurd HA.out (by simp [z8.j1])
     | succ WM =>
      have H:=HA.out
      clear HA
      simp only [z8.j1] at H
      by_cases c6:zve = true
      ·subst c6
       have H1:(if 0 ≤ zA then (if zA < (l0.length:Int) then (if zD.size + ((zw l0 zA).f4).size ≤ 9223372036854775807 then (z8.l0 WM l0 (zD ++ ((zw l0 zA).f4)) (wrap64 (zA + 1))) else (none)) else (none)) else (none)) = some r:=by rw [if_pos rfl] at H;exact H
       clear H
       have H:=H1
       clear H1
       by_cases c7:0 ≤ zA
       ·rw [if_pos c7] at H
        have Jf:decide (0 ≤ zA) = true:=decide_eq_true c7
        clear c7
        by_cases c8:zA < (l0.length:Int)
        ·rw [if_pos c8] at H
         have Z8:decide (zA < (l0.length:Int)) = true:=decide_eq_true c8
         clear c8
         by_cases c9:zD.size + ((zw l0 zA).f4).size ≤ 9223372036854775807
         ·rw [if_pos c9] at H
          have eB:=eq_true c9
          have zJc:decide (zD.size + ((zw l0 zA).f4).size ≤ 9223372036854775807) = true:=decide_eq_true c9
          try have zpS:(9223372036854775807 < zD.size + ((zw l0 zA).f4).size) = False:=eq_false (Nat.not_lt.2 c9)
          have H':=zk.mk H
          clear H
          have zYE:0 ≤ (zA:Int):=of_decide_eq_true yj
          have zYF:zA < (l0.length:Int):=of_decide_eq_true yj
          obtain ⟨zoG,zoi,zol,zhn,zmf,zmg,zmh,zmi,zml,zmm,zmn,zZQ,zZX⟩:=yR qA.out zA zYE zYF
          cases zhn
          have zmo:=zk.mk zZX
          have zmp:=zk.mk zZQ
          clear zZX zZQ
          replace zYE:=eq_true zYE
          replace zYF:=eq_true zYF
          go_wp2
          go_roundg WM
          case measure=>have:=vQ.out;have:=HJ2.out;omega
          case rel=>exact ⟨(zD ++ ((zw l0 zA).f4)),(wrap64 (zA + 1)),(by first | rfl | (simp;done) | (simp [*];done)),(by first | rfl | (simp;done) | (simp [*];done)),H',⟨by have:=vQ.out;have:=HJ2.out;omega⟩,by repeat (first | exact zL.refl _ | apply zL.step)⟩
         ·rw [if_neg c9] at H
          exact absurd H (by simp)
        ·rw [if_neg c8] at H
         exact absurd H (by simp)
       ·rw [if_neg c7] at H
        exact absurd H (by simp)
      ·replace c6:=Bool.eq_false_iff.mpr c6
       subst c6
       have H1:(if 0 ≤ zA then (if zA < (l0.length:Int) then (if ((zw l0 zA).f0) = 0 then (if zD.size + 2 ≤ 9223372036854775807 then (if (zD ++ (⟨#[92,91]⟩:ByteArray)).size + ((zw l0 zA).f4).size ≤ 9223372036854775807 then (if ((zD ++ (⟨#[92,91]⟩:ByteArray)) ++ ((zw l0 zA).f4)).size + 1 ≤ 9223372036854775807 then (z8.l0 WM l0 (((zD ++ (⟨#[92,91]⟩:ByteArray)) ++ ((zw l0 zA).f4)) ++ (⟨#[93]⟩:ByteArray)) (wrap64 (zA + 1))) else (none)) else (none)) else (none)) else (if ((zw l0 zA).f0) = 1 then (if zD.size + 1 ≤ 9223372036854775807 then (z8.l0 WM l0 (zD ++ (⟨#[32]⟩:ByteArray)) (wrap64 (zA + 1))) else (none)) else (if ((zw l0 zA).f0) = 6 then (if zD.size + 1 ≤ 9223372036854775807 then (z8.l0 WM l0 (zD ++ (⟨#[32]⟩:ByteArray)) (wrap64 (zA + 1))) else (none)) else (z8.l0 WM l0 zD (wrap64 (zA + 1)))))) else (none)) else (none)) = some r:=by rw [if_neg (show ¬ (false = true) by decide)] at H;exact H
       clear H
       have H:=H1
       clear H1
       by_cases c10:0 ≤ zA
       ·rw [if_pos c10] at H
        have zvf:decide (0 ≤ zA) = true:=decide_eq_true c10
        clear c10
        by_cases c11:zA < (l0.length:Int)
        ·rw [if_pos c11] at H
         have Yn:decide (zA < (l0.length:Int)) = true:=decide_eq_true c11
         clear c11
         by_cases c12:((zw l0 zA).f0) = 0
         ·rw [if_pos c12] at H
          have zfh:(((zw l0 zA).f0) == 0) = true:=beq_iff_eq.mpr c12
          have zfi:(((zw l0 zA).f0) != 0) = false:=bne_eq_false_iff_eq.mpr c12
          clear c12
          by_cases c13:zD.size + 2 ≤ 9223372036854775807
          ·rw [if_pos c13] at H
           have VE:=eq_true c13
           have gH:decide (zD.size + 2 ≤ 9223372036854775807) = true:=decide_eq_true c13
           try have zoH:(9223372036854775807 < zD.size + 2) = False:=eq_false (Nat.not_lt.2 c13)
           by_cases c14:(zD ++ (⟨#[92,91]⟩:ByteArray)).size + ((zw l0 zA).f4).size ≤ 9223372036854775807
           ·rw [if_pos c14] at H
            have zWm:=eq_true c14
            have zWn:decide ((zD ++ (⟨#[92,91]⟩:ByteArray)).size + ((zw l0 zA).f4).size ≤ 9223372036854775807) = true:=decide_eq_true c14
            try have zoI:(9223372036854775807 < (zD ++ (⟨#[92,91]⟩:ByteArray)).size + ((zw l0 zA).f4).size) = False:=eq_false (Nat.not_lt.2 c14)
            by_cases c15:((zD ++ (⟨#[92,91]⟩:ByteArray)) ++ ((zw l0 zA).f4)).size + 1 ≤ 9223372036854775807
            ·rw [if_pos c15] at H
             have zoL:=eq_true c15
             have zoM:decide (((zD ++ (⟨#[92,91]⟩:ByteArray)) ++ ((zw l0 zA).f4)).size + 1 ≤ 9223372036854775807) = true:=decide_eq_true c15
             try have zoN:(9223372036854775807 < ((zD ++ (⟨#[92,91]⟩:ByteArray)) ++ ((zw l0 zA).f4)).size + 1) = False:=eq_false (Nat.not_lt.2 c15)
             have zoO:(9223372036854775807 < zD.size + 2 + ((zw l0 zA).f4).size + 1) = False:=eq_false (fun h_=>Nat.not_lt.2 c15 (by rw [ByteArray.size_append,ByteArray.size_append];exact h_))
             have H':=zk.mk H
             clear H
             have Qv:0 ≤ (zA:Int):=of_decide_eq_true yj
             have Qk:zA < (l0.length:Int):=of_decide_eq_true yj
             obtain ⟨JA,zkY,zkW,iI,zxC,zxD,zxE,zxF,zxG,zxH,XK,Zo,Zp⟩:=yR qA.out zA Qv Qk
             cases iI
             have zxI:=zk.mk Zp
             have zxL:=zk.mk Zo
             clear Zp Zo
             replace Qv:=eq_true Qv
             replace Qk:=eq_true Qk
             have zYG:0 ≤ (zA:Int):=of_decide_eq_true yj
             have zYH:zA < (l0.length:Int):=of_decide_eq_true yj
             obtain ⟨zfl,zom,zon,zho,zmr,zms,zmt,zmu,zmA,zmB,zbZ,zZJ,zZV⟩:=yR qA.out zA zYG zYH
             obtain rfl:JA = zfl:=(by injection zho)
             have zmC:=zk.mk zZV
             have zmD:=zk.mk zZJ
             clear zZV zZJ
             replace zYG:=eq_true zYG
             replace zYH:=eq_true zYH
             have qQ:=Option.some.inj (XK.symm.trans zbZ)
             injection qQ with qQ vM vN
             subst qQ
             subst vN
             clear vM
             go_wp2
             go_roundg WM
             case measure=>have:=vQ.out;have:=HJ2.out;omega
             case rel=>exact ⟨(((zD ++ (⟨#[92,91]⟩:ByteArray)) ++ ((zw l0 zA).f4)) ++ (⟨#[93]⟩:ByteArray)),(wrap64 (zA + 1)),(by first | rfl | (simp;done) | (simp [*];done)),(by first | rfl | (simp;done) | (simp [*];done)),H',⟨by have:=vQ.out;have:=HJ2.out;omega⟩,by repeat (first | exact zL.refl _ | apply zL.step)⟩
            ·rw [if_neg c15] at H
             exact absurd H (by simp)
           ·rw [if_neg c14] at H
            exact absurd H (by simp)
          ·rw [if_neg c13] at H
           exact absurd H (by simp)
         ·rw [if_neg c12] at H
          have zfh:(((zw l0 zA).f0) == 0) = false:=beq_eq_false_iff_ne.mpr c12
          have zfi:(((zw l0 zA).f0) != 0) = true:=bne_iff_ne.mpr c12
          by_cases c16:((zw l0 zA).f0) = 1
          ·rw [if_pos c16] at H
           have zfm:(((zw l0 zA).f0) == 1) = true:=beq_iff_eq.mpr c16
           have zfn:(((zw l0 zA).f0) != 1) = false:=bne_eq_false_iff_eq.mpr c16
           clear c16
           by_cases c17:zD.size + 1 ≤ 9223372036854775807
           ·rw [if_pos c17] at H
            have XR:=eq_true c17
            have Wt:decide (zD.size + 1 ≤ 9223372036854775807) = true:=decide_eq_true c17
            try have zoP:(9223372036854775807 < zD.size + 1) = False:=eq_false (Nat.not_lt.2 c17)
            have H':=zk.mk H
            clear H
            have Qv:0 ≤ (zA:Int):=of_decide_eq_true yj
            have Qk:zA < (l0.length:Int):=of_decide_eq_true yj
            obtain ⟨JA,zkY,zkW,iI,zxC,zxD,zxE,zxF,zxG,zxH,XK,Zo,Zp⟩:=yR qA.out zA Qv Qk
            cases iI
            have zxI:=zk.mk Zp
            have zxL:=zk.mk Zo
            clear Zp Zo
            replace Qv:=eq_true Qv
            replace Qk:=eq_true Qk
            have KR:0 ≤ (zA:Int):=of_decide_eq_true yj
            have KS:zA < (l0.length:Int):=of_decide_eq_true yj
            obtain ⟨zzX,zVG,zVH,zka,zZK,zZY,zZW,zZa,zZb,zZc,dX,Vz,Vq⟩:=yR qA.out zA KR KS
            obtain rfl:JA = zzX:=(by injection zka)
            have zZd:=zk.mk Vq
            have zZe:=zk.mk Vz
            clear Vq Vz
            replace KR:=eq_true KR
            replace KS:=eq_true KS
            have qQ:=Option.some.inj (XK.symm.trans dX)
            injection qQ with qQ vM vN
            subst qQ
            subst vN
            clear vM
            go_wp2
            go_roundg WM
            case measure=>have:=vQ.out;have:=HJ2.out;omega
            case rel=>exact ⟨(zD ++ (⟨#[32]⟩:ByteArray)),(wrap64 (zA + 1)),(by first | rfl | (simp;done) | (simp [*];done)),(by first | rfl | (simp;done) | (simp [*];done)),H',⟨by have:=vQ.out;have:=HJ2.out;omega⟩,by repeat (first | exact zL.refl _ | apply zL.step)⟩
           ·rw [if_neg c17] at H
            exact absurd H (by simp)
          ·rw [if_neg c16] at H
           have zfm:(((zw l0 zA).f0) == 1) = false:=beq_eq_false_iff_ne.mpr c16
           have zfn:(((zw l0 zA).f0) != 1) = true:=bne_iff_ne.mpr c16
           by_cases c18:((zw l0 zA).f0) = 6
           ·rw [if_pos c18] at H
            have gI:(((zw l0 zA).f0) == 6) = true:=beq_iff_eq.mpr c18
            have gL:(((zw l0 zA).f0) != 6) = false:=bne_eq_false_iff_eq.mpr c18
            clear c18
            by_cases c19:zD.size + 1 ≤ 9223372036854775807
            ·rw [if_pos c19] at H
             have zoR:=eq_true c19
             have zoS:decide (zD.size + 1 ≤ 9223372036854775807) = true:=decide_eq_true c19
             try have zoT:(9223372036854775807 < zD.size + 1) = False:=eq_false (Nat.not_lt.2 c19)
             have H':=zk.mk H
             clear H
             have Qv:0 ≤ (zA:Int):=of_decide_eq_true yj
             have Qk:zA < (l0.length:Int):=of_decide_eq_true yj
             obtain ⟨JA,zkY,zkW,iI,zxC,zxD,zxE,zxF,zxG,zxH,XK,Zo,Zp⟩:=yR qA.out zA Qv Qk
             cases iI
             have zxI:=zk.mk Zp
             have zxL:=zk.mk Zo
             clear Zp Zo
             replace Qv:=eq_true Qv
             replace Qk:=eq_true Qk
             have KR:0 ≤ (zA:Int):=of_decide_eq_true yj
             have KS:zA < (l0.length:Int):=of_decide_eq_true yj
             obtain ⟨zzX,zVG,zVH,zka,zZK,zZY,zZW,zZa,zZb,zZc,dX,Vz,Vq⟩:=yR qA.out zA KR KS
             obtain rfl:JA = zzX:=(by injection zka)
             have zZd:=zk.mk Vq
             have zZe:=zk.mk Vz
             clear Vq Vz
             replace KR:=eq_true KR
             replace KS:=eq_true KS
             have qQ:=Option.some.inj (XK.symm.trans dX)
             injection qQ with qQ vM vN
             subst qQ
             subst vN
             clear vM
             have iL:0 ≤ (zA:Int):=of_decide_eq_true yj
             have iN:zA < (l0.length:Int):=of_decide_eq_true yj
             obtain ⟨zJd,zc5,zc6,zYI,zbQ,zbX,zbJ,zbV,zbK,zbY,zxM,dJ,dV⟩:=yR qA.out zA iL iN
             obtain rfl:JA = zJd:=(by injection zYI)
             have zbW:=zk.mk dV
             have zba:=zk.mk dJ
             clear dV dJ
             replace iL:=eq_true iL
             replace iN:=eq_true iN
             have qQ:=Option.some.inj (XK.symm.trans zxM)
             injection qQ with qQ vM vN
             subst qQ
             subst vN
             clear vM
             go_wp2
             go_roundg WM
             case measure=>have:=vQ.out;have:=HJ2.out;omega
             case rel=>exact ⟨(zD ++ (⟨#[32]⟩:ByteArray)),(wrap64 (zA + 1)),(by first | rfl | (simp;done) | (simp [*];done)),(by first | rfl | (simp;done) | (simp [*];done)),H',⟨by have:=vQ.out;have:=HJ2.out;omega⟩,by repeat (first | exact zL.refl _ | apply zL.step)⟩
            ·rw [if_neg c19] at H
             exact absurd H (by simp)
           ·rw [if_neg c18] at H
            have gI:(((zw l0 zA).f0) == 6) = false:=beq_eq_false_iff_ne.mpr c18
            have gL:(((zw l0 zA).f0) != 6) = true:=bne_iff_ne.mpr c18
            have H':=zk.mk H
            clear H
            have Qv:0 ≤ (zA:Int):=of_decide_eq_true yj
            have Qk:zA < (l0.length:Int):=of_decide_eq_true yj
            obtain ⟨JA,zkY,zkW,iI,zxC,zxD,zxE,zxF,zxG,zxH,XK,Zo,Zp⟩:=yR qA.out zA Qv Qk
            cases iI
            have zxI:=zk.mk Zp
            have zxL:=zk.mk Zo
            clear Zp Zo
            replace Qv:=eq_true Qv
            replace Qk:=eq_true Qk
            have KR:0 ≤ (zA:Int):=of_decide_eq_true yj
            have KS:zA < (l0.length:Int):=of_decide_eq_true yj
            obtain ⟨zzX,zVG,zVH,zka,zZK,zZY,zZW,zZa,zZb,zZc,dX,Vz,Vq⟩:=yR qA.out zA KR KS
            obtain rfl:JA = zzX:=(by injection zka)
            have zZd:=zk.mk Vq
            have zZe:=zk.mk Vz
            clear Vq Vz
            replace KR:=eq_true KR
            replace KS:=eq_true KS
            have qQ:=Option.some.inj (XK.symm.trans dX)
            injection qQ with qQ vM vN
            subst qQ
            subst vN
            clear vM
            have iL:0 ≤ (zA:Int):=of_decide_eq_true yj
            have iN:zA < (l0.length:Int):=of_decide_eq_true yj
            obtain ⟨zJd,zc5,zc6,zYI,zbQ,zbX,zbJ,zbV,zbK,zbY,zxM,dJ,dV⟩:=yR qA.out zA iL iN
            obtain rfl:JA = zJd:=(by injection zYI)
            have zbW:=zk.mk dV
            have zba:=zk.mk dJ
            clear dV dJ
            replace iL:=eq_true iL
            replace iN:=eq_true iN
            have qQ:=Option.some.inj (XK.symm.trans zxM)
            injection qQ with qQ vM vN
            subst qQ
            subst vN
            clear vM
            go_wp2
            go_roundg WM
            case measure=>have:=vQ.out;have:=HJ2.out;omega
            case rel=>exact ⟨(zD),(wrap64 (zA + 1)),(by first | rfl | (simp;done) | (simp [*];done)),(by first | rfl | (simp;done) | (simp [*];done)),H',⟨by have:=vQ.out;have:=HJ2.out;omega⟩,by repeat (first | exact zL.refl _ | apply zL.step)⟩
        ·rw [if_neg c11] at H
         exact absurd H (by simp)
       ·rw [if_neg c10] at H
        exact absurd H (by simp)
   ·rw [if_neg c2] at H
    have Ya:decide (zA < (l0.length:Int)) = false:=decide_eq_false c2
    clear c2
    obtain rfl:=Option.some.inj H
    go_wp2
    go_ret
    exact ⟨by first | rfl | (simp;done) | (simp [*];done),by repeat (first | exact zL.refl _ | apply zL.step)⟩
end Go.Proofs.YtggifbbiiickmaaGreatDoor.PX
namespace Go.Proofs.YtggifbbiiickmaaGreatDoor
open Go.RowKit Go.Proofs.zx.zJ Go.Proofs.zx.zu Go.Proofs.zx.zo Go.Proofs.YtggifbbiiickmaaGreatDoor.PX
set_option linter.unusedSimpArgs false
set_option linter.unusedVariables false
theorem zbb (l:List qZ) (hl:l.length ≤ 1000000000) (hz:∀ b ∈ l,b.f4.size ≤ 1000):∀ d i (s:ByteArray),i + d = l.length → s.size ≤ 2000 * i → Ev (fun k=>z8.l0 k l s (i:Int)) ((l.drop i).foldl pq s):=by
 intro d
 induction d with
 | zero =>
  intro i s h hs
  refine Ev.step (fun k=>by rw [z8.l0]) (yG (by omega) (jR ?_ (Ev.now _)))
  rw [List.drop_eq_nil_of_le (by omega)];rfl
 | succ d ih =>
  intro i s h hs
  have hi:i < l.length:=by omega
  have hw:wrap64 ((i:Int) + 1) = ((i + 1:Nat):Int):=(pI (by omega) (by omega)).trans (by omega)
  have q1:(i:Int) < (l.length:Int):=by omega
  have q2:(0:Int) ≤ (i:Int):=by omega
  have hd:zw l (i:Int) = l[i]:=rdB l i _ (List.getElem?_eq_getElem hi)
  have hb:=hz _ (List.getElem_mem hi)
  rw [List.drop_eq_getElem_cons hi,List.foldl_cons]
  generalize l[i] = b at hd hb ⊢
  have e2:(⟨#[92,91]⟩:ByteArray).size = 2:=rfl
  have e1:(⟨#[93]⟩:ByteArray).size = 1:=rfl
  have e3:(⟨#[32]⟩:ByteArray).size = 1:=rfl
  unfold pq
  refine Ev.step (fun k=>by rw [z8.l0,hd]) (zR q1 (zR q2 ?_))
  by_cases h0:b.f0 = 0
  ·rw [if_pos h0]
   refine zR h0 ?_
   by_cases h1:b.f4.size = 1
   ·rw [if_pos h1]
    have ht:(((b.f4.size:Nat):Int) == 1) = true:=by rw [h1];rfl
    rw [ht]
    refine Ev.step (fun k=>by rw [z8.j1,hd,hw]) (zR rfl (zR q2 (zR q1 (zR (by omega) ?_))))
    exact ih (i + 1) _ (by omega) (by rw [ByteArray.size_append];omega)
   ·rw [if_neg h1]
    have ht:(((b.f4.size:Nat):Int) == 1) = false:=beq_eq_false_iff_ne.2 (by omega)
    rw [ht]
    refine Ev.step (fun k=>by rw [z8.j1,hd,hw]) (yG Bool.false_ne_true (zR q2 (zR q1 (zR h0 (zR (by omega) (zR (by rw [ByteArray.size_append,e2];omega) (zR (by rw [ByteArray.size_append,ByteArray.size_append,e2];omega) ?_)))))))
    exact ih (i + 1) _ (by omega) (by rw [ByteArray.size_append,ByteArray.size_append,ByteArray.size_append,e2,e1];omega)
  ·rw [if_neg h0]
   refine yG h0 ?_
   refine Ev.step (fun k=>by rw [z8.j1,hd,hw]) (yG Bool.false_ne_true (zR q2 (zR q1 (yG h0 ?_))))
   by_cases h1:b.f0 = 1
   ·rw [if_pos (Or.inl h1)]
    exact zR h1 (zR (by omega) (ih (i + 1) _ (by omega) (by rw [ByteArray.size_append,e3];omega)))
   ·refine yG h1 ?_
    by_cases h6:b.f0 = 6
    ·rw [if_pos (Or.inr h6)]
     exact zR h6 (zR (by omega) (ih (i + 1) _ (by omega) (by rw [ByteArray.size_append,e3];omega)))
    ·rw [if_neg (fun h=>h.elim h1 h6)]
     exact yG h6 (ih (i + 1) _ (by omega) (by omega))
theorem zYL (l:List qZ) (hl:l.length ≤ 1000000000) (hz:∀ b ∈ l,b.f4.size ≤ 1000):Ev (fun k=>z8.f k l) (jr l):=by
 have h:=zbb l hl hz l.length 0 ⟨#[]⟩ (by omega) (Nat.zero_le _)
 rw [List.drop_zero] at h
 exact Ev.congr (fun k=>by rw [z8.f];rfl) h
end Go.Proofs.YtggifbbiiickmaaGreatDoor
namespace Go.Proofs.YtggifbbiiickmaaGreatDoor.PX
open Go.RowKit Go.Proofs.zx.zJ Go.Proofs.zx.zu Go.Proofs.zx.zo
attribute [local go_sem] yU y7 qX qJ yM yN y8 y9   -- for this text's walks alone
set_option linter.unusedVariables false
set_option linter.unusedSimpArgs false
end Go.Proofs.YtggifbbiiickmaaGreatDoor.PX
namespace Go.Proofs.YtggifbbiiickmaaGreatDoor.PX
open Go.RowKit Go.Proofs.zx.zJ Go.Proofs.zx.zu Go.Proofs.zx.zo
attribute [local go_sem] yU y7 qX qJ yM yN y8 y9   -- for this text's walks alone
set_option linter.unusedVariables false
set_option linter.unusedSimpArgs false
end Go.Proofs.YtggifbbiiickmaaGreatDoor.PX
namespace Go.Proofs.YtggifbbiiickmaaGreatDoor.PX
open Go.RowKit Go.Proofs.zx.zJ Go.Proofs.zx.zu Go.Proofs.zx.zo
attribute [local go_sem] yU y7 qX qJ yM yN y8 y9   -- for this text's walks alone
set_option linter.unusedVariables false
set_option linter.unusedSimpArgs false
end Go.Proofs.YtggifbbiiickmaaGreatDoor.PX
namespace Go.Proofs.YtggifbbiiickmaaGreatDoor
open Go.RowKit Go.Proofs.zx.zJ Go.Proofs.zx.zu Go.Proofs.zx.zo Go.Proofs.YtggifbbiiickmaaGreatDoor.PX
set_option linter.unusedSimpArgs false
set_option linter.unusedVariables false
end Go.Proofs.YtggifbbiiickmaaGreatDoor
namespace Go.Proofs.YtggifbbiiickmaaGreatDoor.PX
open Go.RowKit Go.Proofs.zx.zJ Go.Proofs.zx.zu Go.Proofs.zx.zo
attribute [local go_sem] yU y7 qX qJ yM yN y8 y9   -- for this text's walks alone
set_option linter.unusedVariables false
set_option linter.unusedSimpArgs false
mutual
def zH.j0:Nat → Bool → Int → Int → Int → Int → ByteArray → ByteArray → List Int → Int → Int → Int → Int → ByteArray → ByteArray → List Int → Option (Bool)
 | 0,_,_,_,_,_,_,_,_,_,_,_,_,_,_,_=>none
 | k + 1,x54,zxN,zxO,zxP,zxR,zxS,zxT,dK,zxU,zx0,zx1,zx2,zx3,zx4,dY=>if x54 = true then (some false) else (zH.l0 k 0 zxN zxO zxP zxR zxS zxT dK zxU zx0 zx1 zx2 zx3 zx4 dY)
def zH.l0:Nat → Int → Int → Int → Int → Int → ByteArray → ByteArray → List Int → Int → Int → Int → Int → ByteArray → ByteArray → List Int → Option (Bool)
 | 0,_,_,_,_,_,_,_,_,_,_,_,_,_,_,_=>none
 | k + 1,x5,zxN,zxO,zxP,zxR,zxS,zxT,dK,zxU,zx0,zx1,zx2,zx3,zx4,dY=>if x5 < (dK.length:Int) then (if 0 ≤ x5 then (if x5 < (dY.length:Int) then (if (rd dK x5) = (rd dY x5) then (zH.l0 k (wrap64 (x5 + 1)) zxN zxO zxP zxR zxS zxT dK zxU zx0 zx1 zx2 zx3 zx4 dY) else (some false)) else (none)) else (none)) else (some true)
end
def zH.f (k:Nat) (ze:Int) (zn:Int) (zi:Int) (yJ:Int) (zS:ByteArray) (yQ:ByteArray) (yx:List Int) (xG:Int) (xH:Int) (xR:Int) (xS:Int) (vT:ByteArray) (vU:ByteArray) (xL:List Int):Option (Bool):=if ze = xG then (if zn = xH then (if zi = xR then (if yJ = xS then (if zS.toList = vT.toList then (if yQ.toList = vU.toList then (zH.j0 k ((yx.length:Int) != (xL.length:Int)) ze zn zi yJ zS yQ yx xG xH xR xS vT vU xL) else (zH.j0 k true ze zn zi yJ zS yQ yx xG xH xR xS vT vU xL)) else (zH.j0 k true ze zn zi yJ zS yQ yx xG xH xR xS vT vU xL)) else (zH.j0 k true ze zn zi yJ zS yQ yx xG xH xR xS vT vU xL)) else (zH.j0 k true ze zn zi yJ zS yQ yx xG xH xR xS vT vU xL)) else (zH.j0 k true ze zn zi yJ zS yQ yx xG xH xR xS vT vU xL)) else (zH.j0 k true ze zn zi yJ zS yQ yx xG xH xR xS vT vU xL)
set_option maxHeartbeats 8000000 in
set_option maxRecDepth 100000 in
theorem zH.calls (k:Nat) (ze:Int) (zn:Int) (zi:Int) (yJ:Int) (zS:ByteArray) (yQ:ByteArray) (qd:Option Addr) (qg:Nat) (yx:List Int) (xG:Int) (xH:Int) (xR:Int) (xS:Int) (vT:ByteArray) (vU:ByteArray) (Xt:Option Addr) (Xu:Nat) (xL:List Int) (r:Bool) (w:World) (Wp:Kd.C (Kd.int .i64) w qd yx.length yx) (Ws:yx.length ≤ qg) (zWo:Kd.C (Kd.int .i64) w Xt xL.length xL) (zWp:xL.length ≤ Xu) (h:zH.f k ze zn zi yJ zS yQ yx xG xH xR xS vT vU xL = some r) :
  Calls Tryz.prog 53 #[.agg #[.int .i64 ze,.int .i64 zn,.int .i64 zi,.int .i64 yJ,.string zS,.string yQ,.slice qd yx.length qg],.agg #[.int .i64 xG,.int .i64 xH,.int .i64 xR,.int .i64 xS,.string vT,.string vU,.slice Xt xL.length Xu]] w fun e w'=>e = .returned (.bool r) ∧ Below w.heap.size w w':=by
 have zz5:=Tryz.underlying53
 have gG:=zk.mk Wp
 have zWQ:=zk.mk Ws
 clear Wp Ws
 have zWr:=zk.mk zWo
 have zoU:=zk.mk zWp
 clear zWo zWp
 have HB:=zk.mk (Below.refl w.heap.size w)
 have H:(if ze = xG then (if zn = xH then (if zi = xR then (if yJ = xS then (if zS.toList = vT.toList then (if yQ.toList = vU.toList then (zH.j0 k ((yx.length:Int) != (xL.length:Int)) ze zn zi yJ zS yQ yx xG xH xR xS vT vU xL) else (zH.j0 k true ze zn zi yJ zS yQ yx xG xH xR xS vT vU xL)) else (zH.j0 k true ze zn zi yJ zS yQ yx xG xH xR xS vT vU xL)) else (zH.j0 k true ze zn zi yJ zS yQ yx xG xH xR xS vT vU xL)) else (zH.j0 k true ze zn zi yJ zS yQ yx xG xH xR xS vT vU xL)) else (zH.j0 k true ze zn zi yJ zS yQ yx xG xH xR xS vT vU xL)) else (zH.j0 k true ze zn zi yJ zS yQ yx xG xH xR xS vT vU xL)) = some r:=h
 clear h
 have JV:=zk.mk H
 clear H
 go_enter Tryz.func53,Tryz.ntmps53
 go_upto_region 1 with (first | ((with_reducible refine qY (N:=2) rfl ?_);(try (refine kG (by rfl) ?_;dsimp only));refine qm ?hg (N:=2) ?hd (cs:=#[.int .i64 ze,.int .i64 zn,.int .i64 zi,.int .i64 yJ,.string zS,.string yQ,.slice qd yx.length qg]) (t:=53) ?hr ?_;(case hd=>rfl);(case hg=>rfl);(case hr=>first | (go_simp;done) | (go_simp;rfl));intro yA hg w4 qo hb;have zh:=zk.mk (zF (zM HB.out) hb);have zG:=zk.mk (qo);have zU:=zk.mk ((by rw [hg];exact (zI (zM HB.out)):w.heap.size ≤ yA));have yc:=zk.mk ((by rw [hg];exact (zI (zM HB.out)):w.heap.size ≤ yA));clear HB;have HB:=zh;have zB:=zG;have zWs:=zU;have zzJ:=yc;clear zh zG zU yc;clear hb qo hg) | ((with_reducible refine qY (N:=3) rfl ?_);(try (refine kG (by rfl) ?_;dsimp only));refine qm ?hg (N:=3) ?hd (cs:=#[.int .i64 xG,.int .i64 xH,.int .i64 xR,.int .i64 xS,.string vT,.string vU,.slice Xt xL.length Xu]) (t:=53) ?hr ?_;(case hd=>rfl);(case hg=>rfl);(case hr=>first | (go_simp;done) | (go_simp;rfl));intro yS hg w5 qo hb;have zh:=zk.mk (yY (g:=yA) (o:=.cells #[.int .i64 ze,.int .i64 zn,.int .i64 zi,.int .i64 yJ,.string zS,.string yQ,.slice qd yx.length qg] 53 (0,0)) (vK zB.out) hb);have zG:=zk.mk (zF (zM HB.out) hb);have zU:=zk.mk (qo);have yc:=zk.mk ((by rw [hg];exact (zI (zM HB.out)):w.heap.size ≤ yS));have xJ:=zk.mk ((by rw [hg];exact (zI (zM HB.out)):w.heap.size ≤ yS));have jI:=zk.mk ((by rw [hg];exact Nat.ne_of_lt (Zk (g:=yA) (o:=.cells #[.int .i64 ze,.int .i64 zn,.int .i64 zi,.int .i64 yJ,.string zS,.string yQ,.slice qd yx.length qg] 53 (0,0)) (vK zB.out)):yA ≠ yS));have ZK:=zk.mk ((by rw [hg];exact Nat.ne_of_gt (Zk (g:=yA) (o:=.cells #[.int .i64 ze,.int .i64 zn,.int .i64 zi,.int .i64 yJ,.string zS,.string yQ,.slice qd yx.length qg] 53 (0,0)) (vK zB.out)):yS ≠ yA));clear zB;clear HB;have zB:=zh;have HB:=zG;have zN:=zU;have zWt:=yc;have zzV:=xJ;have kR:=jI;have kS:=ZK;clear zh zG zU yc xJ jI ZK;clear hb qo hg))
 repeat (go_quiet (first | ((with_reducible refine qY (N:=2) rfl ?_);(try (refine kG (by rfl) ?_;dsimp only));refine qm ?hg (N:=2) ?hd (cs:=#[.int .i64 ze,.int .i64 zn,.int .i64 zi,.int .i64 yJ,.string zS,.string yQ,.slice qd yx.length qg]) (t:=53) ?hr ?_;(case hd=>rfl);(case hg=>rfl);(case hr=>first | (go_simp;done) | (go_simp;rfl));intro yA hg w4 qo hb;have zh:=zk.mk (zF (zM HB.out) hb);have zG:=zk.mk (qo);have zU:=zk.mk ((by rw [hg];exact (zI (zM HB.out)):w.heap.size ≤ yA));have yc:=zk.mk ((by rw [hg];exact (zI (zM HB.out)):w.heap.size ≤ yA));clear HB;have HB:=zh;have zB:=zG;have zWs:=zU;have zzJ:=yc;clear zh zG zU yc;clear hb qo hg) | ((with_reducible refine qY (N:=3) rfl ?_);(try (refine kG (by rfl) ?_;dsimp only));refine qm ?hg (N:=3) ?hd (cs:=#[.int .i64 xG,.int .i64 xH,.int .i64 xR,.int .i64 xS,.string vT,.string vU,.slice Xt xL.length Xu]) (t:=53) ?hr ?_;(case hd=>rfl);(case hg=>rfl);(case hr=>first | (go_simp;done) | (go_simp;rfl));intro yS hg w5 qo hb;have zh:=zk.mk (yY (g:=yA) (o:=.cells #[.int .i64 ze,.int .i64 zn,.int .i64 zi,.int .i64 yJ,.string zS,.string yQ,.slice qd yx.length qg] 53 (0,0)) (vK zB.out) hb);have zG:=zk.mk (zF (zM HB.out) hb);have zU:=zk.mk (qo);have yc:=zk.mk ((by rw [hg];exact (zI (zM HB.out)):w.heap.size ≤ yS));have xJ:=zk.mk ((by rw [hg];exact (zI (zM HB.out)):w.heap.size ≤ yS));have jI:=zk.mk ((by rw [hg];exact Nat.ne_of_lt (Zk (g:=yA) (o:=.cells #[.int .i64 ze,.int .i64 zn,.int .i64 zi,.int .i64 yJ,.string zS,.string yQ,.slice qd yx.length qg] 53 (0,0)) (vK zB.out)):yA ≠ yS));have ZK:=zk.mk ((by rw [hg];exact Nat.ne_of_gt (Zk (g:=yA) (o:=.cells #[.int .i64 ze,.int .i64 zn,.int .i64 zi,.int .i64 yJ,.string zS,.string yQ,.slice qd yx.length qg] 53 (0,0)) (vK zB.out)):yS ≠ yA));clear zB;clear HB;have zB:=zh;have HB:=zG;have zN:=zU;have zWt:=yc;have zzV:=xJ;have kR:=jI;have kS:=ZK;clear zh zG zU yc xJ jI ZK;clear hb qo hg));go_upto_region 1 with (first | ((with_reducible refine qY (N:=2) rfl ?_);(try (refine kG (by rfl) ?_;dsimp only));refine qm ?hg (N:=2) ?hd (cs:=#[.int .i64 ze,.int .i64 zn,.int .i64 zi,.int .i64 yJ,.string zS,.string yQ,.slice qd yx.length qg]) (t:=53) ?hr ?_;(case hd=>rfl);(case hg=>rfl);(case hr=>first | (go_simp;done) | (go_simp;rfl));intro yA hg w4 qo hb;have zh:=zk.mk (zF (zM HB.out) hb);have zG:=zk.mk (qo);have zU:=zk.mk ((by rw [hg];exact (zI (zM HB.out)):w.heap.size ≤ yA));have yc:=zk.mk ((by rw [hg];exact (zI (zM HB.out)):w.heap.size ≤ yA));clear HB;have HB:=zh;have zB:=zG;have zWs:=zU;have zzJ:=yc;clear zh zG zU yc;clear hb qo hg) | ((with_reducible refine qY (N:=3) rfl ?_);(try (refine kG (by rfl) ?_;dsimp only));refine qm ?hg (N:=3) ?hd (cs:=#[.int .i64 xG,.int .i64 xH,.int .i64 xR,.int .i64 xS,.string vT,.string vU,.slice Xt xL.length Xu]) (t:=53) ?hr ?_;(case hd=>rfl);(case hg=>rfl);(case hr=>first | (go_simp;done) | (go_simp;rfl));intro yS hg w5 qo hb;have zh:=zk.mk (yY (g:=yA) (o:=.cells #[.int .i64 ze,.int .i64 zn,.int .i64 zi,.int .i64 yJ,.string zS,.string yQ,.slice qd yx.length qg] 53 (0,0)) (vK zB.out) hb);have zG:=zk.mk (zF (zM HB.out) hb);have zU:=zk.mk (qo);have yc:=zk.mk ((by rw [hg];exact (zI (zM HB.out)):w.heap.size ≤ yS));have xJ:=zk.mk ((by rw [hg];exact (zI (zM HB.out)):w.heap.size ≤ yS));have jI:=zk.mk ((by rw [hg];exact Nat.ne_of_lt (Zk (g:=yA) (o:=.cells #[.int .i64 ze,.int .i64 zn,.int .i64 zi,.int .i64 yJ,.string zS,.string yQ,.slice qd yx.length qg] 53 (0,0)) (vK zB.out)):yA ≠ yS));have ZK:=zk.mk ((by rw [hg];exact Nat.ne_of_gt (Zk (g:=yA) (o:=.cells #[.int .i64 ze,.int .i64 zn,.int .i64 zi,.int .i64 yJ,.string zS,.string yQ,.slice qd yx.length qg] 53 (0,0)) (vK zB.out)):yS ≠ yA));clear zB;clear HB;have zB:=zh;have HB:=zG;have zN:=zU;have zWt:=yc;have zzV:=xJ;have kR:=jI;have kS:=ZK;clear zh zG zU yc xJ jI ZK;clear hb qo hg)))
 (try simp only [Act.put,List.setIfInBounds_toArray,List.set_cons_zero,List.set_cons_succ])
 go_cut [54] (fun v54 wc=>∃ (kq:Nat) (zvg:Bool),v54 = .bool zvg ∧ zk (zH.j0 kq zvg ze zn zi yJ zS yQ yx xG xH xR xS vT vU xL = some r) ∧ zk (kq ≤ k) ∧ zk (wc.heap[yA]? = some (.cells #[.int .i64 ze,.int .i64 zn,.int .i64 zi,.int .i64 yJ,.string zS,.string yQ,(.slice qd yx.length qg)] 53 (0,0))) ∧ zk (wc.heap[yS]? = some (.cells #[.int .i64 xG,.int .i64 xH,.int .i64 xR,.int .i64 xS,.string vT,.string vU,(.slice Xt xL.length Xu)] 53 (0,0))) ∧ zk (Below w.heap.size w wc))
 case first =>
  have H:=JV.out
  clear JV
  by_cases c6:ze = xG
  ·rw [if_pos c6] at H
   have Zx:(ze == xG) = true:=beq_iff_eq.mpr c6
   have zxK:(ze != xG) = false:=bne_eq_false_iff_eq.mpr c6
   clear c6
   (first | rw [Zx] | (simp only [qR,qU];rw [Zx]) | skip)
   by_cases c7:zn = xH
   ·rw [if_pos c7] at H
    have Jf:(zn == xH) = true:=beq_iff_eq.mpr c7
    have zkb:(zn != xH) = false:=bne_eq_false_iff_eq.mpr c7
    clear c7
    by_cases c8:zi = xR
    ·rw [if_pos c8] at H
     have Z8:(zi == xR) = true:=beq_iff_eq.mpr c8
     have iQ:(zi != xR) = false:=bne_eq_false_iff_eq.mpr c8
     clear c8
     by_cases c9:yJ = xS
     ·rw [if_pos c9] at H
      have eB:(yJ == xS) = true:=beq_iff_eq.mpr c9
      have zJc:(yJ != xS) = false:=bne_eq_false_iff_eq.mpr c9
      clear c9
      by_cases c10:zS.toList = vT.toList
      ·rw [if_pos c10] at H
       have zvf:(zS.toList == vT.toList) = true:=beq_iff_eq.mpr c10
       have zJe:(zS.toList != vT.toList) = false:=bne_eq_false_iff_eq.mpr c10
       clear c10
       by_cases c11:yQ.toList = vU.toList
       ·rw [if_pos c11] at H
        have Yn:(yQ.toList == vU.toList) = true:=beq_iff_eq.mpr c11
        have JB:(yQ.toList != vU.toList) = false:=bne_eq_false_iff_eq.mpr c11
        clear c11
        have H':=zk.mk H
        clear H
        have zo0:=kR.out
        have zo1:=kS.out
        have zx5:w5.cell? ⟨yA,0,none⟩ = some (.int .i64 ze):=zK zB 0
        have zx6:w5.cell? ⟨yA,1,none⟩ = some (.int .i64 zn):=zK zB 1
        have zx7:w5.cell? ⟨yA,2,none⟩ = some (.int .i64 zi):=zK zB 2
        have zx8:w5.cell? ⟨yA,3,none⟩ = some (.int .i64 yJ):=zK zB 3
        have zx9:w5.cell? ⟨yA,4,none⟩ = some (.string zS):=zK zB 4
        have zjz:w5.cell? ⟨yA,5,none⟩ = some (.string yQ):=zK zB 5
        have zjq:w5.cell? ⟨yA,6,none⟩ = some (.slice qd yx.length qg):=zK zB 6
        have zjx:=zy zB.out 0
        have zjj:=zy zB.out 1
        have zjv:=zy zB.out 2
        have zjk:=zy zB.out 3
        have zjy:=zy zB.out 4
        have zjw:=zy zB.out 5
        have zjZ:=zy zB.out 6
        have Y7:w5.cell? ⟨yS,0,none⟩ = some (.int .i64 xG):=zK zN 0
        have Y8:w5.cell? ⟨yS,1,none⟩ = some (.int .i64 xH):=zK zN 1
        have Y9:w5.cell? ⟨yS,2,none⟩ = some (.int .i64 xR):=zK zN 2
        have Xz:w5.cell? ⟨yS,3,none⟩ = some (.int .i64 xS):=zK zN 3
        have Xq:w5.cell? ⟨yS,4,none⟩ = some (.string vT):=zK zN 4
        have Xx:w5.cell? ⟨yS,5,none⟩ = some (.string vU):=zK zN 5
        have QD:w5.cell? ⟨yS,6,none⟩ = some (.slice Xt xL.length Xu):=zK zN 6
        have Xj:=zy zN.out 0
        have Xv:=zy zN.out 1
        have Xk:=zy zN.out 2
        have Xy:=zy zN.out 3
        have Xw:=zy zN.out 4
        have XZ:=zy zN.out 5
        have QE:=zy zN.out 6
        go_wp2
        repeat (go_quiet (fail);try go_wp2)
        go_meet
        case rel=>exact ⟨_,(((yx.length:Int) != (xL.length:Int))),(by first | rfl | (simp;done) | (simp [*];done)),H',⟨by first | omega | exact Nat.le_refl _⟩,⟨vK zB.out⟩,⟨vK zN.out⟩,⟨zM HB.out⟩⟩
       ·rw [if_neg c11] at H
        have Yn:(yQ.toList == vU.toList) = false:=beq_eq_false_iff_ne.mpr c11
        have JB:(yQ.toList != vU.toList) = true:=bne_iff_ne.mpr c11
        have H':=zk.mk H
        clear H
        have zo2:=kR.out
        have zo3:=kS.out
        have sW:w5.cell? ⟨yA,0,none⟩ = some (.int .i64 ze):=zK zB 0
        have su:w5.cell? ⟨yA,1,none⟩ = some (.int .i64 zn):=zK zB 1
        have sD:w5.cell? ⟨yA,2,none⟩ = some (.int .i64 zi):=zK zB 2
        have sF:w5.cell? ⟨yA,3,none⟩ = some (.int .i64 yJ):=zK zB 3
        have sG:w5.cell? ⟨yA,4,none⟩ = some (.string zS):=zK zB 4
        have sH:w5.cell? ⟨yA,5,none⟩ = some (.string yQ):=zK zB 5
        have zjQ:w5.cell? ⟨yA,6,none⟩ = some (.slice qd yx.length qg):=zK zB 6
        have sI:=zy zB.out 0
        have sM:=zy zB.out 1
        have sN:=zy zB.out 2
        have sO:=zy zB.out 3
        have sP:=zy zB.out 4
        have sS:=zy zB.out 5
        have zjX:=zy zB.out 6
        have zZf:w5.cell? ⟨yS,0,none⟩ = some (.int .i64 xG):=zK zN 0
        have zZg:w5.cell? ⟨yS,1,none⟩ = some (.int .i64 xH):=zK zN 1
        have zZh:w5.cell? ⟨yS,2,none⟩ = some (.int .i64 xR):=zK zN 2
        have zZi:w5.cell? ⟨yS,3,none⟩ = some (.int .i64 xS):=zK zN 3
        have zZl:w5.cell? ⟨yS,4,none⟩ = some (.string vT):=zK zN 4
        have zZm:w5.cell? ⟨yS,5,none⟩ = some (.string vU):=zK zN 5
        have zZn:w5.cell? ⟨yS,6,none⟩ = some (.slice Xt xL.length Xu):=zK zN 6
        have zZo:=zy zN.out 0
        have zZp:=zy zN.out 1
        have zZr:=zy zN.out 2
        have zZs:=zy zN.out 3
        have zZt:=zy zN.out 4
        have zZu:=zy zN.out 5
        have zZA:=zy zN.out 6
        go_wp2
        repeat (go_quiet (fail);try go_wp2)
        go_meet
        case rel=>exact ⟨_,(true),(by first | rfl | (simp;done) | (simp [*];done)),H',⟨by first | omega | exact Nat.le_refl _⟩,⟨vK zB.out⟩,⟨vK zN.out⟩,⟨zM HB.out⟩⟩
      ·rw [if_neg c10] at H
       have zvf:(zS.toList == vT.toList) = false:=beq_eq_false_iff_ne.mpr c10
       have zJe:(zS.toList != vT.toList) = true:=bne_iff_ne.mpr c10
       have H':=zk.mk H
       clear H
       have zo4:=kR.out
       have zo5:=kS.out
       have QF:w5.cell? ⟨yA,0,none⟩ = some (.int .i64 ze):=zK zB 0
       have QG:w5.cell? ⟨yA,1,none⟩ = some (.int .i64 zn):=zK zB 1
       have QH:w5.cell? ⟨yA,2,none⟩ = some (.int .i64 zi):=zK zB 2
       have QI:w5.cell? ⟨yA,3,none⟩ = some (.int .i64 yJ):=zK zB 3
       have QL:w5.cell? ⟨yA,4,none⟩ = some (.string zS):=zK zB 4
       have QM:w5.cell? ⟨yA,5,none⟩ = some (.string yQ):=zK zB 5
       have QN:w5.cell? ⟨yA,6,none⟩ = some (.slice qd yx.length qg):=zK zB 6
       have QO:=zy zB.out 0
       have QS:=zy zB.out 1
       have QT:=zy zB.out 2
       have QU:=zy zB.out 3
       have Q0:=zy zB.out 4
       have Q5:=zy zB.out 5
       have Q6:=zy zB.out 6
       have Ql:w5.cell? ⟨yS,0,none⟩ = some (.int .i64 xG):=zK zN 0
       have Qm:w5.cell? ⟨yS,1,none⟩ = some (.int .i64 xH):=zK zN 1
       have Qn:w5.cell? ⟨yS,2,none⟩ = some (.int .i64 xR):=zK zN 2
       have Qo:w5.cell? ⟨yS,3,none⟩ = some (.int .i64 xS):=zK zN 3
       have Qp:w5.cell? ⟨yS,4,none⟩ = some (.string vT):=zK zN 4
       have Qr:w5.cell? ⟨yS,5,none⟩ = some (.string vU):=zK zN 5
       have Ua:w5.cell? ⟨yS,6,none⟩ = some (.slice Xt xL.length Xu):=zK zN 6
       have Qs:=zy zN.out 0
       have Qt:=zy zN.out 1
       have Qu:=zy zN.out 2
       have QA:=zy zN.out 3
       have QB:=zy zN.out 4
       have QC:=zy zN.out 5
       have Ub:=zy zN.out 6
       go_wp2
       repeat (go_quiet (fail);try go_wp2)
       go_meet
       case rel=>exact ⟨_,(true),(by first | rfl | (simp;done) | (simp [*];done)),H',⟨by first | omega | exact Nat.le_refl _⟩,⟨vK zB.out⟩,⟨vK zN.out⟩,⟨zM HB.out⟩⟩
     ·rw [if_neg c9] at H
      have eB:(yJ == xS) = false:=beq_eq_false_iff_ne.mpr c9
      have zJc:(yJ != xS) = true:=bne_iff_ne.mpr c9
      have H':=zk.mk H
      clear H
      have zo6:=kR.out
      have zo7:=kS.out
      have zZB:w5.cell? ⟨yA,0,none⟩ = some (.int .i64 ze):=zK zB 0
      have zZC:w5.cell? ⟨yA,1,none⟩ = some (.int .i64 zn):=zK zB 1
      have zZD:w5.cell? ⟨yA,2,none⟩ = some (.int .i64 zi):=zK zB 2
      have zZE:w5.cell? ⟨yA,3,none⟩ = some (.int .i64 yJ):=zK zB 3
      have zZF:w5.cell? ⟨yA,4,none⟩ = some (.string zS):=zK zB 4
      have zZG:w5.cell? ⟨yA,5,none⟩ = some (.string yQ):=zK zB 5
      have zZH:w5.cell? ⟨yA,6,none⟩ = some (.slice qd yx.length qg):=zK zB 6
      have zZI:=zy zB.out 0
      have zZL:=zy zB.out 1
      have zZM:=zy zB.out 2
      have zZN:=zy zB.out 3
      have zZO:=zy zB.out 4
      have zZP:=zy zB.out 5
      have zZR:=zy zB.out 6
      have zzI:w5.cell? ⟨yS,0,none⟩ = some (.int .i64 xG):=zK zN 0
      have zzL:w5.cell? ⟨yS,1,none⟩ = some (.int .i64 xH):=zK zN 1
      have zzM:w5.cell? ⟨yS,2,none⟩ = some (.int .i64 xR):=zK zN 2
      have zzN:w5.cell? ⟨yS,3,none⟩ = some (.int .i64 xS):=zK zN 3
      have zzO:w5.cell? ⟨yS,4,none⟩ = some (.string vT):=zK zN 4
      have zzP:w5.cell? ⟨yS,5,none⟩ = some (.string vU):=zK zN 5
      have zZS:w5.cell? ⟨yS,6,none⟩ = some (.slice Xt xL.length Xu):=zK zN 6
      have zzR:=zy zN.out 0
      have zzS:=zy zN.out 1
      have zzT:=zy zN.out 2
      have zzU:=zy zN.out 3
      have zz0:=zy zN.out 4
      have zz1:=zy zN.out 5
      have zZT:=zy zN.out 6
      go_wp2
      repeat (go_quiet (fail);try go_wp2)
      go_meet
      case rel=>exact ⟨_,(true),(by first | rfl | (simp;done) | (simp [*];done)),H',⟨by first | omega | exact Nat.le_refl _⟩,⟨vK zB.out⟩,⟨vK zN.out⟩,⟨zM HB.out⟩⟩
    ·rw [if_neg c8] at H
     have Z8:(zi == xR) = false:=beq_eq_false_iff_ne.mpr c8
     have iQ:(zi != xR) = true:=bne_iff_ne.mpr c8
     have H':=zk.mk H
     clear H
     have zo8:=kR.out
     have zo9:=kS.out
     have zZU:w5.cell? ⟨yA,0,none⟩ = some (.int .i64 ze):=zK zB 0
     have zZ0:w5.cell? ⟨yA,1,none⟩ = some (.int .i64 zn):=zK zB 1
     have zZ1:w5.cell? ⟨yA,2,none⟩ = some (.int .i64 zi):=zK zB 2
     have zZ2:w5.cell? ⟨yA,3,none⟩ = some (.int .i64 yJ):=zK zB 3
     have zZ3:w5.cell? ⟨yA,4,none⟩ = some (.string zS):=zK zB 4
     have zZ4:w5.cell? ⟨yA,5,none⟩ = some (.string yQ):=zK zB 5
     have zZ5:w5.cell? ⟨yA,6,none⟩ = some (.slice qd yx.length qg):=zK zB 6
     have zZ6:=zy zB.out 0
     have zZ7:=zy zB.out 1
     have zZ8:=zy zB.out 2
     have zZ9:=zy zB.out 3
     have zQz:=zy zB.out 4
     have zQq:=zy zB.out 5
     have zQx:=zy zB.out 6
     have zQj:w5.cell? ⟨yS,0,none⟩ = some (.int .i64 xG):=zK zN 0
     have zQv:w5.cell? ⟨yS,1,none⟩ = some (.int .i64 xH):=zK zN 1
     have zQk:w5.cell? ⟨yS,2,none⟩ = some (.int .i64 xR):=zK zN 2
     have zQy:w5.cell? ⟨yS,3,none⟩ = some (.int .i64 xS):=zK zN 3
     have zQw:w5.cell? ⟨yS,4,none⟩ = some (.string vT):=zK zN 4
     have zQZ:w5.cell? ⟨yS,5,none⟩ = some (.string vU):=zK zN 5
     have zQQ:w5.cell? ⟨yS,6,none⟩ = some (.slice Xt xL.length Xu):=zK zN 6
     have zQX:=zy zN.out 0
     have zQJ:=zy zN.out 1
     have zQV:=zy zN.out 2
     have zQK:=zy zN.out 3
     have zQY:=zy zN.out 4
     have zQW:=zy zN.out 5
     have zQa:=zy zN.out 6
     go_wp2
     repeat (go_quiet (fail);try go_wp2)
     go_meet
     case rel=>exact ⟨_,(true),(by first | rfl | (simp;done) | (simp [*];done)),H',⟨by first | omega | exact Nat.le_refl _⟩,⟨vK zB.out⟩,⟨vK zN.out⟩,⟨zM HB.out⟩⟩
   ·rw [if_neg c7] at H
    have Jf:(zn == xH) = false:=beq_eq_false_iff_ne.mpr c7
    have zkb:(zn != xH) = true:=bne_iff_ne.mpr c7
    have H':=zk.mk H
    clear H
    have zpz:=kR.out
    have zpq:=kS.out
    have JG:w5.cell? ⟨yA,0,none⟩ = some (.int .i64 ze):=zK zB 0
    have JH:w5.cell? ⟨yA,1,none⟩ = some (.int .i64 zn):=zK zB 1
    have JI:w5.cell? ⟨yA,2,none⟩ = some (.int .i64 zi):=zK zB 2
    have JL:w5.cell? ⟨yA,3,none⟩ = some (.int .i64 yJ):=zK zB 3
    have JM:w5.cell? ⟨yA,4,none⟩ = some (.string zS):=zK zB 4
    have JN:w5.cell? ⟨yA,5,none⟩ = some (.string yQ):=zK zB 5
    have JO:w5.cell? ⟨yA,6,none⟩ = some (.slice qd yx.length qg):=zK zB 6
    have JR:=zy zB.out 0
    have JU:=zy zB.out 1
    have J2:=zy zB.out 2
    have J3:=zy zB.out 3
    have J4:=zy zB.out 4
    have J5:=zy zB.out 5
    have J6:=zy zB.out 6
    have J7:w5.cell? ⟨yS,0,none⟩ = some (.int .i64 xG):=zK zN 0
    have J8:w5.cell? ⟨yS,1,none⟩ = some (.int .i64 xH):=zK zN 1
    have J9:w5.cell? ⟨yS,2,none⟩ = some (.int .i64 xR):=zK zN 2
    have Kz:w5.cell? ⟨yS,3,none⟩ = some (.int .i64 xS):=zK zN 3
    have Kq:w5.cell? ⟨yS,4,none⟩ = some (.string vT):=zK zN 4
    have Kj:w5.cell? ⟨yS,5,none⟩ = some (.string vU):=zK zN 5
    have Kv:w5.cell? ⟨yS,6,none⟩ = some (.slice Xt xL.length Xu):=zK zN 6
    have Kk:=zy zN.out 0
    have Ky:=zy zN.out 1
    have Kw:=zy zN.out 2
    have KZ:=zy zN.out 3
    have KQ:=zy zN.out 4
    have KX:=zy zN.out 5
    have KJ:=zy zN.out 6
    go_wp2
    repeat (go_quiet (fail);try go_wp2)
    go_meet
    case rel=>exact ⟨_,(true),(by first | rfl | (simp;done) | (simp [*];done)),H',⟨by first | omega | exact Nat.le_refl _⟩,⟨vK zB.out⟩,⟨vK zN.out⟩,⟨zM HB.out⟩⟩
  ·rw [if_neg c6] at H
   have Zx:(ze == xG) = false:=beq_eq_false_iff_ne.mpr c6
   have zxK:(ze != xG) = true:=bne_iff_ne.mpr c6
   (first | rw [Zx] | (simp only [qR,qU];rw [Zx]) | skip)
   have H':=zk.mk H
   clear H
   have zpx:=kR.out
   have zpj:=kS.out
   have zQb:w5.cell? ⟨yA,0,none⟩ = some (.int .i64 ze):=zK zB 0
   have zQc:w5.cell? ⟨yA,1,none⟩ = some (.int .i64 zn):=zK zB 1
   have zQd:w5.cell? ⟨yA,2,none⟩ = some (.int .i64 zi):=zK zB 2
   have zQe:w5.cell? ⟨yA,3,none⟩ = some (.int .i64 yJ):=zK zB 3
   have zQf:w5.cell? ⟨yA,4,none⟩ = some (.string zS):=zK zB 4
   have zQg:w5.cell? ⟨yA,5,none⟩ = some (.string yQ):=zK zB 5
   have zQh:w5.cell? ⟨yA,6,none⟩ = some (.slice qd yx.length qg):=zK zB 6
   have zQi:=zy zB.out 0
   have zQl:=zy zB.out 1
   have zQm:=zy zB.out 2
   have zQn:=zy zB.out 3
   have zQo:=zy zB.out 4
   have zQp:=zy zB.out 5
   have zQr:=zy zB.out 6
   have zQs:w5.cell? ⟨yS,0,none⟩ = some (.int .i64 xG):=zK zN 0
   have zQt:w5.cell? ⟨yS,1,none⟩ = some (.int .i64 xH):=zK zN 1
   have zQu:w5.cell? ⟨yS,2,none⟩ = some (.int .i64 xR):=zK zN 2
   have zQA:w5.cell? ⟨yS,3,none⟩ = some (.int .i64 xS):=zK zN 3
   have zQB:w5.cell? ⟨yS,4,none⟩ = some (.string vT):=zK zN 4
   have zQC:w5.cell? ⟨yS,5,none⟩ = some (.string vU):=zK zN 5
   have zQD:w5.cell? ⟨yS,6,none⟩ = some (.slice Xt xL.length Xu):=zK zN 6
   have zQE:=zy zN.out 0
   have zQF:=zy zN.out 1
   have zQG:=zy zN.out 2
   have zQH:=zy zN.out 3
   have zQI:=zy zN.out 4
   have zQL:=zy zN.out 5
   have zQM:=zy zN.out 6
   go_wp2
   repeat (go_quiet (fail);try go_wp2)
   go_meet
   case rel=>exact ⟨_,(true),(by first | rfl | (simp;done) | (simp [*];done)),H',⟨by first | omega | exact Nat.le_refl _⟩,⟨vK zB.out⟩,⟨vK zN.out⟩,⟨zM HB.out⟩⟩
 case rest =>
  clear JV
  try clear c6
  try clear Zx
  try clear zxK
  try clear c7
  try clear Jf
  try clear zkb
  try clear c8
  try clear Z8
  try clear iQ
  try clear c9
  try clear eB
  try clear zJc
  try clear c10
  try clear zvf
  try clear zJe
  try clear c11
  try clear Yn
  try clear JB
  try clear zx5
  try clear zx6
  try clear zx7
  try clear zx8
  try clear zx9
  try clear zjz
  try clear zjq
  try clear Y7
  try clear Y8
  try clear Y9
  try clear Xz
  try clear Xq
  try clear Xx
  try clear QD
  try clear sW
  try clear su
  try clear sD
  try clear sF
  try clear sG
  try clear sH
  try clear zjQ
  try clear zZf
  try clear zZg
  try clear zZh
  try clear zZi
  try clear zZl
  try clear zZm
  try clear zZn
  try clear QF
  try clear QG
  try clear QH
  try clear QI
  try clear QL
  try clear QM
  try clear QN
  try clear Ql
  try clear Qm
  try clear Qn
  try clear Qo
  try clear Qp
  try clear Qr
  try clear Ua
  try clear zZB
  try clear zZC
  try clear zZD
  try clear zZE
  try clear zZF
  try clear zZG
  try clear zZH
  try clear zzI
  try clear zzL
  try clear zzM
  try clear zzN
  try clear zzO
  try clear zzP
  try clear zZS
  try clear zZU
  try clear zZ0
  try clear zZ1
  try clear zZ2
  try clear zZ3
  try clear zZ4
  try clear zZ5
  try clear zQj
  try clear zQv
  try clear zQk
  try clear zQy
  try clear zQw
  try clear zQZ
  try clear zQQ
  try clear JG
  try clear JH
  try clear JI
  try clear JL
  try clear JM
  try clear JN
  try clear JO
  try clear J7
  try clear J8
  try clear J9
  try clear Kz
  try clear Kq
  try clear Kj
  try clear Kv
  try clear zQb
  try clear zQc
  try clear zQd
  try clear zQe
  try clear zQf
  try clear zQg
  try clear zQh
  try clear zQs
  try clear zQt
  try clear zQu
  try clear zQA
  try clear zQB
  try clear zQC
  try clear zQD
  try clear zjx
  try clear zjj
  try clear zjv
  try clear zjk
  try clear zjy
  try clear zjw
  try clear zjZ
  try clear Xj
  try clear Xv
  try clear Xk
  try clear Xy
  try clear Xw
  try clear XZ
  try clear QE
  try clear sI
  try clear sM
  try clear sN
  try clear sO
  try clear sP
  try clear sS
  try clear zjX
  try clear zZo
  try clear zZp
  try clear zZr
  try clear zZs
  try clear zZt
  try clear zZu
  try clear zZA
  try clear QO
  try clear QS
  try clear QT
  try clear QU
  try clear Q0
  try clear Q5
  try clear Q6
  try clear Qs
  try clear Qt
  try clear Qu
  try clear QA
  try clear QB
  try clear QC
  try clear Ub
  try clear zZI
  try clear zZL
  try clear zZM
  try clear zZN
  try clear zZO
  try clear zZP
  try clear zZR
  try clear zzR
  try clear zzS
  try clear zzT
  try clear zzU
  try clear zz0
  try clear zz1
  try clear zZT
  try clear zZ6
  try clear zZ7
  try clear zZ8
  try clear zZ9
  try clear zQz
  try clear zQq
  try clear zQx
  try clear zQX
  try clear zQJ
  try clear zQV
  try clear zQK
  try clear zQY
  try clear zQW
  try clear zQa
  try clear JR
  try clear JU
  try clear J2
  try clear J3
  try clear J4
  try clear J5
  try clear J6
  try clear Kk
  try clear Ky
  try clear Kw
  try clear KZ
  try clear KQ
  try clear KX
  try clear KJ
  try clear zQi
  try clear zQl
  try clear zQm
  try clear zQn
  try clear zQo
  try clear zQp
  try clear zQr
  try clear zQE
  try clear zQF
  try clear zQG
  try clear zQH
  try clear zQI
  try clear zQL
  try clear zQM
  obtain ⟨kq,zvg,rfl,HA,HJ2,zB,zN,HB⟩:=hcut
  cases kq with
  | zero=>exact absurd HA.out (by simp [zH.j0])
  | succ WM =>
   have H:=HA.out
   clear HA
   simp only [zH.j0] at H
   by_cases c33:zvg = true
   ·subst c33
    have H1:(some false) = some r:=by rw [if_pos rfl] at H;exact H
    clear H
    have H:=H1
    clear H1
    obtain rfl:=Option.some.inj H
    go_wp2
    repeat (go_quiet (fail);try go_wp2)
    go_ret
    exact ⟨by first | rfl | (simp [zl,zm] <;> rfl) | (simp [*,zl,zm] <;> rfl),by repeat (first | (with_reducible first | exact HB.out | apply zO | apply zC | apply zP | refine qw ?_ zzJ.out | refine qw ?_ zzV.out) | exact HB.out)⟩
   ·replace c33:=Bool.eq_false_iff.mpr c33
    subst c33
    have H1:(zH.l0 WM 0 ze zn zi yJ zS yQ yx xG xH xR xS vT vU xL) = some r:=by rw [if_neg (show ¬ (false = true) by decide)] at H;exact H
    clear H
    have H:=H1
    clear H1
    have H':=zk.mk H
    clear H
    go_wp2
    repeat (go_quiet (fail);try go_wp2)
    go_loopg [5] WM (fun kq v5 w'=>∃ (jF:Int),v5 = .int .i64 jF ∧ zk (zH.l0 kq jF ze zn zi yJ zS yQ yx xG xH xR xS vT vU xL = some r) ∧ zk (kq ≤ WM) ∧ zk (w'.heap[yA]? = some (.cells #[.int .i64 ze,.int .i64 zn,.int .i64 zi,.int .i64 yJ,.string zS,.string yQ,(.slice qd yx.length qg)] 53 (0,0))) ∧ zk (w'.heap[yS]? = some (.cells #[.int .i64 xG,.int .i64 xH,.int .i64 xR,.int .i64 xS,.string vT,.string vU,(.slice Xt xL.length Xu)] 53 (0,0))) ∧ zk (Below w.heap.size w w'))
    case atStart=>exact ⟨(0),(by first | rfl | (simp;done) | (simp [*];done)),H',⟨Nat.le_refl _⟩,⟨vK zB.out⟩,⟨vK zN.out⟩,⟨zM HB.out⟩⟩
    case round =>
     clear H'
     try clear c6
     try clear Zx
     try clear zxK
     try clear c7
     try clear Jf
     try clear zkb
     try clear c8
     try clear Z8
     try clear iQ
     try clear c9
     try clear eB
     try clear zJc
     try clear c10
     try clear zvf
     try clear zJe
     try clear c11
     try clear Yn
     try clear JB
     try clear c33
     try clear zx5
     try clear zx6
     try clear zx7
     try clear zx8
     try clear zx9
     try clear zjz
     try clear zjq
     try clear Y7
     try clear Y8
     try clear Y9
     try clear Xz
     try clear Xq
     try clear Xx
     try clear QD
     try clear sW
     try clear su
     try clear sD
     try clear sF
     try clear sG
     try clear sH
     try clear zjQ
     try clear zZf
     try clear zZg
     try clear zZh
     try clear zZi
     try clear zZl
     try clear zZm
     try clear zZn
     try clear QF
     try clear QG
     try clear QH
     try clear QI
     try clear QL
     try clear QM
     try clear QN
     try clear Ql
     try clear Qm
     try clear Qn
     try clear Qo
     try clear Qp
     try clear Qr
     try clear Ua
     try clear zZB
     try clear zZC
     try clear zZD
     try clear zZE
     try clear zZF
     try clear zZG
     try clear zZH
     try clear zzI
     try clear zzL
     try clear zzM
     try clear zzN
     try clear zzO
     try clear zzP
     try clear zZS
     try clear zZU
     try clear zZ0
     try clear zZ1
     try clear zZ2
     try clear zZ3
     try clear zZ4
     try clear zZ5
     try clear zQj
     try clear zQv
     try clear zQk
     try clear zQy
     try clear zQw
     try clear zQZ
     try clear zQQ
     try clear JG
     try clear JH
     try clear JI
     try clear JL
     try clear JM
     try clear JN
     try clear JO
     try clear J7
     try clear J8
     try clear J9
     try clear Kz
     try clear Kq
     try clear Kj
     try clear Kv
     try clear zQb
     try clear zQc
     try clear zQd
     try clear zQe
     try clear zQf
     try clear zQg
     try clear zQh
     try clear zQs
     try clear zQt
     try clear zQu
     try clear zQA
     try clear zQB
     try clear zQC
     try clear zQD
     try clear zjx
     try clear zjj
     try clear zjv
     try clear zjk
     try clear zjy
     try clear zjw
     try clear zjZ
     try clear Xj
     try clear Xv
     try clear Xk
     try clear Xy
     try clear Xw
     try clear XZ
     try clear QE
     try clear sI
     try clear sM
     try clear sN
     try clear sO
     try clear sP
     try clear sS
     try clear zjX
     try clear zZo
     try clear zZp
     try clear zZr
     try clear zZs
     try clear zZt
     try clear zZu
     try clear zZA
     try clear QO
     try clear QS
     try clear QT
     try clear QU
     try clear Q0
     try clear Q5
     try clear Q6
     try clear Qs
     try clear Qt
     try clear Qu
     try clear QA
     try clear QB
     try clear QC
     try clear Ub
     try clear zZI
     try clear zZL
     try clear zZM
     try clear zZN
     try clear zZO
     try clear zZP
     try clear zZR
     try clear zzR
     try clear zzS
     try clear zzT
     try clear zzU
     try clear zz0
     try clear zz1
     try clear zZT
     try clear zZ6
     try clear zZ7
     try clear zZ8
     try clear zZ9
     try clear zQz
     try clear zQq
     try clear zQx
     try clear zQX
     try clear zQJ
     try clear zQV
     try clear zQK
     try clear zQY
     try clear zQW
     try clear zQa
     try clear JR
     try clear JU
     try clear J2
     try clear J3
     try clear J4
     try clear J5
     try clear J6
     try clear Kk
     try clear Ky
     try clear Kw
     try clear KZ
     try clear KQ
     try clear KX
     try clear KJ
     try clear zQi
     try clear zQl
     try clear zQm
     try clear zQn
     try clear zQo
     try clear zQp
     try clear zQr
     try clear zQE
     try clear zQF
     try clear zQG
     try clear zQH
     try clear zQI
     try clear zQL
     try clear zQM
     obtain ⟨jF,rfl,HA,HK2,zB,zN,HB⟩:=hrel
     cases gk with
     | zero=>exact absurd HA.out (by simp [zH.l0])
     | succ k2 =>
      have H:=HA.out
      clear HA
      simp only [zH.l0] at H
      by_cases c34:jF < (yx.length:Int)
      ·rw [if_pos c34] at H
       have zWu:decide (jF < (yx.length:Int)) = true:=decide_eq_true c34
       clear c34
       by_cases c35:0 ≤ jF
       ·rw [if_pos c35] at H
        have zpv:decide (0 ≤ jF) = true:=decide_eq_true c35
        clear c35
        by_cases c36:jF < (xL.length:Int)
        ·rw [if_pos c36] at H
         have zpk:decide (jF < (xL.length:Int)) = true:=decide_eq_true c36
         clear c36
         by_cases c37:(rd yx jF) = (rd xL jF)
         ·rw [if_pos c37] at H
          have zfo:((rd yx jF) == (rd xL jF)) = true:=beq_iff_eq.mpr c37
          have zfp:((rd yx jF) != (rd xL jF)) = false:=bne_eq_false_iff_eq.mpr c37
          clear c37
          have H':=zk.mk H
          clear H
          have zpy:=kR.out
          have zpw:=kS.out
          have zmE:wr.cell? ⟨yA,0,none⟩ = some (.int .i64 ze):=zK zB 0
          have zmF:wr.cell? ⟨yA,1,none⟩ = some (.int .i64 zn):=zK zB 1
          have zmG:wr.cell? ⟨yA,2,none⟩ = some (.int .i64 zi):=zK zB 2
          have zmH:wr.cell? ⟨yA,3,none⟩ = some (.int .i64 yJ):=zK zB 3
          have zmI:wr.cell? ⟨yA,4,none⟩ = some (.string zS):=zK zB 4
          have zmL:wr.cell? ⟨yA,5,none⟩ = some (.string yQ):=zK zB 5
          have zmM:wr.cell? ⟨yA,6,none⟩ = some (.slice qd yx.length qg):=zK zB 6
          have zmN:=zy zB.out 0
          have zmO:=zy zB.out 1
          have zmP:=zy zB.out 2
          have zmR:=zy zB.out 3
          have zmS:=zy zB.out 4
          have zmT:=zy zB.out 5
          have zmU:=zy zB.out 6
          have iO:0 ≤ (jF:Int):=of_decide_eq_true yj
          have iP:jF < (yx.length:Int):=of_decide_eq_true yj
          obtain ⟨zfr,e291,Uh⟩:=Kd.XB gG.out jF iO iP
          cases e291
          replace Uh:=(HB.out.cell (World.block_lt_of_cell? w _ Uh)).trans Uh
          replace iO:=eq_true iO
          replace iP:=eq_true iP
          have zm0:wr.cell? ⟨yS,0,none⟩ = some (.int .i64 xG):=zK zN 0
          have zm1:wr.cell? ⟨yS,1,none⟩ = some (.int .i64 xH):=zK zN 1
          have zm2:wr.cell? ⟨yS,2,none⟩ = some (.int .i64 xR):=zK zN 2
          have zm3:wr.cell? ⟨yS,3,none⟩ = some (.int .i64 xS):=zK zN 3
          have zm4:wr.cell? ⟨yS,4,none⟩ = some (.string vT):=zK zN 4
          have zm5:wr.cell? ⟨yS,5,none⟩ = some (.string vU):=zK zN 5
          have zm6:wr.cell? ⟨yS,6,none⟩ = some (.slice Xt xL.length Xu):=zK zN 6
          have zm7:=zy zN.out 0
          have zm8:=zy zN.out 1
          have zm9:=zy zN.out 2
          have znz:=zy zN.out 3
          have znq:=zy zN.out 4
          have znx:=zy zN.out 5
          have znj:=zy zN.out 6
          have iR:0 ≤ (jF:Int):=of_decide_eq_true yj
          have iT:jF < (xL.length:Int):=of_decide_eq_true yj
          obtain ⟨zfs,zYM,Ui⟩:=Kd.XB zWr.out jF iR iT
          cases zYM
          replace Ui:=(HB.out.cell (World.block_lt_of_cell? w _ Ui)).trans Ui
          replace iR:=eq_true iR
          replace iT:=eq_true iT
          go_wp2
          repeat (go_quiet (fail);try go_wp2)
          go_roundg k2
          case measure=>have:=HJ2.out;have:=HK2.out;omega
          case rel=>exact ⟨(wrap64 (jF + 1)),(by first | rfl | (simp;done) | (simp [*];done)),H',⟨by have:=HJ2.out;have:=HK2.out;omega⟩,⟨vK zB.out⟩,⟨vK zN.out⟩,⟨zM HB.out⟩⟩
         ·rw [if_neg c37] at H
          have zfo:((rd yx jF) == (rd xL jF)) = false:=beq_eq_false_iff_ne.mpr c37
          have zfp:((rd yx jF) != (rd xL jF)) = true:=bne_iff_ne.mpr c37
          obtain rfl:=Option.some.inj H
          have zpZ:=kR.out
          have zpQ:=kS.out
          have znv:wr.cell? ⟨yA,0,none⟩ = some (.int .i64 ze):=zK zB 0
          have znk:wr.cell? ⟨yA,1,none⟩ = some (.int .i64 zn):=zK zB 1
          have zny:wr.cell? ⟨yA,2,none⟩ = some (.int .i64 zi):=zK zB 2
          have znw:wr.cell? ⟨yA,3,none⟩ = some (.int .i64 yJ):=zK zB 3
          have znZ:wr.cell? ⟨yA,4,none⟩ = some (.string zS):=zK zB 4
          have znQ:wr.cell? ⟨yA,5,none⟩ = some (.string yQ):=zK zB 5
          have znX:wr.cell? ⟨yA,6,none⟩ = some (.slice qd yx.length qg):=zK zB 6
          have znJ:=zy zB.out 0
          have znV:=zy zB.out 1
          have znK:=zy zB.out 2
          have znY:=zy zB.out 3
          have znW:=zy zB.out 4
          have zna:=zy zB.out 5
          have znb:=zy zB.out 6
          have iO:0 ≤ (jF:Int):=of_decide_eq_true yj
          have iP:jF < (yx.length:Int):=of_decide_eq_true yj
          obtain ⟨zfr,e291,Uh⟩:=Kd.XB gG.out jF iO iP
          cases e291
          replace Uh:=(HB.out.cell (World.block_lt_of_cell? w _ Uh)).trans Uh
          replace iO:=eq_true iO
          replace iP:=eq_true iP
          have znc:wr.cell? ⟨yS,0,none⟩ = some (.int .i64 xG):=zK zN 0
          have znd:wr.cell? ⟨yS,1,none⟩ = some (.int .i64 xH):=zK zN 1
          have zne:wr.cell? ⟨yS,2,none⟩ = some (.int .i64 xR):=zK zN 2
          have znf:wr.cell? ⟨yS,3,none⟩ = some (.int .i64 xS):=zK zN 3
          have zng:wr.cell? ⟨yS,4,none⟩ = some (.string vT):=zK zN 4
          have znh:wr.cell? ⟨yS,5,none⟩ = some (.string vU):=zK zN 5
          have zni:wr.cell? ⟨yS,6,none⟩ = some (.slice Xt xL.length Xu):=zK zN 6
          have znl:=zy zN.out 0
          have znm:=zy zN.out 1
          have znn:=zy zN.out 2
          have zno:=zy zN.out 3
          have znp:=zy zN.out 4
          have znr:=zy zN.out 5
          have zns:=zy zN.out 6
          have iR:0 ≤ (jF:Int):=of_decide_eq_true yj
          have iT:jF < (xL.length:Int):=of_decide_eq_true yj
          obtain ⟨zfs,zYM,Ui⟩:=Kd.XB zWr.out jF iR iT
          cases zYM
          replace Ui:=(HB.out.cell (World.block_lt_of_cell? w _ Ui)).trans Ui
          replace iR:=eq_true iR
          replace iT:=eq_true iT
          go_wp2
          repeat (go_quiet (fail);try go_wp2)
          go_ret
          exact ⟨by first | rfl | (simp [zl,zm] <;> rfl) | (simp [*,zl,zm] <;> rfl),by repeat (first | (with_reducible first | exact HB.out | apply zO | apply zC | apply zP | refine qw ?_ zzJ.out | refine qw ?_ zzV.out) | exact HB.out)⟩
        ·rw [if_neg c36] at H
         exact absurd H (by simp)
       ·rw [if_neg c35] at H
        exact absurd H (by simp)
      ·rw [if_neg c34] at H
       have zWu:decide (jF < (yx.length:Int)) = false:=decide_eq_false c34
       clear c34
       obtain rfl:=Option.some.inj H
       have zpX:=kR.out
       have zpJ:=kS.out
       have znt:wr.cell? ⟨yA,0,none⟩ = some (.int .i64 ze):=zK zB 0
       have znu:wr.cell? ⟨yA,1,none⟩ = some (.int .i64 zn):=zK zB 1
       have znA:wr.cell? ⟨yA,2,none⟩ = some (.int .i64 zi):=zK zB 2
       have znB:wr.cell? ⟨yA,3,none⟩ = some (.int .i64 yJ):=zK zB 3
       have znC:wr.cell? ⟨yA,4,none⟩ = some (.string zS):=zK zB 4
       have znD:wr.cell? ⟨yA,5,none⟩ = some (.string yQ):=zK zB 5
       have znE:wr.cell? ⟨yA,6,none⟩ = some (.slice qd yx.length qg):=zK zB 6
       have znF:=zy zB.out 0
       have znG:=zy zB.out 1
       have znH:=zy zB.out 2
       have znI:=zy zB.out 3
       have znL:=zy zB.out 4
       have znM:=zy zB.out 5
       have znN:=zy zB.out 6
       go_wp2
       repeat (go_quiet (fail);try go_wp2)
       go_ret
       exact ⟨by first | rfl | (simp [zl,zm] <;> rfl) | (simp [*,zl,zm] <;> rfl),by repeat (first | (with_reducible first | exact HB.out | apply zO | apply zC | apply zP | refine qw ?_ zzJ.out | refine qw ?_ zzV.out) | exact HB.out)⟩
end Go.Proofs.YtggifbbiiickmaaGreatDoor.PX
namespace Go.Proofs.YtggifbbiiickmaaGreatDoor.PX
open Go.RowKit Go.Proofs.zx.zJ Go.Proofs.zx.zu Go.Proofs.zx.zo
attribute [local go_sem] yU y7 qX qJ yM yN y8 y9   -- for this text's walks alone
set_option linter.unusedVariables false
set_option linter.unusedSimpArgs false
def yV.l0:Nat → List (yD) → List (yD) → Int → Option (Bool)
 | 0,_,_,_=>none
 | k + 1,x0,x1,x5=>if x5 < (x0.length:Int) then (if 0 ≤ x5 then (if x5 < (x1.length:Int) then ((zH.f k ((zw x0 x5).f0) ((zw x0 x5).f1) ((zw x0 x5).f2) ((zw x0 x5).f3) ((zw x0 x5).f4) ((zw x0 x5).f5) ((zw x0 x5).f6) ((zw x1 x5).f0) ((zw x1 x5).f1) ((zw x1 x5).f2) ((zw x1 x5).f3) ((zw x1 x5).f4) ((zw x1 x5).f5) ((zw x1 x5).f6)).bind fun zJf=>(if zJf = true then (yV.l0 k x0 x1 (wrap64 (x5 + 1))) else (some false))) else (none)) else (none)) else (some true)
def yV.f (k:Nat) (l0:List (yD)) (l1:List (yD)):Option (Bool):=if (l0.length:Int) = (l1.length:Int) then (yV.l0 k l0 l1 0) else (some false)
def yV.T6:Bool × List (List Nat × List Nat):=(true,[([],[]),([],[]),([0,1],[0,1]),([2],[2]),([],[]),([],[]),([4,5],[4,5]),([6],[6]),([3,7],[3,7]),([8],[8])])
def yV.B6:List Nat:=[0,0,3,7,0,0,48,112,255,511]
theorem yV.zc7:q9 .any (opsOf Tryz.f18 6) = yV.T6:=by kernel_rfl
theorem yV.zWA:xC yV.T6.2 yV.B6 = true:=by kernel_rfl
set_option maxHeartbeats 8000000 in
set_option maxRecDepth 100000 in
theorem yV.calls (k:Nat) (A0:Option Addr) (c0:Nat) (l0:List (yD)) (A1:Option Addr) (c1:Nat) (l1:List (yD)) (r:Bool) (w:World) (hr0:Kd.C qK w A0 l0.length l0) (hc0:l0.length ≤ c0) (hr1:Kd.C qK w A1 l1.length l1) (hc1:l1.length ≤ c1) (h:yV.f k l0 l1 = some r) :
  Calls Tryz.prog 18 #[.slice A0 l0.length c0,.slice A1 l1.length c1] w fun e w'=>e = .returned (.bool r) ∧ Below w.heap.size w w':=by
 have zz5:=Tryz.underlying53
 have qA:=zk.mk hr0
 have YJ:=zk.mk hc0
 clear hr0 hc0
 have HR1:=zk.mk hr1
 have HC1:=zk.mk hc1
 clear hr1 hc1
 have HB:=zk.mk (Below.refl w.heap.size w)
 have H:(if (l0.length:Int) = (l1.length:Int) then (yV.l0 k l0 l1 0) else (some false)) = some r:=h
 clear h
 by_cases c3:(l0.length:Int) = (l1.length:Int)
 ·rw [if_pos c3] at H
  have wR:((l0.length:Int) == (l1.length:Int)) = true:=beq_iff_eq.mpr c3
  have mq:((l0.length:Int) != (l1.length:Int)) = false:=bne_eq_false_iff_eq.mpr c3
  have zc8:(l0.length == l1.length) = true:=by first | simpa using c3 | (simp at c3 ⊢;omega)
  clear c3
  have H':=zk.mk H
  clear H
  go_enter Tryz.func18,Tryz.ntmps18
  go_wp2
  go_loopg [5] k (fun kq v5 w'=>∃ (zf:Int),v5 = .int .i64 zf ∧ zk (yV.l0 kq l0 l1 zf = some r) ∧ zk (kq ≤ k) ∧ zk (Below w.heap.size w w'))
  case atStart=>exact ⟨(0),(by first | rfl | (simp;done) | (simp [*];done)),H',⟨Nat.le_refl _⟩,⟨zM HB.out⟩⟩
  case round =>
   clear H'
   try clear c1
   try clear c3
   try clear wR
   try clear mq
   try clear zc8
   obtain ⟨zf,rfl,HA,vQ,HB⟩:=hrel
   cases gk with
   | zero=>exact absurd HA.out (by simp [yV.l0])
   | succ k1 =>
    have H:=HA.out
    clear HA
    simp only [yV.l0] at H
    by_cases c4:zf < (l0.length:Int)
    ·rw [if_pos c4] at H
     have kD:decide (zf < (l0.length:Int)) = true:=decide_eq_true c4
     clear c4
     by_cases c5:0 ≤ zf
     ·rw [if_pos c5] at H
      have Z9:decide (0 ≤ zf) = true:=decide_eq_true c5
      clear c5
      by_cases c6:zf < (l1.length:Int)
      ·rw [if_pos c6] at H
       have Zx:decide (zf < (l1.length:Int)) = true:=decide_eq_true c6
       clear c6
       replace H:=Option.bind_eq_some_iff.mp H
       obtain ⟨zJf,A70,H⟩:=H
       replace H:(if zJf = true then (yV.l0 k1 l0 l1 (wrap64 (zf + 1))) else (some false)) = some r:=H
       have A7:=zk.mk A70
       clear A70
       by_cases c8:zJf = true
       ·subst c8
        have H1:(yV.l0 k1 l0 l1 (wrap64 (zf + 1))) = some r:=by rw [if_pos rfl] at H;exact H
        clear H
        have H:=H1
        clear H1
        have H':=zk.mk H
        clear H
        try go_wp2
        have zh:=zk.mk (zP HB.out)
        clear HB
        have HB:=zh
        clear zh
        have iU:0 ≤ (zf:Int):=of_decide_eq_true yj
        have lq:zf < (l0.length:Int):=of_decide_eq_true yj
        obtain ⟨jA,rQ,rX,zYN,Zr,Zt,Zu,ZA,ZB,ZC,ZE,dW,dh⟩:=yR qA.out zf iU lq
        have XY:=ZE
        have XW:=ZC
        have Xa:=ZB
        have Xb:=ZA
        have Xc:=Zu
        have Xd:=Zt
        have Xe:=Zr
        cases zYN
        replace Zr:=(HB.out.cell (World.block_lt_of_cell? w _ Zr)).trans Zr
        replace Zt:=(HB.out.cell (World.block_lt_of_cell? w _ Zt)).trans Zt
        replace Zu:=(HB.out.cell (World.block_lt_of_cell? w _ Zu)).trans Zu
        replace ZA:=(HB.out.cell (World.block_lt_of_cell? w _ ZA)).trans ZA
        replace ZB:=(HB.out.cell (World.block_lt_of_cell? w _ ZB)).trans ZB
        replace ZC:=(HB.out.cell (World.block_lt_of_cell? w _ ZC)).trans ZC
        replace ZE:=(HB.out.cell (World.block_lt_of_cell? w _ ZE)).trans ZE
        have dA:=zk.mk dh
        have zjJ:=zk.mk dW
        clear dh dW
        replace iU:=eq_true iU
        replace lq:=eq_true lq
        have lZ:0 ≤ (zf:Int):=of_decide_eq_true yj
        have lQ:zf < (l1.length:Int):=of_decide_eq_true yj
        obtain ⟨jB,rJ,rV,e294,ZF,ZG,ZH,ZI,ZL,ZM,ZN,dB,dD⟩:=yR HR1.out zf lZ lQ
        have Xf:=ZN
        have Xg:=ZM
        have Xh:=ZL
        have Xi:=ZI
        have Xl:=ZH
        have Xm:=ZG
        have Xn:=ZF
        cases e294
        replace ZF:=(HB.out.cell (World.block_lt_of_cell? w _ ZF)).trans ZF
        replace ZG:=(HB.out.cell (World.block_lt_of_cell? w _ ZG)).trans ZG
        replace ZH:=(HB.out.cell (World.block_lt_of_cell? w _ ZH)).trans ZH
        replace ZI:=(HB.out.cell (World.block_lt_of_cell? w _ ZI)).trans ZI
        replace ZL:=(HB.out.cell (World.block_lt_of_cell? w _ ZL)).trans ZL
        replace ZM:=(HB.out.cell (World.block_lt_of_cell? w _ ZM)).trans ZM
        replace ZN:=(HB.out.cell (World.block_lt_of_cell? w _ ZN)).trans ZN
        have dF:=zk.mk dD
        have zjV:=zk.mk dB
        clear dD dB
        replace lZ:=eq_true lZ
        replace lQ:=eq_true lQ
        refine pG (n:=10) (S:=fun w'=>w'.cell? (jA.add ((zf).toNat * 7)) = some (.int .i64 ((zw l0 zf).f0)) ∧ w'.cell? ⟨(jA.add ((zf).toNat * 7)).block,(jA.add ((zf).toNat * 7)).off + 1,none⟩ = some (.int .i64 ((zw l0 zf).f1)) ∧ w'.cell? ⟨(jA.add ((zf).toNat * 7)).block,(jA.add ((zf).toNat * 7)).off + 2,none⟩ = some (.int .i64 ((zw l0 zf).f2)) ∧ w'.cell? ⟨(jA.add ((zf).toNat * 7)).block,(jA.add ((zf).toNat * 7)).off + 3,none⟩ = some (.int .i64 ((zw l0 zf).f3)) ∧ w'.cell? ⟨(jA.add ((zf).toNat * 7)).block,(jA.add ((zf).toNat * 7)).off + 4,none⟩ = some (.string ((zw l0 zf).f4)) ∧ w'.cell? ⟨(jA.add ((zf).toNat * 7)).block,(jA.add ((zf).toNat * 7)).off + 5,none⟩ = some (.string ((zw l0 zf).f5)) ∧ w'.cell? ⟨(jA.add ((zf).toNat * 7)).block,(jA.add ((zf).toNat * 7)).off + 6,none⟩ = some (.slice rQ ((zw l0 zf).f6).length rX) ∧ w'.cell? (jB.add ((zf).toNat * 7)) = some (.int .i64 ((zw l1 zf).f0)) ∧ w'.cell? ⟨(jB.add ((zf).toNat * 7)).block,(jB.add ((zf).toNat * 7)).off + 1,none⟩ = some (.int .i64 ((zw l1 zf).f1)) ∧ w'.cell? ⟨(jB.add ((zf).toNat * 7)).block,(jB.add ((zf).toNat * 7)).off + 2,none⟩ = some (.int .i64 ((zw l1 zf).f2)) ∧ w'.cell? ⟨(jB.add ((zf).toNat * 7)).block,(jB.add ((zf).toNat * 7)).off + 3,none⟩ = some (.int .i64 ((zw l1 zf).f3)) ∧ w'.cell? ⟨(jB.add ((zf).toNat * 7)).block,(jB.add ((zf).toNat * 7)).off + 4,none⟩ = some (.string ((zw l1 zf).f4)) ∧ w'.cell? ⟨(jB.add ((zf).toNat * 7)).block,(jB.add ((zf).toNat * 7)).off + 5,none⟩ = some (.string ((zw l1 zf).f5)) ∧ w'.cell? ⟨(jB.add ((zf).toNat * 7)).block,(jB.add ((zf).toNat * 7)).off + 6,none⟩ = some (.slice rJ ((zw l1 zf).f6).length rV)) (ds:=[]) #[false,false,false,false,false,false,false,false,false,false] (by kernel_rfl) rfl rfl ⟨((HB.out.cell (World.block_lt_of_cell? w _ Xe)).trans Xe),((HB.out.cell (World.block_lt_of_cell? w _ Xd)).trans Xd),((HB.out.cell (World.block_lt_of_cell? w _ Xc)).trans Xc),((HB.out.cell (World.block_lt_of_cell? w _ Xb)).trans Xb),((HB.out.cell (World.block_lt_of_cell? w _ Xa)).trans Xa),((HB.out.cell (World.block_lt_of_cell? w _ XW)).trans XW),((HB.out.cell (World.block_lt_of_cell? w _ XY)).trans XY),((HB.out.cell (World.block_lt_of_cell? w _ Xn)).trans Xn),((HB.out.cell (World.block_lt_of_cell? w _ Xm)).trans Xm),((HB.out.cell (World.block_lt_of_cell? w _ Xl)).trans Xl),((HB.out.cell (World.block_lt_of_cell? w _ Xi)).trans Xi),((HB.out.cell (World.block_lt_of_cell? w _ Xh)).trans Xh),((HB.out.cell (World.block_lt_of_cell? w _ Xg)).trans Xg),((HB.out.cell (World.block_lt_of_cell? w _ Xf)).trans Xf)⟩ (fun hHeld=>?_);refine Z5 yV.zc7 yV.zWA (fun yP YC=>?_)
        generalize wr.drew = w9 at HB dA dF Zr Zt Zu ZA ZB ZC ZE ZF ZG ZH ZI ZL ZM ZN hHeld ⊢
        refine xk (i:=0) (N:=some 17) (v:=?_) (a':=?_) #[true,false,false,false,false,false,false,false,false,false] rfl rfl (qD yP.out (by kernel_rfl)) (fun _ _ _ h=>h) (Or.inl ⟨by rfl,?_⟩) ?_ ?_
        rotate_left
        ·intro w'
         go_simp
         with_reducible rfl
        rotate_left
        ·simp only [Act.put,List.setIfInBounds_toArray,List.set_cons_zero,List.set_cons_succ,qR,qU]
         rfl
        refine xk (i:=1) (N:=some 18) (v:=?_) (a':=?_) #[true,true,false,false,false,false,false,false,false,false] rfl rfl (qD yP.out (by kernel_rfl)) (fun _ _ _ h=>h) (Or.inl ⟨by rfl,?_⟩) ?_ ?_
        rotate_left
        ·intro w'
         go_simp
         with_reducible rfl
        rotate_left
        ·simp only [Act.put,List.setIfInBounds_toArray,List.set_cons_zero,List.set_cons_succ,qR,qU]
         rfl
        refine xk (i:=2) (N:=some 19) (v:=?_) (a':=?_) #[true,true,true,false,false,false,false,false,false,false] rfl rfl (qD yP.out (by kernel_rfl)) (fun _ _ _ h=>h) (Or.inl ⟨by rfl,?_⟩) ?_ ?_
        rotate_left
        ·intro w'
         go_simp
         with_reducible rfl
        rotate_left
        ·simp only [Act.put,List.setIfInBounds_toArray,List.set_cons_zero,List.set_cons_succ,qR,qU]
         rfl
        refine xk (i:=4) (N:=some 21) (v:=?_) (a':=?_) #[true,true,true,false,true,false,false,false,false,false] rfl rfl (qD yP.out (by kernel_rfl)) (fun _ _ _ h=>h) (Or.inl ⟨by rfl,?_⟩) ?_ ?_
        rotate_left
        ·intro w'
         go_simp
         with_reducible rfl
        rotate_left
        ·simp only [Act.put,List.setIfInBounds_toArray,List.set_cons_zero,List.set_cons_succ,qR,qU]
         rfl
        refine xk (i:=5) (N:=some 22) (v:=?_) (a':=?_) #[true,true,true,false,true,true,false,false,false,false] rfl rfl (qD yP.out (by kernel_rfl)) (fun _ _ _ h=>h) (Or.inl ⟨by rfl,?_⟩) ?_ ?_
        rotate_left
        ·intro w'
         go_simp
         with_reducible rfl
        rotate_left
        ·simp only [Act.put,List.setIfInBounds_toArray,List.set_cons_zero,List.set_cons_succ,qR,qU]
         rfl
        refine xk (i:=6) (N:=some 23) (v:=?_) (a':=?_) #[true,true,true,false,true,true,true,false,false,false] rfl rfl (qD yP.out (by kernel_rfl)) (fun _ _ _ h=>h) (Or.inl ⟨by rfl,?_⟩) ?_ ?_
        rotate_left
        ·intro w'
         go_simp
         with_reducible rfl
        rotate_left
        ·simp only [Act.put,List.setIfInBounds_toArray,List.set_cons_zero,List.set_cons_succ,qR,qU]
         rfl
        refine XL (i:=3) (N:=some 20) (v:=?_) (a':=?_) #[true,true,true,true,true,true,true,false,false,false] rfl rfl (X4 yP.out YC.out (by kernel_rfl)) (fun _ _ _ h=>h) (Or.inl ⟨by rfl,?_⟩) hHeld ?_ ?_
        rotate_left
        ·rintro w' ⟨s0,s1,s2,s3,s4,s5,s6,s7,s8,s9,s10,s11,s12,s13⟩
         go_simp
         with_reducible rfl
        rotate_left
        ·simp only [Act.put,List.setIfInBounds_toArray,List.set_cons_zero,List.set_cons_succ,qR,qU]
         rfl
        refine XL (i:=7) (N:=some 24) (v:=?_) (a':=?_) #[true,true,true,true,true,true,true,true,false,false] rfl rfl (X4 yP.out YC.out (by kernel_rfl)) (fun _ _ _ h=>h) (Or.inl ⟨by rfl,?_⟩) hHeld ?_ ?_
        rotate_left
        ·rintro w' ⟨s0,s1,s2,s3,s4,s5,s6,s7,s8,s9,s10,s11,s12,s13⟩
         go_simp
         with_reducible rfl
        rotate_left
        ·simp only [Act.put,List.setIfInBounds_toArray,List.set_cons_zero,List.set_cons_succ,qR,qU]
         rfl
        refine Yr (i:=8) (N:=some 25) #[true,true,true,true,true,true,true,true,true,false] rfl rfl (jY yP.out (by kernel_rfl)) (by decide) (fun K hK=>?_)
        refine YL Tryz.func53 (by kernel_rfl) rfl #[.agg #[.int .i64 ((zw l0 zf).f0),.int .i64 ((zw l0 zf).f1),.int .i64 ((zw l0 zf).f2),.int .i64 ((zw l0 zf).f3),.string ((zw l0 zf).f4),.string ((zw l0 zf).f5),.slice rQ ((zw l0 zf).f6).length rX],.agg #[.int .i64 ((zw l1 zf).f0),.int .i64 ((zw l1 zf).f1),.int .i64 ((zw l1 zf).f2),.int .i64 ((zw l1 zf).f3),.string ((zw l1 zf).f4),.string ((zw l1 zf).f5),.slice rJ ((zw l1 zf).f6).length rV]] (by rfl) rfl rfl (by (try simp only [List.map_toArray,List.map_cons,List.map_nil]);first | done | rfl | (simp only [List.length_drop,List.length_take];rfl)) ?_
        with_reducible refine (zH.calls k1 ((zw l0 zf).f0) ((zw l0 zf).f1) ((zw l0 zf).f2) ((zw l0 zf).f3) ((zw l0 zf).f4) ((zw l0 zf).f5) _ _ ((zw l0 zf).f6) ((zw l1 zf).f0) ((zw l1 zf).f1) ((zw l1 zf).f2) ((zw l1 zf).f3) ((zw l1 zf).f4) ((zw l1 zf).f5) _ _ ((zw l1 zf).f6) true _ ?yX ?yE ?xQ ?vZ A7.out).mono ?_
        (case yX=>exact xZ (Kd.za dA.out HB.out))
        (case yE=>exact zjJ.out)
        (case xQ=>exact xZ (Kd.za dF.out HB.out))
        (case vZ=>exact zjV.out)
        rintro e JX ⟨rfl,hb⟩
        refine ⟨_,rfl,?_⟩
        have zh:=zk.mk (zF (zM HB.out) hb)
        clear HB
        have HB:=zh
        clear zh
        (try clear hb)
        refine hK.out _ _ ⟨((HB.out.cell (World.block_lt_of_cell? w _ Xe)).trans Xe),((HB.out.cell (World.block_lt_of_cell? w _ Xd)).trans Xd),((HB.out.cell (World.block_lt_of_cell? w _ Xc)).trans Xc),((HB.out.cell (World.block_lt_of_cell? w _ Xb)).trans Xb),((HB.out.cell (World.block_lt_of_cell? w _ Xa)).trans Xa),((HB.out.cell (World.block_lt_of_cell? w _ XW)).trans XW),((HB.out.cell (World.block_lt_of_cell? w _ XY)).trans XY),((HB.out.cell (World.block_lt_of_cell? w _ Xn)).trans Xn),((HB.out.cell (World.block_lt_of_cell? w _ Xm)).trans Xm),((HB.out.cell (World.block_lt_of_cell? w _ Xl)).trans Xl),((HB.out.cell (World.block_lt_of_cell? w _ Xi)).trans Xi),((HB.out.cell (World.block_lt_of_cell? w _ Xh)).trans Xh),((HB.out.cell (World.block_lt_of_cell? w _ Xg)).trans Xg),((HB.out.cell (World.block_lt_of_cell? w _ Xf)).trans Xf)⟩ (fun hHeld=>?_)
        clear hK K
        refine YI (a':=?_) ?_ ?_
        rotate_left
        ·show Act.put _ (some 25) _ = _
         simp only [Act.put,List.setIfInBounds_toArray,List.set_cons_zero,List.set_cons_succ,qR,qU]
         rfl
        refine xk (i:=9) (N:=some 26) (v:=?_) (a':=?_) #[true,true,true,true,true,true,true,true,true,true] rfl rfl (qD yP.out (by kernel_rfl)) (fun _ _ _ h=>h) (Or.inl ⟨by rfl,?_⟩) ?_ ?_
        rotate_left
        ·intro w'
         go_simp
         with_reducible rfl
        rotate_left
        ·simp only [Act.put,List.setIfInBounds_toArray,List.set_cons_zero,List.set_cons_succ,qR,qU]
         rfl
        refine um (xK yP.out (by kernel_rfl)) ?_
        try go_wp2
        go_roundg k1
        case measure=>have:=vQ.out;omega
        case rel=>exact ⟨(wrap64 (zf + 1)),(by first | rfl | (simp;done) | (simp [*];done)),H',⟨by have:=vQ.out;omega⟩,⟨zM HB.out⟩⟩
       ·replace c8:=Bool.eq_false_iff.mpr c8
        subst c8
        have H1:(some false) = some r:=by rw [if_neg (show ¬ (false = true) by decide)] at H;exact H
        clear H
        have H:=H1
        clear H1
        obtain rfl:=Option.some.inj H
        try go_wp2
        have zh:=zk.mk (zP HB.out)
        clear HB
        have HB:=zh
        clear zh
        have iU:0 ≤ (zf:Int):=of_decide_eq_true yj
        have lq:zf < (l0.length:Int):=of_decide_eq_true yj
        obtain ⟨jA,rQ,rX,zYN,Zr,Zt,Zu,ZA,ZB,ZC,ZE,dW,dh⟩:=yR qA.out zf iU lq
        have XY:=ZE
        have XW:=ZC
        have Xa:=ZB
        have Xb:=ZA
        have Xc:=Zu
        have Xd:=Zt
        have Xe:=Zr
        cases zYN
        replace Zr:=(HB.out.cell (World.block_lt_of_cell? w _ Zr)).trans Zr
        replace Zt:=(HB.out.cell (World.block_lt_of_cell? w _ Zt)).trans Zt
        replace Zu:=(HB.out.cell (World.block_lt_of_cell? w _ Zu)).trans Zu
        replace ZA:=(HB.out.cell (World.block_lt_of_cell? w _ ZA)).trans ZA
        replace ZB:=(HB.out.cell (World.block_lt_of_cell? w _ ZB)).trans ZB
        replace ZC:=(HB.out.cell (World.block_lt_of_cell? w _ ZC)).trans ZC
        replace ZE:=(HB.out.cell (World.block_lt_of_cell? w _ ZE)).trans ZE
        have dA:=zk.mk dh
        have zjJ:=zk.mk dW
        clear dh dW
        replace iU:=eq_true iU
        replace lq:=eq_true lq
        have lZ:0 ≤ (zf:Int):=of_decide_eq_true yj
        have lQ:zf < (l1.length:Int):=of_decide_eq_true yj
        obtain ⟨jB,rJ,rV,e294,ZF,ZG,ZH,ZI,ZL,ZM,ZN,dB,dD⟩:=yR HR1.out zf lZ lQ
        have Xf:=ZN
        have Xg:=ZM
        have Xh:=ZL
        have Xi:=ZI
        have Xl:=ZH
        have Xm:=ZG
        have Xn:=ZF
        cases e294
        replace ZF:=(HB.out.cell (World.block_lt_of_cell? w _ ZF)).trans ZF
        replace ZG:=(HB.out.cell (World.block_lt_of_cell? w _ ZG)).trans ZG
        replace ZH:=(HB.out.cell (World.block_lt_of_cell? w _ ZH)).trans ZH
        replace ZI:=(HB.out.cell (World.block_lt_of_cell? w _ ZI)).trans ZI
        replace ZL:=(HB.out.cell (World.block_lt_of_cell? w _ ZL)).trans ZL
        replace ZM:=(HB.out.cell (World.block_lt_of_cell? w _ ZM)).trans ZM
        replace ZN:=(HB.out.cell (World.block_lt_of_cell? w _ ZN)).trans ZN
        have dF:=zk.mk dD
        have zjV:=zk.mk dB
        clear dD dB
        replace lZ:=eq_true lZ
        replace lQ:=eq_true lQ
        refine pG (n:=10) (S:=fun w'=>w'.cell? (jA.add ((zf).toNat * 7)) = some (.int .i64 ((zw l0 zf).f0)) ∧ w'.cell? ⟨(jA.add ((zf).toNat * 7)).block,(jA.add ((zf).toNat * 7)).off + 1,none⟩ = some (.int .i64 ((zw l0 zf).f1)) ∧ w'.cell? ⟨(jA.add ((zf).toNat * 7)).block,(jA.add ((zf).toNat * 7)).off + 2,none⟩ = some (.int .i64 ((zw l0 zf).f2)) ∧ w'.cell? ⟨(jA.add ((zf).toNat * 7)).block,(jA.add ((zf).toNat * 7)).off + 3,none⟩ = some (.int .i64 ((zw l0 zf).f3)) ∧ w'.cell? ⟨(jA.add ((zf).toNat * 7)).block,(jA.add ((zf).toNat * 7)).off + 4,none⟩ = some (.string ((zw l0 zf).f4)) ∧ w'.cell? ⟨(jA.add ((zf).toNat * 7)).block,(jA.add ((zf).toNat * 7)).off + 5,none⟩ = some (.string ((zw l0 zf).f5)) ∧ w'.cell? ⟨(jA.add ((zf).toNat * 7)).block,(jA.add ((zf).toNat * 7)).off + 6,none⟩ = some (.slice rQ ((zw l0 zf).f6).length rX) ∧ w'.cell? (jB.add ((zf).toNat * 7)) = some (.int .i64 ((zw l1 zf).f0)) ∧ w'.cell? ⟨(jB.add ((zf).toNat * 7)).block,(jB.add ((zf).toNat * 7)).off + 1,none⟩ = some (.int .i64 ((zw l1 zf).f1)) ∧ w'.cell? ⟨(jB.add ((zf).toNat * 7)).block,(jB.add ((zf).toNat * 7)).off + 2,none⟩ = some (.int .i64 ((zw l1 zf).f2)) ∧ w'.cell? ⟨(jB.add ((zf).toNat * 7)).block,(jB.add ((zf).toNat * 7)).off + 3,none⟩ = some (.int .i64 ((zw l1 zf).f3)) ∧ w'.cell? ⟨(jB.add ((zf).toNat * 7)).block,(jB.add ((zf).toNat * 7)).off + 4,none⟩ = some (.string ((zw l1 zf).f4)) ∧ w'.cell? ⟨(jB.add ((zf).toNat * 7)).block,(jB.add ((zf).toNat * 7)).off + 5,none⟩ = some (.string ((zw l1 zf).f5)) ∧ w'.cell? ⟨(jB.add ((zf).toNat * 7)).block,(jB.add ((zf).toNat * 7)).off + 6,none⟩ = some (.slice rJ ((zw l1 zf).f6).length rV)) (ds:=[]) #[false,false,false,false,false,false,false,false,false,false] (by kernel_rfl) rfl rfl ⟨((HB.out.cell (World.block_lt_of_cell? w _ Xe)).trans Xe),((HB.out.cell (World.block_lt_of_cell? w _ Xd)).trans Xd),((HB.out.cell (World.block_lt_of_cell? w _ Xc)).trans Xc),((HB.out.cell (World.block_lt_of_cell? w _ Xb)).trans Xb),((HB.out.cell (World.block_lt_of_cell? w _ Xa)).trans Xa),((HB.out.cell (World.block_lt_of_cell? w _ XW)).trans XW),((HB.out.cell (World.block_lt_of_cell? w _ XY)).trans XY),((HB.out.cell (World.block_lt_of_cell? w _ Xn)).trans Xn),((HB.out.cell (World.block_lt_of_cell? w _ Xm)).trans Xm),((HB.out.cell (World.block_lt_of_cell? w _ Xl)).trans Xl),((HB.out.cell (World.block_lt_of_cell? w _ Xi)).trans Xi),((HB.out.cell (World.block_lt_of_cell? w _ Xh)).trans Xh),((HB.out.cell (World.block_lt_of_cell? w _ Xg)).trans Xg),((HB.out.cell (World.block_lt_of_cell? w _ Xf)).trans Xf)⟩ (fun hHeld=>?_);refine Z5 yV.zc7 yV.zWA (fun yP YC=>?_)
        generalize wr.drew = fK at HB dA dF Zr Zt Zu ZA ZB ZC ZE ZF ZG ZH ZI ZL ZM ZN hHeld ⊢
        refine xk (i:=0) (N:=some 17) (v:=?_) (a':=?_) #[true,false,false,false,false,false,false,false,false,false] rfl rfl (qD yP.out (by kernel_rfl)) (fun _ _ _ h=>h) (Or.inl ⟨by rfl,?_⟩) ?_ ?_
        rotate_left
        ·intro w'
         go_simp
         with_reducible rfl
        rotate_left
        ·simp only [Act.put,List.setIfInBounds_toArray,List.set_cons_zero,List.set_cons_succ,qR,qU]
         rfl
        refine xk (i:=1) (N:=some 18) (v:=?_) (a':=?_) #[true,true,false,false,false,false,false,false,false,false] rfl rfl (qD yP.out (by kernel_rfl)) (fun _ _ _ h=>h) (Or.inl ⟨by rfl,?_⟩) ?_ ?_
        rotate_left
        ·intro w'
         go_simp
         with_reducible rfl
        rotate_left
        ·simp only [Act.put,List.setIfInBounds_toArray,List.set_cons_zero,List.set_cons_succ,qR,qU]
         rfl
        refine xk (i:=2) (N:=some 19) (v:=?_) (a':=?_) #[true,true,true,false,false,false,false,false,false,false] rfl rfl (qD yP.out (by kernel_rfl)) (fun _ _ _ h=>h) (Or.inl ⟨by rfl,?_⟩) ?_ ?_
        rotate_left
        ·intro w'
         go_simp
         with_reducible rfl
        rotate_left
        ·simp only [Act.put,List.setIfInBounds_toArray,List.set_cons_zero,List.set_cons_succ,qR,qU]
         rfl
        refine xk (i:=4) (N:=some 21) (v:=?_) (a':=?_) #[true,true,true,false,true,false,false,false,false,false] rfl rfl (qD yP.out (by kernel_rfl)) (fun _ _ _ h=>h) (Or.inl ⟨by rfl,?_⟩) ?_ ?_
        rotate_left
        ·intro w'
         go_simp
         with_reducible rfl
        rotate_left
        ·simp only [Act.put,List.setIfInBounds_toArray,List.set_cons_zero,List.set_cons_succ,qR,qU]
         rfl
        refine xk (i:=5) (N:=some 22) (v:=?_) (a':=?_) #[true,true,true,false,true,true,false,false,false,false] rfl rfl (qD yP.out (by kernel_rfl)) (fun _ _ _ h=>h) (Or.inl ⟨by rfl,?_⟩) ?_ ?_
        rotate_left
        ·intro w'
         go_simp
         with_reducible rfl
        rotate_left
        ·simp only [Act.put,List.setIfInBounds_toArray,List.set_cons_zero,List.set_cons_succ,qR,qU]
         rfl
        refine xk (i:=6) (N:=some 23) (v:=?_) (a':=?_) #[true,true,true,false,true,true,true,false,false,false] rfl rfl (qD yP.out (by kernel_rfl)) (fun _ _ _ h=>h) (Or.inl ⟨by rfl,?_⟩) ?_ ?_
        rotate_left
        ·intro w'
         go_simp
         with_reducible rfl
        rotate_left
        ·simp only [Act.put,List.setIfInBounds_toArray,List.set_cons_zero,List.set_cons_succ,qR,qU]
         rfl
        refine XL (i:=3) (N:=some 20) (v:=?_) (a':=?_) #[true,true,true,true,true,true,true,false,false,false] rfl rfl (X4 yP.out YC.out (by kernel_rfl)) (fun _ _ _ h=>h) (Or.inl ⟨by rfl,?_⟩) hHeld ?_ ?_
        rotate_left
        ·rintro w' ⟨s0,s1,s2,s3,s4,s5,s6,s7,s8,s9,s10,s11,s12,s13⟩
         go_simp
         with_reducible rfl
        rotate_left
        ·simp only [Act.put,List.setIfInBounds_toArray,List.set_cons_zero,List.set_cons_succ,qR,qU]
         rfl
        refine XL (i:=7) (N:=some 24) (v:=?_) (a':=?_) #[true,true,true,true,true,true,true,true,false,false] rfl rfl (X4 yP.out YC.out (by kernel_rfl)) (fun _ _ _ h=>h) (Or.inl ⟨by rfl,?_⟩) hHeld ?_ ?_
        rotate_left
        ·rintro w' ⟨s0,s1,s2,s3,s4,s5,s6,s7,s8,s9,s10,s11,s12,s13⟩
         go_simp
         with_reducible rfl
        rotate_left
        ·simp only [Act.put,List.setIfInBounds_toArray,List.set_cons_zero,List.set_cons_succ,qR,qU]
         rfl
        refine Yr (i:=8) (N:=some 25) #[true,true,true,true,true,true,true,true,true,false] rfl rfl (jY yP.out (by kernel_rfl)) (by decide) (fun K hK=>?_)
        refine YL Tryz.func53 (by kernel_rfl) rfl #[.agg #[.int .i64 ((zw l0 zf).f0),.int .i64 ((zw l0 zf).f1),.int .i64 ((zw l0 zf).f2),.int .i64 ((zw l0 zf).f3),.string ((zw l0 zf).f4),.string ((zw l0 zf).f5),.slice rQ ((zw l0 zf).f6).length rX],.agg #[.int .i64 ((zw l1 zf).f0),.int .i64 ((zw l1 zf).f1),.int .i64 ((zw l1 zf).f2),.int .i64 ((zw l1 zf).f3),.string ((zw l1 zf).f4),.string ((zw l1 zf).f5),.slice rJ ((zw l1 zf).f6).length rV]] (by rfl) rfl rfl (by (try simp only [List.map_toArray,List.map_cons,List.map_nil]);first | done | rfl | (simp only [List.length_drop,List.length_take];rfl)) ?_
        with_reducible refine (zH.calls k1 ((zw l0 zf).f0) ((zw l0 zf).f1) ((zw l0 zf).f2) ((zw l0 zf).f3) ((zw l0 zf).f4) ((zw l0 zf).f5) _ _ ((zw l0 zf).f6) ((zw l1 zf).f0) ((zw l1 zf).f1) ((zw l1 zf).f2) ((zw l1 zf).f3) ((zw l1 zf).f4) ((zw l1 zf).f5) _ _ ((zw l1 zf).f6) false _ ?yX ?yE ?xQ ?vZ A7.out).mono ?_
        (case yX=>exact xZ (Kd.za dA.out HB.out))
        (case yE=>exact zjJ.out)
        (case xQ=>exact xZ (Kd.za dF.out HB.out))
        (case vZ=>exact zjV.out)
        rintro e Kn ⟨rfl,hb⟩
        refine ⟨_,rfl,?_⟩
        have zh:=zk.mk (zF (zM HB.out) hb)
        clear HB
        have HB:=zh
        clear zh
        (try clear hb)
        refine hK.out _ _ ⟨((HB.out.cell (World.block_lt_of_cell? w _ Xe)).trans Xe),((HB.out.cell (World.block_lt_of_cell? w _ Xd)).trans Xd),((HB.out.cell (World.block_lt_of_cell? w _ Xc)).trans Xc),((HB.out.cell (World.block_lt_of_cell? w _ Xb)).trans Xb),((HB.out.cell (World.block_lt_of_cell? w _ Xa)).trans Xa),((HB.out.cell (World.block_lt_of_cell? w _ XW)).trans XW),((HB.out.cell (World.block_lt_of_cell? w _ XY)).trans XY),((HB.out.cell (World.block_lt_of_cell? w _ Xn)).trans Xn),((HB.out.cell (World.block_lt_of_cell? w _ Xm)).trans Xm),((HB.out.cell (World.block_lt_of_cell? w _ Xl)).trans Xl),((HB.out.cell (World.block_lt_of_cell? w _ Xi)).trans Xi),((HB.out.cell (World.block_lt_of_cell? w _ Xh)).trans Xh),((HB.out.cell (World.block_lt_of_cell? w _ Xg)).trans Xg),((HB.out.cell (World.block_lt_of_cell? w _ Xf)).trans Xf)⟩ (fun hHeld=>?_)
        clear hK K
        refine YI (a':=?_) ?_ ?_
        rotate_left
        ·show Act.put _ (some 25) _ = _
         simp only [Act.put,List.setIfInBounds_toArray,List.set_cons_zero,List.set_cons_succ,qR,qU]
         rfl
        refine xk (i:=9) (N:=some 26) (v:=?_) (a':=?_) #[true,true,true,true,true,true,true,true,true,true] rfl rfl (qD yP.out (by kernel_rfl)) (fun _ _ _ h=>h) (Or.inl ⟨by rfl,?_⟩) ?_ ?_
        rotate_left
        ·intro w'
         go_simp
         with_reducible rfl
        rotate_left
        ·simp only [Act.put,List.setIfInBounds_toArray,List.set_cons_zero,List.set_cons_succ,qR,qU]
         rfl
        refine um (xK yP.out (by kernel_rfl)) ?_
        try go_wp2
        go_ret
        exact ⟨by first | rfl | (simp [zl,zm] <;> rfl) | (simp [*,zl,zm] <;> rfl),by repeat (first | (with_reducible first | exact HB.out | apply zO | apply zC | apply zP) | exact HB.out)⟩
      ·rw [if_neg c6] at H
       exact absurd H (by simp)
     ·rw [if_neg c5] at H
      exact absurd H (by simp)
    ·rw [if_neg c4] at H
     have kD:decide (zf < (l0.length:Int)) = false:=decide_eq_false c4
     clear c4
     obtain rfl:=Option.some.inj H
     go_wp2
     go_ret
     exact ⟨by first | rfl | (simp [zl,zm] <;> rfl) | (simp [*,zl,zm] <;> rfl),by repeat (first | (with_reducible first | exact HB.out | apply zO | apply zC | apply zP) | exact HB.out)⟩
 ·rw [if_neg c3] at H
  have wR:((l0.length:Int) == (l1.length:Int)) = false:=beq_eq_false_iff_ne.mpr c3
  have mq:((l0.length:Int) != (l1.length:Int)) = true:=bne_iff_ne.mpr c3
  have zc8:(l0.length == l1.length) = false:=by first | simpa using c3 | (simp at c3 ⊢;omega)
  obtain rfl:=Option.some.inj H
  go_enter Tryz.func18,Tryz.ntmps18
  go_wp2
  go_ret
  exact ⟨by first | rfl | (simp [zl,zm] <;> rfl) | (simp [*,zl,zm] <;> rfl),by repeat (first | (with_reducible first | exact HB.out | apply zO | apply zC | apply zP) | exact HB.out)⟩
end Go.Proofs.YtggifbbiiickmaaGreatDoor.PX
namespace Go.Proofs.YtggifbbiiickmaaGreatDoor.PX
open Go.RowKit Go.Proofs.zx.zJ Go.Proofs.zx.zu Go.Proofs.zx.zo
attribute [local go_sem] yU y7 qX qJ yM yN y8 y9   -- for this text's walks alone
set_option linter.unusedVariables false
set_option linter.unusedSimpArgs false
end Go.Proofs.YtggifbbiiickmaaGreatDoor.PX
namespace Go.Proofs.YtggifbbiiickmaaGreatDoor.PX
open Go.RowKit Go.Proofs.zx.zJ Go.Proofs.zx.zu Go.Proofs.zx.zo
attribute [local go_sem] yU y7 qX qJ yM yN y8 y9   -- for this text's walks alone
set_option linter.unusedVariables false
set_option linter.unusedSimpArgs false
end Go.Proofs.YtggifbbiiickmaaGreatDoor.PX
namespace Go.Proofs.YtggifbbiiickmaaGreatDoor.PX
open Go.RowKit Go.Proofs.zx.zJ Go.Proofs.zx.zu Go.Proofs.zx.zo
attribute [local go_sem] yU y7 qX qJ yM yN y8 y9   -- for this text's walks alone
set_option linter.unusedVariables false
set_option linter.unusedSimpArgs false
end Go.Proofs.YtggifbbiiickmaaGreatDoor.PX
namespace Go.Proofs.YtggifbbiiickmaaGreatDoor
open Go.RowKit Go.Proofs.zx.zJ Go.Proofs.zx.zu Go.Proofs.zx.zo Go.Proofs.YtggifbbiiickmaaGreatDoor.PX
set_option linter.unusedSimpArgs false
set_option linter.unusedVariables false
theorem zVI (b:qZ) (hl:b.f6.length ≤ 1000000000):∀ d i,i + d = b.f6.length → Ev (fun k=>zH.l0 k (i:Int) b.f0 b.f1 b.f2 b.f3 b.f4 b.f5 b.f6 b.f0 b.f1 b.f2 b.f3 b.f4 b.f5 b.f6) true:=by
 intro d
 induction d with
 | zero=>intro i h;exact Ev.step (fun k=>by rw [zH.l0]) (yG (by omega) (Ev.now _))
 | succ d ih =>
  intro i h
  have hw:wrap64 ((i:Int) + 1) = ((i + 1:Nat):Int):=(pI (by omega) (by omega)).trans (by omega)
  have q1:(i:Int) < (b.f6.length:Int):=by omega
  have q2:(0:Int) ≤ (i:Int):=by omega
  have hr:=ih (i + 1) (by omega)
  exact Ev.step (fun k=>by rw [zH.l0,hw]) (zR q1 (zR q2 (zR q1 (zR rfl hr))))
theorem zkc (b:qZ) (hl:b.f6.length ≤ 1000000000):Ev (fun k=>zH.f k b.f0 b.f1 b.f2 b.f3 b.f4 b.f5 b.f6 b.f0 b.f1 b.f2 b.f3 b.f4 b.f5 b.f6) true:=by
 have h:Ev (fun k=>zH.l0 k 0 b.f0 b.f1 b.f2 b.f3 b.f4 b.f5 b.f6 b.f0 b.f1 b.f2 b.f3 b.f4 b.f5 b.f6) true:=zVI b hl b.f6.length 0 (by omega)
 have e:((b.f6.length:Int) != (b.f6.length:Int)) = false:=by simp
 have h0:Ev (fun k=>zH.j0 k false b.f0 b.f1 b.f2 b.f3 b.f4 b.f5 b.f6 b.f0 b.f1 b.f2 b.f3 b.f4 b.f5 b.f6) true :=
  Ev.step (fun k=>by rw [zH.j0]) (yG Bool.false_ne_true h)
 exact Ev.congr (fun k=>by rw [zH.f,e]) (zR rfl (zR rfl (zR rfl (zR rfl (zR rfl (zR rfl h0))))))
theorem zc9 (l:List qZ) (hl:l.length ≤ 1000000000) (hb:∀ b ∈ l,b.f6.length ≤ 1000000000):∀ d i,i + d = l.length → Ev (fun k=>yV.l0 k l l (i:Int)) true:=by
 intro d
 induction d with
 | zero=>intro i h;exact Ev.step (fun k=>by rw [yV.l0]) (yG (by omega) (Ev.now _))
 | succ d ih =>
  intro i h
  have hi:i < l.length:=by omega
  have hw:wrap64 ((i:Int) + 1) = ((i + 1:Nat):Int):=(pI (by omega) (by omega)).trans (by omega)
  have q1:(i:Int) < (l.length:Int):=by omega
  have q2:(0:Int) ≤ (i:Int):=by omega
  have hr:=ih (i + 1) (by omega)
  have hd:=rdB l i _ (List.getElem?_eq_getElem hi)
  have hs:=zkc l[i] (hb _ (List.getElem_mem hi))
  exact Ev.step (fun k=>by rw [yV.l0,hw,hd]) (zR q1 (zR q2 (zR q1 (Ev.bind hs (zR rfl hr)))))
theorem zVL (l:List qZ) (hl:l.length ≤ 1000000000) (hb:∀ b ∈ l,b.f6.length ≤ 1000000000):Ev (fun k=>yV.f k l l) true :=
 Ev.congr (fun k=>by rw [yV.f];rfl) (zR rfl (zc9 l hl hb l.length 0 (by omega)))
end Go.Proofs.YtggifbbiiickmaaGreatDoor
namespace Go.Proofs.YtggifbbiiickmaaGreatDoor
open Go.RowKit Go.Proofs.zx.zJ Go.Proofs.zx.zu Go.Proofs.zx.zo Go.Proofs.YtggifbbiiickmaaGreatDoor.PX
set_option linter.unusedSimpArgs false
set_option linter.unusedVariables false
end Go.Proofs.YtggifbbiiickmaaGreatDoor
namespace Go.Proofs.YtggifbbiiickmaaGreatDoor.PX
open Go.RowKit Go.Proofs.zx.zJ Go.Proofs.zx.zu Go.Proofs.zx.zo
attribute [local go_sem] yU y7 qX qJ yM yN y8 y9   -- for this text's walks alone
set_option linter.unusedVariables false
set_option linter.unusedSimpArgs false
end Go.Proofs.YtggifbbiiickmaaGreatDoor.PX
namespace Go.Proofs.YtggifbbiiickmaaGreatDoor.PX
open Go.RowKit Go.Proofs.zx.zJ Go.Proofs.zx.zu Go.Proofs.zx.zo
attribute [local go_sem] yU y7 qX qJ yM yN y8 y9   -- for this text's walks alone
set_option linter.unusedVariables false
set_option linter.unusedSimpArgs false
end Go.Proofs.YtggifbbiiickmaaGreatDoor.PX
namespace Go.Proofs.YtggifbbiiickmaaGreatDoor
open Go.RowKit Go.Proofs.zx.zJ Go.Proofs.zx.zu Go.Proofs.zx.zo Go.Proofs.YtggifbbiiickmaaGreatDoor.PX
set_option linter.unusedSimpArgs false
set_option linter.unusedVariables false
end Go.Proofs.YtggifbbiiickmaaGreatDoor
namespace Go.Proofs.YtggifbbiiickmaaGreatDoor
open Go.RowKit Go.Shelf Go.Proofs.zx.zJ Go.Proofs.zx.zu Go.Proofs.zx.zo Go.Proofs.YtggifbbiiickmaaGreatDoor.PX
set_option linter.unusedSimpArgs false
set_option linter.unusedVariables false
set_option maxRecDepth 100000 in
theorem fO (x:ql) (A3:Option Addr) (c3:Nat) (A4:Option Addr) (c4:Nat) (A5:Option Addr) (c5:Nat) (W:World) (hG:GW W) (hz:x.f3.length ≤ 1000000000 ∧ x.f4.length ≤ 1000000000 ∧ x.f5.length ≤ 1000000000)
  (q3:Kd.C vk W A3 x.f3.length x.f3) (g3:x.f3.length ≤ c3) (q4:Kd.C jg W A4 x.f4.length x.f4) (g4:x.f4.length ≤ c4) (q5:Kd.C jE W A5 x.f5.length x.f5) (g5:x.f5.length ≤ c5) :
  Calls Tryz.prog 65 #[.agg #[.string x.f0,.bool x.f1,.int .i64 x.f2,.slice A3 x.f3.length c3,.slice A4 x.f4.length c4,.slice A5 x.f5.length c5]] W fun e w'=>e = .returned (.bool (!q8 x)) ∧ Below W.heap.size W w':=by
 have hb0:Below W.heap.size W (W.alloc (.cells #[.string x.f0,.bool x.f1,.int .i64 x.f2,.slice A3 x.f3.length c3,.slice A4 x.f4.length c4,.slice A5 x.f5.length c5] 60)):=(Below.refl _ W).alloc (Nat.le_refl _) _
 have h:=jo.calls x.f0 x.f1 x.f2 A3 c3 x.f3 A4 c4 x.f4 A5 c5 x.f5 (q8 x) _ (Kd.za q3 hb0) g3 (Kd.za q4 hb0) g4 (Kd.za q5 hb0) g5 (hG.under hb0) (by unfold jo.f;rw [if_pos hz];rfl)
 generalize q8 x = b at h ⊢
 clear q3 q4 q5 hz
 go_enter Tryz.func65,Tryz.ntmps65
 go_wp2_with (go_at_call 39;refine h.mono ?_;rintro e w1 ⟨rfl,hb⟩)
 go_ret
 exact ⟨rfl,hb0.trans (hb.mono hb0.size)⟩
def shs.T1:Bool × List (List Nat × List Nat):=(true,[([],[]),([],[]),([1],[1]),([2],[2]),([3],[3]),([0,4],[0,4]),([5],[5]),([],[]),([6,7],[6,7]),([8],[8]),([8],[8]),([9,8,0,1,2,3,4,5,6,7,8,9,10],[9]),([10,11,0,1,2,3,4,5,6,7,8,9,10,11],[10])])
def shs.B1:List Nat:=[0,0,2,6,14,31,63,0,255,511,511,2047,4095]
theorem shs.zxy:q9 .any (opsOf Tryz.f67 1) = shs.T1:=by kernel_rfl
theorem shs.tZ:xC shs.T1.2 shs.B1 = true:=by kernel_rfl
def shw.T1:Bool × List (List Nat × List Nat):=(true,[([],[]),([],[]),([1],[1]),([2],[2]),([3],[3]),([0,4],[0,4]),([5],[5]),([],[]),([7],[7]),([8],[8]),([9],[9]),([],[]),([6,10,11],[6,10,11]),([12],[12]),([12],[12]),([13,12,0,1,2,3,4,5,6,7,8,9,10,11,12,13,14],[13]),([14,15,0,1,2,3,4,5,6,7,8,9,10,11,12,13,14,15],[14])])
def shw.B1:List Nat:=[0,0,2,6,14,31,63,0,128,384,896,0,4095,8191,8191,32767,65535]
theorem shw.zxy:q9 .any (opsOf Tryz.f69 1) = shw.T1:=by kernel_rfl
theorem shw.tZ:xC shw.T1.2 shw.B1 = true:=by kernel_rfl
def Jh (l:List ql) (s:Int) (b:yD):Int × Int:=if b.f0 = 0 then XO (vw l b.f2) b.f4 s else V9 (vw l b.f2) s
def ShC (B4 B5 B10:Nat) (Af:Option Addr) (n cf:Nat) (s:Int) (go o:Nat) (W:World):Prop :=
 W.cell? ⟨B5,0,none⟩ = some (.slice Af n cf) ∧ W.cell? ⟨B10,0,none⟩ = some (.pointer (some ⟨go,o,none⟩)) ∧ W.cell? ⟨B4,0,none⟩ = some (.int .i64 s)
theorem ShC.below {B4 B5 B10:Nat} {Af:Option Addr} {n cf:Nat} {s:Int} {go o:Nat} {W W':World} (h:ShC B4 B5 B10 Af n cf s go o W) (hb:Below W.heap.size W W'):ShC B4 B5 B10 Af n cf s go o W' :=
 ⟨(hb.cell (World.block_lt_of_cell? W _ h.1)).trans h.1,(hb.cell (World.block_lt_of_cell? W _ h.2.1)).trans h.2.1,(hb.cell (World.block_lt_of_cell? W _ h.2.2)).trans h.2.2⟩
set_option maxRecDepth 100000 in
set_option maxHeartbeats 8000000 in
theorem zVM (B4 B5 B10:Nat) (Af:Option Addr) (cf:Nat) (l:List ql) (s f:Int) (go o:Nat) (W:World) (hG:GW W) (hC:Kd.C Zw W Af l.length l) (hl:l.length ≤ 1000000000) (hf0:0 ≤ f) (hf1:f < (l.length:Int)) (hv:∀ x ∈ l,q8 x = true)
  (hS:ShC B4 B5 B10 Af l.length cf s go o W) (h2:W.cell? ⟨go,o + 2,none⟩ = some (.int .i64 f)) :
  Calls Tryz.prog 67 #[.pointer (some ⟨B5,0,none⟩),.pointer (some ⟨B10,0,none⟩),.pointer (some ⟨B4,0,none⟩)] W fun e w'=>e = .returned (.tuple #[.int .i64 (V9 (vw l f) s).1,.int .i64 (V9 (vw l f) s).2]) ∧ Below W.heap.size W w':=by
 have hx:=YB hv hf0 hf1
 have hz:=XJ hx
 obtain ⟨ad,A3,c3,A4,c4,A5,c5,e,x0,x1,x2,x3,x4,x5,g3,q3,g4,q4,g5,q5⟩:=PK hC f hf0 (by omega)
 subst e
 have e:uE l f = vw l f:=rfl
 rw [e] at x0 x1 x2 x3 x4 x5 g3 q3 g4 q4 g5 q5
 clear e
 generalize vw l f = x at x0 x1 x2 x3 x4 x5 g3 q3 g4 q4 g5 q5 hx hz ⊢
 have hh:∀ V,Below W.heap.size W V → Calls Tryz.prog 68 #[.agg #[.string x.f0,.bool x.f1,.int .i64 x.f2,.slice A3 x.f3.length c3,.slice A4 x.f4.length c4,.slice A5 x.f5.length c5],.int .i64 s] V fun e w'=>e = .returned (.tuple #[.int .i64 (V9 x s).1,.int .i64 (V9 x s).2]) ∧ Below V.heap.size V w':=fun V hb =>
  Vu.calls x.f0 x.f1 x.f2 A3 c3 x.f3 A4 c4 x.f4 A5 c5 x.f5 s _ _ V (Kd.za q3 hb) g3 (Kd.za q4 hb) g4 (Kd.za q5 hb) g5 (hG.under hb) (zcv x.f0 x.f1 x.f2 x.f3 x.f4 x.f5 s (by omega) (by omega) (by omega))
 have HH:=zk.mk hh
 obtain ⟨s5,s10,s4⟩:=hS
 have HS:=zk.mk (fun (V:World) (h:Below W.heap.size W V)=>(show V.cell? ⟨B5,0,none⟩ = some (.slice (some ad) l.length cf) ∧ V.cell? ⟨B10,0,none⟩ = some (.pointer (some ⟨go,o,none⟩)) ∧ V.cell? ⟨B4,0,none⟩ = some (.int .i64 s) ∧ V.cell? ⟨go,o + 2,none⟩ = some (.int .i64 f) ∧ V.cell? (ad.add (f.toNat * 6)) = some (.string x.f0) ∧ V.cell? ⟨(ad.add (f.toNat * 6)).block,(ad.add (f.toNat * 6)).off + 1,none⟩ = some (.bool x.f1) ∧ V.cell? ⟨(ad.add (f.toNat * 6)).block,(ad.add (f.toNat * 6)).off + 2,none⟩ = some (.int .i64 x.f2) ∧ V.cell? ⟨(ad.add (f.toNat * 6)).block,(ad.add (f.toNat * 6)).off + 3,none⟩ = some (.slice A3 x.f3.length c3) ∧ V.cell? ⟨(ad.add (f.toNat * 6)).block,(ad.add (f.toNat * 6)).off + 4,none⟩ = some (.slice A4 x.f4.length c4) ∧ V.cell? ⟨(ad.add (f.toNat * 6)).block,(ad.add (f.toNat * 6)).off + 5,none⟩ = some (.slice A5 x.f5.length c5) from
  ⟨(h.cell (World.block_lt_of_cell? W _ s5)).trans s5,(h.cell (World.block_lt_of_cell? W _ s10)).trans s10,(h.cell (World.block_lt_of_cell? W _ s4)).trans s4,(h.cell (World.block_lt_of_cell? W _ h2)).trans h2,(h.cell (World.block_lt_of_cell? W _ x0)).trans x0,(h.cell (World.block_lt_of_cell? W _ x1)).trans x1,(h.cell (World.block_lt_of_cell? W _ x2)).trans x2,(h.cell (World.block_lt_of_cell? W _ x3)).trans x3,(h.cell (World.block_lt_of_cell? W _ x4)).trans x4,(h.cell (World.block_lt_of_cell? W _ x5)).trans x5⟩))
 generalize V9 x s = R at HH ⊢
 obtain ⟨r1,r2⟩:=R
 dsimp only at HH ⊢
 clear hh s5 s10 s4 h2 x0 x1 x2 x3 x4 x5 q3 q4 q5 hv hx hz hC hG
 go_enter Tryz.func67,Tryz.ntmps67
 go_wp2_with fail
 refine RW.rS (n:=13) HS shs.zxy shs.tZ (by kernel_rfl) rfl rfl (fun w2 H0 T U h=>?_)
 refine RW.rT 0 (some 5) T U h ?_
 refine RW.rT 1 (some 6) T U h ?_
 refine RW.rP 2 (some 7) T ?_
 refine RW.rP 3 (some 8) T ?_
 refine RW.rT 4 (some 9) T U h ?_
 refine RW.rP 5 (some 10) T ?_
 refine RW.rT 6 (some 11) T U h ?_
 refine RW.rT 7 (some 12) T U h ?_
 clear h
 refine RW.rC 8 (some 13) T HS H0 Tryz.func68 (HH.out _ H0.out) (fun w3 H3 h=>?_) (by kernel_rfl)
 refine RW.rP 9 (some 14) T ?_
 refine RW.rP 10 (some 15) T ?_
 refine RW.rP 11 (some 3) T ?_
 refine RW.rP 12 (some 4) T ?_
 refine um (xK T.out (by kernel_rfl)) ?_
 clear h
 go_wp2_with fail
 go_ret2
 exact ⟨rfl,H3.out⟩
set_option maxRecDepth 100000 in
set_option maxHeartbeats 8000000 in
theorem zVN (B4 B5 B10:Nat) (Af:Option Addr) (cf:Nat) (l:List ql) (s f:Int) (nm:ByteArray) (go o:Nat) (W:World) (hG:GW W) (hC:Kd.C Zw W Af l.length l) (hl:l.length ≤ 1000000000) (hf0:0 ≤ f) (hf1:f < (l.length:Int)) (hv:∀ x ∈ l,q8 x = true)
  (hS:ShC B4 B5 B10 Af l.length cf s go o W) (h2:W.cell? ⟨go,o + 2,none⟩ = some (.int .i64 f)) (h4:W.cell? ⟨go,o + 4,none⟩ = some (.string nm)) :
  Calls Tryz.prog 69 #[.pointer (some ⟨B5,0,none⟩),.pointer (some ⟨B10,0,none⟩),.pointer (some ⟨B4,0,none⟩)] W fun e w'=>e = .returned (.tuple #[.int .i64 (XO (vw l f) nm s).1,.int .i64 (XO (vw l f) nm s).2]) ∧ Below W.heap.size W w':=by
 have hx:=YB hv hf0 hf1
 have hz:=XJ hx
 obtain ⟨ad,A3,c3,A4,c4,A5,c5,e,x0,x1,x2,x3,x4,x5,g3,q3,g4,q4,g5,q5⟩:=PK hC f hf0 (by omega)
 subst e
 have e:uE l f = vw l f:=rfl
 rw [e] at x0 x1 x2 x3 x4 x5 g3 q3 g4 q4 g5 q5
 clear e
 generalize vw l f = x at x0 x1 x2 x3 x4 x5 g3 q3 g4 q4 g5 q5 hx hz ⊢
 have hh:∀ V,Below W.heap.size W V → Calls Tryz.prog 22 #[.agg #[.string x.f0,.bool x.f1,.int .i64 x.f2,.slice A3 x.f3.length c3,.slice A4 x.f4.length c4,.slice A5 x.f5.length c5],.string nm,.int .i64 s] V fun e w'=>e = .returned (.tuple #[.int .i64 (XO x nm s).1,.int .i64 (XO x nm s).2]) ∧ Below V.heap.size V w':=fun V hb =>
  Y6.calls x.f0 x.f1 x.f2 A3 c3 x.f3 A4 c4 x.f4 A5 c5 x.f5 nm s _ _ V (Kd.za q3 hb) g3 (Kd.za q4 hb) g4 (Kd.za q5 hb) g5 (hG.under hb) (zVQ x.f0 x.f1 x.f2 x.f3 x.f4 x.f5 nm s (by omega) (by omega) (by omega))
 have HH:=zk.mk hh
 obtain ⟨s5,s10,s4⟩:=hS
 have HS:=zk.mk (fun (V:World) (h:Below W.heap.size W V)=>(show V.cell? ⟨B5,0,none⟩ = some (.slice (some ad) l.length cf) ∧ V.cell? ⟨B10,0,none⟩ = some (.pointer (some ⟨go,o,none⟩)) ∧ V.cell? ⟨B4,0,none⟩ = some (.int .i64 s) ∧ V.cell? ⟨go,o + 2,none⟩ = some (.int .i64 f) ∧ V.cell? ⟨go,o + 4,none⟩ = some (.string nm) ∧ V.cell? (ad.add (f.toNat * 6)) = some (.string x.f0) ∧ V.cell? ⟨(ad.add (f.toNat * 6)).block,(ad.add (f.toNat * 6)).off + 1,none⟩ = some (.bool x.f1) ∧ V.cell? ⟨(ad.add (f.toNat * 6)).block,(ad.add (f.toNat * 6)).off + 2,none⟩ = some (.int .i64 x.f2) ∧ V.cell? ⟨(ad.add (f.toNat * 6)).block,(ad.add (f.toNat * 6)).off + 3,none⟩ = some (.slice A3 x.f3.length c3) ∧ V.cell? ⟨(ad.add (f.toNat * 6)).block,(ad.add (f.toNat * 6)).off + 4,none⟩ = some (.slice A4 x.f4.length c4) ∧ V.cell? ⟨(ad.add (f.toNat * 6)).block,(ad.add (f.toNat * 6)).off + 5,none⟩ = some (.slice A5 x.f5.length c5) from
  ⟨(h.cell (World.block_lt_of_cell? W _ s5)).trans s5,(h.cell (World.block_lt_of_cell? W _ s10)).trans s10,(h.cell (World.block_lt_of_cell? W _ s4)).trans s4,(h.cell (World.block_lt_of_cell? W _ h2)).trans h2,(h.cell (World.block_lt_of_cell? W _ h4)).trans h4,(h.cell (World.block_lt_of_cell? W _ x0)).trans x0,(h.cell (World.block_lt_of_cell? W _ x1)).trans x1,(h.cell (World.block_lt_of_cell? W _ x2)).trans x2,(h.cell (World.block_lt_of_cell? W _ x3)).trans x3,(h.cell (World.block_lt_of_cell? W _ x4)).trans x4,(h.cell (World.block_lt_of_cell? W _ x5)).trans x5⟩))
 generalize XO x nm s = R at HH ⊢
 obtain ⟨r1,r2⟩:=R
 dsimp only at HH ⊢
 clear hh s5 s10 s4 h2 h4 x0 x1 x2 x3 x4 x5 q3 q4 q5 hv hx hz hC hG
 go_enter Tryz.func69,Tryz.ntmps69
 go_wp2_with fail
 refine RW.rS (n:=17) HS shw.zxy shw.tZ (by kernel_rfl) rfl rfl (fun w2 H0 T U h=>?_)
 refine RW.rT 0 (some 5) T U h ?_
 refine RW.rT 1 (some 6) T U h ?_
 refine RW.rP 2 (some 7) T ?_
 refine RW.rP 3 (some 8) T ?_
 refine RW.rT 4 (some 9) T U h ?_
 refine RW.rP 5 (some 10) T ?_
 refine RW.rT 6 (some 11) T U h ?_
 refine RW.rT 7 (some 12) T U h ?_
 refine RW.rP 8 (some 13) T ?_
 refine RW.rP 9 (some 14) T ?_
 refine RW.rT 10 (some 15) T U h ?_
 refine RW.rT 11 (some 16) T U h ?_
 clear h
 refine RW.rC 12 (some 17) T HS H0 Tryz.func22 (HH.out _ H0.out) (fun w3 H3 h=>?_) (by kernel_rfl)
 refine RW.rP 13 (some 18) T ?_
 refine RW.rP 14 (some 19) T ?_
 refine RW.rP 15 (some 3) T ?_
 refine RW.rP 16 (some 4) T ?_
 refine um (xK T.out (by kernel_rfl)) ?_
 clear h
 go_wp2_with fail
 go_ret2
 exact ⟨rfl,H3.out⟩
end Go.Proofs.YtggifbbiiickmaaGreatDoor
namespace Go.Proofs.YtggifbbiiickmaaGreatDoor
open Go.RowKit Go.Shelf Go.Proofs.zx.zJ Go.Proofs.zx.zu Go.Proofs.zx.zo Go.Proofs.YtggifbbiiickmaaGreatDoor.PX
set_option linter.unusedSimpArgs false
set_option linter.unusedVariables false
def KT (l:List ql) (s:Int) (b:yD):yD:=if b.f0 = 0 ∨ b.f0 = 1 then ⟨b.f0,(Jh l s b).1,b.f2,s,b.f4,b.f5,b.f6⟩ else b
def Zb (l:List ql) (s:Int) (b:yD):Bool:=(decide (b.f0 = 0) || decide (b.f0 = 1)) && (decide (b.f2 < 0) || (decide ((l.length:Int) ≤ b.f2) || !decide ((Jh l s b).2 = 0)))
def WO (l:List ql) (s:Int):Bool:=decide (s < 1) || (decide (1000 < s) || l.any (fun x=>!q8 x))
def zVO (l:List ql) (s:Int) (bs:List yD):List yD × Int:=if WO l s then ([],1) else if bs.any (Zb l s) then ([],1) else (bs.map (KT l s),0)
def Jp (l:List ql) (s:Int) (bs:List yD) (k:Nat):List yD:=(bs.take k).map (KT l s) ++ bs.drop k
section
variable (l:List ql) (s:Int) (bs:List yD)
theorem aj (k:Nat):(Jp l s bs k).length = bs.length:=by
 unfold Jp
 simp only [List.length_append,List.length_map,List.length_take,List.length_drop]
 omega
theorem zYO:Jp l s bs 0 = bs:=by simp [Jp]
theorem zbc:Jp l s bs bs.length = bs.map (KT l s):=by simp [Jp]
theorem zQN (k:Nat) (h:k < bs.length) (z:yD):(Jp l s bs k).getD k z = bs[k]:=by
 unfold Jp
 rw [List.getD_eq_getElem?_getD,List.getElem?_append_right (by simp;omega),List.drop_eq_getElem_cons h]
 have e:k - ((bs.take k).map (KT l s)).length = 0:=by simp;omega
 rw [e];rfl
theorem zbd (k:Nat) (h:k < bs.length):(Jp l s bs k).set k (KT l s bs[k]) = Jp l s bs (k + 1):=by
 unfold Jp
 have e:k - ((bs.take k).map (KT l s)).length = 0:=by simp;omega
 rw [List.set_append_right _ _ (by simp;omega),e,List.drop_eq_getElem_cons h,List.set_cons_zero,List.take_succ_eq_append_getElem h,List.map_append,List.append_assoc]
 rfl
theorem zYP (k:Nat) (h:k < bs.length) (he:KT l s bs[k] = bs[k]):Jp l s bs k = Jp l s bs (k + 1):=by
 unfold Jp
 rw [List.drop_eq_getElem_cons h,List.take_succ_eq_append_getElem h,List.map_append,List.append_assoc]
 show _ = _ ++ ([KT l s bs[k]] ++ _)
 rw [he];rfl
theorem zYR (p:yD → Bool) (k:Nat) (h:k < bs.length):(bs.drop k).any p = (p bs[k] || (bs.drop (k + 1)).any p):=by rw [List.drop_eq_getElem_cons h];rfl
end
theorem zft {W:World} {base n cap g k:Nat} {ok:Nat → Prop} {xs:List yD} (h:qK.S 53 W base ok (.slice (some ⟨g,0,none⟩) n cap) xs) (hk:k < n) (wv:Int) :
  qK.S 53 (W.setCell ⟨g,k * 7 + 1,none⟩ (.int .i64 wv)) base ok (.slice (some ⟨g,0,none⟩) n cap) (xs.set k ⟨(xs.getD k z53).f0,wv,(xs.getD k z53).f2,(xs.getD k z53).f3,(xs.getD k z53).f4,(xs.getD k z53).f5,(xs.getD k z53).f6⟩):=by
 obtain ⟨uX,cs,hcl,hM,hcc,nR,hH⟩:=Kd.nk h z53 (k:Int) (by omega) (by omega)
 rw [Int.toNat_natCast] at hM
 generalize xs.getD k z53 = x at hM ⊢
 obtain ⟨v6,rfl,hR6⟩:=WY hM
 have hs:=(Kd.zvE hH (by omega) (by omega) (seg:=[.int .i64 wv]) (j:=1) (x':=⟨x.f0,wv,x.f2,x.f3,x.f4,x.f5,x.f6⟩) (xU:=uX) (show 1 + 1 ≤ 7 by decide) (PY W base uX ⟨x.f0,wv,x.f2,x.f3,x.f4,x.f5,x.f6⟩ hR6) (fun _ hb=>hb)).1
 rw [Int.toNat_natCast] at hs
 exact hs
theorem zbe {W:World} {base n cap g k:Nat} {ok:Nat → Prop} {xs:List yD} (h:qK.S 53 W base ok (.slice (some ⟨g,0,none⟩) n cap) xs) (hk:k < n) (s:Int) :
  qK.S 53 (W.setCell ⟨g,k * 7 + 3,none⟩ (.int .i64 s)) base ok (.slice (some ⟨g,0,none⟩) n cap) (xs.set k ⟨(xs.getD k z53).f0,(xs.getD k z53).f1,(xs.getD k z53).f2,s,(xs.getD k z53).f4,(xs.getD k z53).f5,(xs.getD k z53).f6⟩):=by
 obtain ⟨uX,cs,hcl,hM,hcc,nR,hH⟩:=Kd.nk h z53 (k:Int) (by omega) (by omega)
 rw [Int.toNat_natCast] at hM
 generalize xs.getD k z53 = x at hM ⊢
 obtain ⟨v6,rfl,hR6⟩:=WY hM
 have hs:=(Kd.zvE hH (by omega) (by omega) (seg:=[.int .i64 s]) (j:=3) (x':=⟨x.f0,x.f1,x.f2,s,x.f4,x.f5,x.f6⟩) (xU:=uX) (show 3 + 1 ≤ 7 by decide) (PY W base uX ⟨x.f0,x.f1,x.f2,s,x.f4,x.f5,x.f6⟩ hR6) (fun _ hb=>hb)).1
 rw [Int.toNat_natCast] at hs
 exact hs
theorem zWB {W:World} {base n cap g k:Nat} {ok:Nat → Prop} {xs:List yD} (h:qK.S 53 W base ok (.slice (some ⟨g,0,none⟩) n cap) xs) (hk:k < n) (hkl:k < xs.length) (wv s:Int) (x:yD) (hx:xs.getD k z53 = x) :
  qK.S 53 ((W.setCell ⟨g,k * 7 + 1,none⟩ (.int .i64 wv)).setCell ⟨g,k * 7 + 3,none⟩ (.int .i64 s)) base ok (.slice (some ⟨g,0,none⟩) n cap) (xs.set k ⟨x.f0,wv,x.f2,s,x.f4,x.f5,x.f6⟩):=by
 have h1:=zft h hk wv
 rw [hx] at h1
 have h2:=zbe h1 hk s
 have e:(xs.set k ⟨x.f0,wv,x.f2,x.f3,x.f4,x.f5,x.f6⟩).getD k z53 = ⟨x.f0,wv,x.f2,x.f3,x.f4,x.f5,x.f6⟩:=by
  rw [List.getD_eq_getElem?_getD,List.getElem?_set_self hkl];rfl
 rw [e,List.set_set] at h2
 exact h2
theorem zzK {W W':World} {g o:Nat} (h:W'.heap[g]? = W.heap[g]?):W'.cell? ⟨g,o,none⟩ = W.cell? ⟨g,o,none⟩:=by simp [World.cell?,h]
def shift.T9:Bool × List (List Nat × List Nat):=(true,[([],[]),([0],[0]),([1],[1]),([2],[2]),([3],[3]),([4],[4]),([5],[5]),([6,5],[5,6]),([7,5],[5,7]),([8,5],[5,8]),([5],[5]),([10,5],[5,10]),([9,11,5],[5,9,11]),([5,12],[5,12])])
def shift.B9:List Nat:=[0,1,3,7,15,31,63,127,255,511,63,1087,4095,8191]
theorem shift.nC:q9 .any (opsOf Tryz.f25 9) = shift.T9:=by kernel_rfl
theorem shift.WC:xC shift.T9.2 shift.B9 = true:=by kernel_rfl
def shift.T17:Bool × List (List Nat × List Nat):=(true,[([],[]),([],[]),([],[]),([],[]),([0,0,2],[0]),([4,0,2],[4]),([5,2,0,2],[2,5]),([1,0,1,2,3,4,5,6],[1]),([7,0,1,2,3,4,5,6],[7]),([8,3,6,0,1,2,3,4,5,6],[3,8])])
def shift.B17:List Nat:=[0,0,0,0,5,21,53,127,255,511]
theorem shift.zWC:q9 .any (opsOf Tryz.f25 17) = shift.T17:=by kernel_rfl
theorem shift.zVP:xC shift.T17.2 shift.B17 = true:=by kernel_rfl
set_option maxRecDepth 100000 in
set_option maxHeartbeats 4000000 in
theorem zYS (A:Option Addr) (c:Nat) (bs:List yD) (s:Int) (Af:Option Addr) (cf:Nat) (l:List ql) (w:World) (hG:GW w) (hC:Kd.C Zw w Af l.length l) (hl:l.length ≤ 1000000000) (hz:∀ x ∈ l,x.f3.length ≤ 1000000000 ∧ x.f4.length ≤ 1000000000 ∧ x.f5.length ≤ 1000000000) (hr:WO l s = true) :
  Calls Tryz.prog 25 #[.slice A bs.length c,.int .i64 s,.slice Af l.length cf] w fun e w'=>e = .returned (.tuple #[.slice none 0 0,.int .i64 1]) ∧ Below w.heap.size w w':=by
 have hb0:Below w.heap.size w ((w.alloc (.cells #[.int .i64 s] 3)).alloc (.cells #[.slice Af l.length cf] 22)):=((Below.refl _ w).alloc (Nat.le_refl _) _).alloc (by simp) _
 by_cases h1:s < 1
 ·have i1:decide (s < 1) = true:=decide_eq_true h1
  clear h1 hr hz hC hG
  go_enter Tryz.func25,Tryz.ntmps25
  go_wp2_with fail
  go_ret2
  exact ⟨rfl,hb0⟩
 ·have i1:decide (s < 1) = false:=decide_eq_false h1
  by_cases h2:1000 < s
  ·have i2:decide (1000 < s) = true:=decide_eq_true h2
   clear h1 h2 hr hz hC hG
   go_enter Tryz.func25,Tryz.ntmps25
   go_wp2_with fail
   go_ret2
   exact ⟨rfl,hb0⟩
  ·have i2:decide (1000 < s) = false:=decide_eq_false h2
   have hv:(l.any fun x=>!q8 x) = true:=by unfold WO at hr;rw [i1,i2] at hr;exact hr
   have hcall:=iK Af cf l _ (Kd.za hC hb0) hl (fun x=>!q8 x) 65 #[] (pV Tryz.func65 (by kernel_rfl) rfl) (fun V y A3 c3 A4 c4 A5 c5 hm hV p3 g3 p4 g4 p5 g5 =>
    (fO y A3 c3 A4 c4 A5 c5 V (hG.under (hb0.trans (hV.mono hb0.size))) (hz y hm) p3 g3 p4 g4 p5 g5).mono fun e w' ⟨h1,h2⟩=>⟨h1,hV.trans (h2.mono hV.size)⟩)
   rw [hv] at hcall
   clear h1 h2 hr hz hC hG hv
   go_enter Tryz.func25,Tryz.ntmps25
   go_wp2_with fail
   refine hcall.mono ?_;rintro e w2 ⟨rfl,hb2⟩
   clear hcall
   go_wp2_with fail
   go_ret2
   exact ⟨rfl,hb0.trans (hb2.mono hb0.size)⟩
set_option maxRecDepth 100000 in
set_option maxHeartbeats 16000000 in
theorem zVR (A:Option Addr) (c:Nat) (bs:List yD) (s:Int) (Af:Option Addr) (cf:Nat) (l:List ql) (w:World) (hG:GW w) (hr:Kd.C qK w A bs.length bs) (hbl:bs.length ≤ 1000000) (hbz:∀ b ∈ bs,b.f6.length ≤ 1000000000)
  (hC:Kd.C Zw w Af l.length l) (hl:l.length ≤ 1000000000) (hz:∀ x ∈ l,x.f3.length ≤ 1000000000 ∧ x.f4.length ≤ 1000000000 ∧ x.f5.length ≤ 1000000000) (hrf:WO l s = false) :
  Calls Tryz.prog 25 #[.slice A bs.length c,.int .i64 s,.slice Af l.length cf] w fun e w'=>(if bs.any (Zb l s) then e = .returned (.tuple #[.slice none 0 0,.int .i64 1]) else ∃ v,e = .returned (.tuple #[v,.int .i64 0]) ∧ qK.S 53 w' w.heap.size (fun _=>True) v (bs.map (KT l s))) ∧ Below w.heap.size w w':=by
 obtain ⟨W0,hW0⟩:∃ W0,(w.alloc (.cells #[.int .i64 s] 3)).alloc (.cells #[.slice Af l.length cf] 22) = W0:=⟨_,rfl⟩
 have hb0:Below w.heap.size w W0:=by rw [← hW0];exact ((Below.refl _ w).alloc (Nat.le_refl _) _).alloc (by simp) _
 have hz0:W0.heap.size = w.heap.size + 1 + 1:=by rw [← hW0];simp
 have hs4:W0.heap[w.heap.size]? = some (.cells #[.int .i64 s] 3 (0,0)):=by rw [← hW0];exact kN (uV w _) _
 have hs5:W0.heap[w.heap.size + 1]? = some (.cells #[.slice Af l.length cf] 22 (0,0)):=by
  rw [← hW0]
  have h:=uV (w.alloc (.cells #[.int .i64 s] 3)) (.cells #[.slice Af l.length cf] 22)
  rwa [World.size_alloc] at h
 have i1:decide (s < 1) = false:=by cases h:decide (s < 1) with | false=>rfl | true=>(unfold WO at hrf;rw [h] at hrf;cases hrf)
 have i2:decide (1000 < s) = false:=by cases h:decide (1000 < s) with | false=>rfl | true=>(unfold WO at hrf;rw [h,i1] at hrf;cases hrf)
 have hv:(l.any fun x=>!q8 x) = false:=by unfold WO at hrf;rw [i1,i2] at hrf;exact hrf
 have hval:∀ x ∈ l,q8 x = true:=fun x hx=>by
  have h:=List.any_eq_false.1 hv x hx
  simpa using h
 have hcall:=iK Af cf l W0 (Kd.za hC hb0) hl (fun x=>!q8 x) 65 #[] (pV Tryz.func65 (by kernel_rfl) rfl) (fun V y A3 c3 A4 c4 A5 c5 hm hV p3 g3 p4 g4 p5 g5 =>
  (fO y A3 c3 A4 c4 A5 c5 V (hG.under (hb0.trans (hV.mono hb0.size))) (hz y hm) p3 g3 p4 g4 p5 g5).mono fun e w' ⟨h1,h2⟩=>⟨h1,hV.trans (h2.mono hV.size)⟩)
 rw [hv] at hcall
 have HBA:=zk.mk (show bs.any (Zb l s) = (bs.drop 0).any (Zb l s) from rfl)
 generalize bs.any (Zb l s) = ba at HBA ⊢
 have HB0:=zk.mk hb0
 have o7:=zk.mk hs4
 have HS5:=zk.mk hs5
 have HG:=zk.mk hG
 have HR:=zk.mk hr
 have HC:=zk.mk hC
 have HV:=zk.mk hval
 have HBZ:=zk.mk hbz
 have HZ0:=Lib.hid hz0
 generalize hg:w.heap.size = g0 at HB0 o7 HS5 HZ0 ⊢
 have mI:=Lib.hid hg
 have HW0:=hW0
 clear hb0 hs4 hs5 hG hr hC hval hbz hz0 hv hrf hz
 have y4:W0.cell? ⟨g0,0,none⟩ = some (.int .i64 s):=(zV o7.out 0).trans rfl
 have y5:W0.cell? ⟨g0 + 1,0,none⟩ = some (.slice Af l.length cf):=(zV HS5.out 0).trans rfl
 go_enter Tryz.func25,Tryz.ntmps25
 go_wp2_with fail
 clear y4 y5
 refine hcall.mono ?_;rintro e w2 ⟨rfl,hb2⟩
 have hbw2:Below w.heap.size w w2:=by rw [mI.out];exact HB0.out.trans (hb2.mono (by rw [HZ0.out];omega))
 have hown:=zwS A c bs w2 (Kd.za HR.out hbw2) hbl HBZ.out
 have HB2:=zk.mk hbw2
 have h42:=yY o7.out hb2
 have h52:=yY HS5.out hb2
 have zhp:=zk.mk h42
 have zhr:=zk.mk h52
 have y4:w2.cell? ⟨g0,0,none⟩ = some (.int .i64 s):=(zV h42 0).trans rfl
 have y5:w2.cell? ⟨g0 + 1,0,none⟩ = some (.slice Af l.length cf):=(zV h52 0).trans rfl
 have hz2:g0 + 1 + 1 ≤ w2.heap.size:=by have:=hb2.size;rw [HZ0.out] at this;exact this
 clear hcall hbw2 hb2 h42 h52 hW0 HW0 hg
 go_wp2_with fail
 refine hown.mono ?_;rintro e w3 ⟨v,rfl,hN,hb3⟩
 obtain ⟨Ao,co,rfl⟩:=Kd.Qd hN
 have HN:=zk.mk (show qK.S 53 w3 w2.heap.size (fun k=>w2.heap.size ≤ k) (.slice Ao bs.length co) (Jp l s bs 0) by rw [zYO];exact hN)
 have HB3:=zk.mk (Below.trans HB2.out (hb3.mono HB2.out.size))
 have zhs:=zk.mk hb3.size
 have zht:=zk.mk (yY zhp.out hb3)
 have zhu:=zk.mk (yY zhr.out hb3)
 clear hN hb3 hown y4 y5
 go_wp2_with fail
 go_loopw [28] (fun i W=>∃ k:Nat,k ≤ bs.length ∧ i = .int .i64 (k:Int) ∧ zk (qK.S 53 W w2.heap.size (fun k=>w2.heap.size ≤ k) (.slice Ao bs.length co) (Jp l s bs k)) ∧ zk (Below w.heap.size w W) ∧ zk (W.heap[g0]? = some (.cells #[.int .i64 s] 3 (0,0))) ∧ zk (W.heap[g0 + 1]? = some (.cells #[.slice Af l.length cf] 22 (0,0))) ∧ zk (ba = (bs.drop k).any (Zb l s)) ∧ zk (w2.heap.size ≤ W.heap.size)) (fun i _=>bs.length - (intOf i).toNat)
 case atStart=>exact ⟨0,Nat.zero_le _,rfl,HN,HB3,zht,zhu,HBA,zhs⟩
 case round =>
  obtain ⟨k,hk,rfl,HI,HW,H4,H5,HA,HSZ⟩:=hrel
  by_cases hlt:k < bs.length
  ·have hform:=Kd.zvA HI.out (by rw [aj];omega)
   rw [aj] at hform
   obtain ⟨go,cap,e,hgo,hgl,_⟩:=hform
   injection e with e1 e3 e2
   subst e1 e2
   try clear e3
   obtain ⟨uX,cs,hcl,hM,hcc,nR,hH⟩:=Kd.nk HI.out z53 (k:Int) (by omega) (by omega)
   have hfr:=(Kd.zKV hH (by omega) (by omega)).2
   rw [Int.toNat_natCast,zQN l s bs k hlt] at hM
   rw [Int.toNat_natCast] at hcc hfr
   obtain ⟨v6,rfl,hR6⟩:=WY hM
   clear hM hR6 hH nR hcl
   have x0:wr.cell? ⟨go,k * 7,none⟩ = some (.int .i64 bs[k].f0):=hcc 0 _ rfl
   have x1:wr.cell? ⟨go,k * 7 + 1,none⟩ = some (.int .i64 bs[k].f1):=hcc 1 _ rfl
   have x2:wr.cell? ⟨go,k * 7 + 2,none⟩ = some (.int .i64 bs[k].f2):=hcc 2 _ rfl
   have x3:wr.cell? ⟨go,k * 7 + 3,none⟩ = some (.int .i64 bs[k].f3):=hcc 3 _ rfl
   have x4:wr.cell? ⟨go,k * 7 + 4,none⟩ = some (.string bs[k].f4):=hcc 4 _ rfl
   have zJg:wr.frozen? ⟨go,k * 7 + 1,none⟩ = false:=hfr 1
   have zJh:wr.frozen? ⟨go,k * 7 + 3,none⟩ = false:=hfr 3
   have hsame:=zYP l s bs k hlt
   have hset:=zbd l s bs k hlt
   have hgx:=zQN l s bs k hlt z53
   have hany:=zYR bs (Zb l s) k hlt
   generalize bs[k] = x at x0 x1 x2 x3 x4 hsame hset hgx hany
   have HX:=zk.mk (And.intro hsame (And.intro hset hany))
   have HGX:=zk.mk hgx
   clear hsame hset hgx hany hcc hfr
   have y4:wr.cell? ⟨g0,0,none⟩ = some (.int .i64 s):=(zV H4.out 0).trans rfl
   have y5:wr.cell? ⟨g0 + 1,0,none⟩ = some (.slice Af l.length cf):=(zV H5.out 0).trans rfl
   by_cases hk0:x.f0 = 0
   ·skip
    have hkk:x.f0 = 0:=hk0
    rw [hkk] at x0
    obtain ⟨wb,hwb⟩:∃ wb,wr.alloc (.cells #[.pointer (some ⟨go,k * 7,none⟩)] 123) = wb:=⟨_,rfl⟩
    have hbb:Below wr.heap.size wr wb:=by rw [← hwb];exact (Below.refl _ wr).alloc (Nat.le_refl _) _
    have ht:wb.heap[wr.heap.size]? = some (.cells #[.pointer (some ⟨go,k * 7,none⟩)] 123 (0,0)):=by rw [← hwb];exact uV wr _
    generalize hgb:wr.heap.size = gb at ht hbb hgl
    have x2b:wb.cell? ⟨go,k * 7 + 2,none⟩ = some (.int .i64 x.f2):=(hbb.cell (p:=⟨go,_,none⟩) hgl).trans x2
    have x0b:wb.cell? ⟨go,k * 7,none⟩ = some (.int .i64 0):=(hbb.cell (p:=⟨go,_,none⟩) hgl).trans x0
    have x4b:wb.cell? ⟨go,k * 7 + 4,none⟩ = some (.string x.f4):=(hbb.cell (p:=⟨go,_,none⟩) hgl).trans x4
    have x1b:wb.cell? ⟨go,k * 7 + 1,none⟩ = some (.int .i64 x.f1):=(hbb.cell (p:=⟨go,_,none⟩) hgl).trans x1
    have x3b:wb.cell? ⟨go,k * 7 + 3,none⟩ = some (.int .i64 x.f3):=(hbb.cell (p:=⟨go,_,none⟩) hgl).trans x3
    have f1b:wb.frozen? ⟨go,k * 7 + 1,none⟩ = false:=(hbb.frozen (p:=⟨go,_,none⟩) hgl).trans zJg
    have f3b:wb.frozen? ⟨go,k * 7 + 3,none⟩ = false:=(hbb.frozen (p:=⟨go,_,none⟩) hgl).trans zJh
    have tb:wb.cell? ⟨gb,0,none⟩ = some (.pointer (some ⟨go,k * 7,none⟩)):=(zV ht 0).trans rfl
    have y4b:wb.cell? ⟨g0,0,none⟩ = some (.int .i64 s):=(hbb.cell (p:=⟨g0,0,none⟩) (by show g0 < gb;omega)).trans y4
    have y5b:wb.cell? ⟨g0 + 1,0,none⟩ = some (.slice Af l.length cf):=(hbb.cell (p:=⟨g0 + 1,0,none⟩) (by show g0 + 1 < gb;omega)).trans y5
    have XH:=zk.mk (show Below wr.heap.size wr wb by rw [hgb];exact hbb)
    have HSH:=zk.mk (show KT l s x = ⟨x.f0,(Jh l s x).1,x.f2,s,x.f4,x.f5,x.f6⟩ by unfold KT;rw [if_pos (Or.inl hkk)])
    have hbd:Zb l s x = (decide (x.f2 < 0) || (decide ((l.length:Int) ≤ x.f2) || !decide ((Jh l s x).2 = 0))):=by unfold Zb;rw [hkk];rfl
    have hak:Jh l s x = XO (vw l x.f2) x.f4 s:=by unfold Jh;rw [if_pos hkk]
    have HAK:=zk.mk hak
    have dG:=zk.mk hbd
    have HAB:=zk.mk (show ba = (Zb l s x || (bs.drop (k + 1)).any (Zb l s)) by rw [HA.out];exact HX.out.2.2)
    clear hak hbd hkk hk0 HA hbb x0 x1 x2 x3 x4 zJg zJh ht
    have KF:=zk.mk (fun (V:World) (h:Below wb.heap.size wb V)=>(show V.cell? ⟨gb,0,none⟩ = some (.pointer (some ⟨go,k * 7,none⟩)) ∧ V.cell? ⟨go,k * 7 + 2,none⟩ = some (.int .i64 x.f2) ∧ V.cell? ⟨g0 + 1,0,none⟩ = some (.slice Af l.length cf) from
     ⟨(h.cell (World.block_lt_of_cell? wb _ tb)).trans tb,(h.cell (World.block_lt_of_cell? wb _ x2b)).trans x2b,(h.cell (World.block_lt_of_cell? wb _ y5b)).trans y5b⟩))
    by_cases hn:x.f2 < 0
    ·have j1:decide (x.f2 < 0) = true:=decide_eq_true hn
     obtain rfl:ba = true:=by rw [HAB.out,dG.out,j1];rfl
     clear hn
     go_wp2_with fail
     refine RW.rS (n:=14) KF shift.nC shift.WC (by kernel_rfl) rfl rfl (fun w5 wK T U h=>?_)
     refine RW.rT 0 (some 46) T U h ?_
     refine RW.rP 1 (some 47) T ?_
     refine RW.rP 2 (some 48) T ?_
     refine RW.rT 3 (some 49) T U h ?_
     refine RW.rP 4 (some 50) T ?_
     refine RW.rP 5 (some 51) T ?_
     refine RW.rU 6 (some 52) T ?_
     refine RW.rU 7 (some 53) T ?_
     refine RW.rU 8 (some 54) T ?_
     refine RW.rU 9 (some 55) T ?_
     refine RW.rU 10 (some 56) T ?_
     refine RW.rU 11 (some 57) T ?_
     refine RW.rU 12 (some 58) T ?_
     refine RW.rP 13 (some 59) T ?_
     refine um (xK T.out (by kernel_rfl)) ?_
     clear h
     go_wp2_with fail
     go_ret2
     exact ⟨rfl,by rw [← mI.out];exact (HW.out.trans (XH.out.mono HW.out.size)).trans (wK.out.mono (Nat.le_trans HW.out.size XH.out.size))⟩
    ·have j1:decide (x.f2 < 0) = false:=decide_eq_false hn
     by_cases hm:(l.length:Int) ≤ x.f2
     ·have j2:decide ((l.length:Int) ≤ x.f2) = true:=decide_eq_true hm
      obtain rfl:ba = true:=by rw [HAB.out,dG.out,j1,j2];rfl
      clear hn hm
      go_wp2_with fail
      refine RW.rS (n:=14) KF shift.nC shift.WC (by kernel_rfl) rfl rfl (fun w5 wK T U h=>?_)
      refine RW.rT 0 (some 46) T U h ?_
      refine RW.rP 1 (some 47) T ?_
      refine RW.rP 2 (some 48) T ?_
      refine RW.rT 3 (some 49) T U h ?_
      refine RW.rP 4 (some 50) T ?_
      refine RW.rP 5 (some 51) T ?_
      refine RW.rT 6 (some 52) T U h ?_
      refine RW.rP 7 (some 53) T ?_
      refine RW.rP 8 (some 54) T ?_
      refine RW.rT 9 (some 55) T U h ?_
      refine RW.rT 10 (some 56) T U h ?_
      refine RW.rP 11 (some 57) T ?_
      refine RW.rP 12 (some 58) T ?_
      refine RW.rP 13 (some 59) T ?_
      refine um (xK T.out (by kernel_rfl)) ?_
      clear h
      go_wp2_with fail
      go_ret2
      exact ⟨rfl,by rw [← mI.out];exact (HW.out.trans (XH.out.mono HW.out.size)).trans (wK.out.mono (Nat.le_trans HW.out.size XH.out.size))⟩
     ·have j2:decide ((l.length:Int) ≤ x.f2) = false:=decide_eq_false hm
      have hf0:0 ≤ x.f2:=by omega
      have hf1:x.f2 < (l.length:Int):=by omega
      clear hn hm
      go_wp2_with fail
      refine RW.rS (n:=14) KF shift.nC shift.WC (by kernel_rfl) rfl rfl (fun w5 wK T U h=>?_)
      refine RW.rT 0 (some 46) T U h ?_
      refine RW.rP 1 (some 47) T ?_
      refine RW.rP 2 (some 48) T ?_
      refine RW.rT 3 (some 49) T U h ?_
      refine RW.rP 4 (some 50) T ?_
      refine RW.rP 5 (some 51) T ?_
      refine RW.rT 6 (some 52) T U h ?_
      refine RW.rP 7 (some 53) T ?_
      refine RW.rP 8 (some 54) T ?_
      refine RW.rT 9 (some 55) T U h ?_
      refine RW.rT 10 (some 56) T U h ?_
      refine RW.rP 11 (some 57) T ?_
      refine RW.rP 12 (some 58) T ?_
      refine RW.rP 13 (some 59) T ?_
      refine um (xK T.out (by kernel_rfl)) ?_
      clear h
      have sb:=XH.out.size
      have KU:go < wb.heap.size:=by omega
      have gbb:gb < wb.heap.size:=World.block_lt_of_cell? wb _ tb
      have c0:w5.cell? ⟨go,k * 7,none⟩ = some (.int .i64 0):=(wK.out.cell (p:=⟨go,_,none⟩) KU).trans x0b
      have c1:w5.cell? ⟨go,k * 7 + 1,none⟩ = some (.int .i64 x.f1):=(wK.out.cell (p:=⟨go,_,none⟩) KU).trans x1b
      have c2:w5.cell? ⟨go,k * 7 + 2,none⟩ = some (.int .i64 x.f2):=(wK.out.cell (p:=⟨go,_,none⟩) KU).trans x2b
      have c3:w5.cell? ⟨go,k * 7 + 3,none⟩ = some (.int .i64 x.f3):=(wK.out.cell (p:=⟨go,_,none⟩) KU).trans x3b
      have c4:w5.cell? ⟨go,k * 7 + 4,none⟩ = some (.string x.f4):=(wK.out.cell (p:=⟨go,_,none⟩) KU).trans x4b
      have f1:w5.frozen? ⟨go,k * 7 + 1,none⟩ = false:=(wK.out.frozen (p:=⟨go,_,none⟩) KU).trans f1b
      have f3:w5.frozen? ⟨go,k * 7 + 3,none⟩ = false:=(wK.out.frozen (p:=⟨go,_,none⟩) KU).trans f3b
      have t5:w5.cell? ⟨gb,0,none⟩ = some (.pointer (some ⟨go,k * 7,none⟩)):=(wK.out.cell (p:=⟨gb,_,none⟩) gbb).trans tb
      have q4:w5.cell? ⟨g0,0,none⟩ = some (.int .i64 s):=(wK.out.cell (p:=⟨g0,_,none⟩) (by show g0 < wb.heap.size;omega)).trans y4b
      have q5:w5.cell? ⟨g0 + 1,0,none⟩ = some (.slice Af l.length cf):=(wK.out.cell (p:=⟨g0 + 1,_,none⟩) (by show g0 + 1 < wb.heap.size;omega)).trans y5b
      clear x0b x1b x2b x3b x4b f1b f3b tb y4b y5b KF T U y4 y5
      have nL:Below w.heap.size w w5:=(HW.out.trans (XH.out.mono HW.out.size)).trans (wK.out.mono (Nat.le_trans HW.out.size XH.out.size))
      have K8:=zVN g0 (g0 + 1) gb Af cf l s x.f2 x.f4 go (k * 7) w5 (HG.out.under nL) (Kd.za HC.out nL) hl hf0 hf1 HV.out ⟨q5,t5,q4⟩ c2 c4
      rw [← HAK.out] at K8
      generalize Jh l s x = av at K8 HSH dG
      obtain ⟨wv,we⟩:=av
      dsimp only at K8 HSH dG
      have oo:=zk.mk nL
      have s5:=wK.out.size
      clear nL HAK
      go_wp2_with fail
      refine K8.mono ?_;rintro e w6 ⟨rfl,hb6⟩
      have go5:go < w5.heap.size:=by omega
      have gb5:gb < w5.heap.size:=by omega
      have d1:w6.cell? ⟨go,k * 7 + 1,none⟩ = some (.int .i64 x.f1):=(hb6.cell (p:=⟨go,_,none⟩) go5).trans c1
      have d3:w6.cell? ⟨go,k * 7 + 3,none⟩ = some (.int .i64 x.f3):=(hb6.cell (p:=⟨go,_,none⟩) go5).trans c3
      have e1:w6.frozen? ⟨go,k * 7 + 1,none⟩ = false:=(hb6.frozen (p:=⟨go,_,none⟩) go5).trans f1
      have e3:w6.frozen? ⟨go,k * 7 + 3,none⟩ = false:=(hb6.frozen (p:=⟨go,_,none⟩) go5).trans f3
      have t6:w6.cell? ⟨gb,0,none⟩ = some (.pointer (some ⟨go,k * 7,none⟩)):=(hb6.cell (p:=⟨gb,_,none⟩) gb5).trans t5
      have r4:w6.cell? ⟨g0,0,none⟩ = some (.int .i64 s):=(hb6.cell (p:=⟨g0,_,none⟩) (by show g0 < w5.heap.size;omega)).trans q4
      have HB6:=zk.mk (Below.trans wK.out (hb6.mono s5))
      have nV:=zk.mk (oo.out.trans (hb6.mono oo.out.size))
      clear c0 c1 c2 c3 c4 f1 f3 t5 q4 q5 hb6 K8
      by_cases he:we = 0
      ·have HE:=Lib.hid he
       subst he
       have zkd:=zk.mk (fun (V:World) (h:Below w6.heap.size w6 V)=>(show V.cell? ⟨gb,0,none⟩ = some (.pointer (some ⟨go,k * 7,none⟩)) ∧ V.cell? ⟨g0,0,none⟩ = some (.int .i64 s) from
        ⟨(h.cell (World.block_lt_of_cell? w6 _ t6)).trans t6,(h.cell (World.block_lt_of_cell? w6 _ r4)).trans r4⟩))
       go_wp2_with fail
       refine RW.rSD (n:=10) [9] zkd shift.zWC shift.zVP (by kernel_rfl) rfl rfl (fun w7 H7 T U h=>?_)
       refine RW.rT 0 (some 74) T U h ?_
       refine RW.rT 1 (some 75) T U h ?_
       refine RW.rP 2 (some 76) T ?_
       refine RW.rT 3 (some 77) T U h ?_
       refine RW.rP 4 (some 78) T ?_
       refine RW.rP 5 (some 79) T ?_
       clear h
       have go7:go < w6.heap.size:=World.block_lt_of_cell? w6 _ d1
       have u1:w7.cell? ⟨go,k * 7 + 1,none⟩ = some (.int .i64 x.f1):=(H7.out.cell (p:=⟨go,_,none⟩) go7).trans d1
       have v1:w7.frozen? ⟨go,k * 7 + 1,none⟩ = false:=(H7.out.frozen (p:=⟨go,_,none⟩) go7).trans e1
       have u3:w7.cell? ⟨go,k * 7 + 3,none⟩ = some (.int .i64 x.f3):=(H7.out.cell (p:=⟨go,_,none⟩) go7).trans d3
       have v3:w7.frozen? ⟨go,k * 7 + 3,none⟩ = false:=(H7.out.frozen (p:=⟨go,_,none⟩) go7).trans e3
       have h17:=zkd.out _ H7.out
       have HW7:=zk.mk (nV.out.trans (H7.out.mono nV.out.size))
       have hr7:Below wr.heap.size wr w7:=(XH.out.trans (HB6.out.mono XH.out.size)).trans (H7.out.mono (Nat.le_trans XH.out.size HB6.out.size))
       have HR7:=zk.mk hr7
       have hN7:=zWB (Kd.kM HI.out hr7) hlt (by rw [aj];exact hlt) wv s x HGX.out
       rw [← HSH.out,HX.out.2.1] at hN7
       have HN7:=zk.mk hN7
       refine Yr (i:=6) (N:=none) #[true,true,true,true,true,true,true,false,false,false] rfl rfl (jY T.out (by kernel_rfl)) (by decide) (fun K hK=>?_)
       refine WJ (w1:=?_) (by rfl) rfl ?_ ?_
       rotate_left
       ·go_simp
        rfl
       have S8:(w7.setCell ⟨go,k * 7 + 1,none⟩ (.int .i64 wv)).cell? ⟨gb,0,none⟩ = some (.pointer (some ⟨go,k * 7,none⟩)) ∧ (w7.setCell ⟨go,k * 7 + 1,none⟩ (.int .i64 wv)).cell? ⟨g0,0,none⟩ = some (.int .i64 s) :=
        ⟨(zzK (Below.heap_setCell w7 ⟨go,k * 7 + 1,none⟩ (.int .i64 wv) gb (by show gb ≠ go;omega))).trans h17.1,(zzK (Below.heap_setCell w7 ⟨go,k * 7 + 1,none⟩ (.int .i64 wv) g0 (by show g0 ≠ go;omega))).trans h17.2⟩
       refine hK.out _ _ S8 (fun h=>?_)
       clear hK K h hN7 hr7
       refine RW.rP 7 (some 80) T ?_
       refine RW.rP 8 (some 81) T ?_
       have z3:(w7.setCell ⟨go,k * 7 + 1,none⟩ (.int .i64 wv)).cell? ⟨go,k * 7 + 3,none⟩ = some (.int .i64 x.f3):=(World.cell?_setCell_other _ _ _ _ (by intro e;injection e with _ e;omega)).trans u3
       have z4:(w7.setCell ⟨go,k * 7 + 1,none⟩ (.int .i64 wv)).frozen? ⟨go,k * 7 + 3,none⟩ = false:=by simpa using v3
       refine sj (i:=9) (N:=none) #[true,true,true,true,true,true,true,true,true,true] rfl rfl (jY T.out (by kernel_rfl)) (by decide) (fun K hK=>?_)
       refine WJ (w1:=?_) (by rfl) rfl ?_ ?_
       rotate_left
       ·go_simp
        rfl
       refine hK.out _ _ ?_
       clear hK K
       refine um (xK T.out (by kernel_rfl)) ?_
       have HW9:=zk.mk ((HW7.out.setCell (p:=⟨go,k * 7 + 1,none⟩) (by show w.heap.size ≤ go;rw [mI.out];omega) (.int .i64 wv)).setCell (p:=⟨go,k * 7 + 3,none⟩) (by show w.heap.size ≤ go;rw [mI.out];omega) (.int .i64 s))
       have hn0:g0 ≠ go:=by omega
       have hn1:g0 + 1 ≠ go:=by omega
       have H49:=zk.mk ((Below.heap_setCell (w7.setCell ⟨go,k * 7 + 1,none⟩ (.int .i64 wv)) ⟨go,k * 7 + 3,none⟩ (.int .i64 s) g0 hn0).trans ((Below.heap_setCell w7 ⟨go,k * 7 + 1,none⟩ (.int .i64 wv) g0 hn0).trans (yY H4.out HR7.out)))
       have H59:=zk.mk ((Below.heap_setCell (w7.setCell ⟨go,k * 7 + 1,none⟩ (.int .i64 wv)) ⟨go,k * 7 + 3,none⟩ (.int .i64 s) (g0 + 1) hn1).trans ((Below.heap_setCell w7 ⟨go,k * 7 + 1,none⟩ (.int .i64 wv) (g0 + 1) hn1).trans (yY H5.out HR7.out)))
       have zke:=zk.mk (show w2.heap.size ≤ ((w7.setCell ⟨go,k * 7 + 1,none⟩ (.int .i64 wv)).setCell ⟨go,k * 7 + 3,none⟩ (.int .i64 s)).heap.size by
        have h1:=HR7.out.size
        have h2:=HSZ.out
        simp
        omega)
       have HA9:=zk.mk (show ba = (bs.drop (k + 1)).any (Zb l s) by rw [HAB.out,dG.out,j1,j2];rfl)
       generalize (w7.setCell ⟨go,k * 7 + 1,none⟩ (.int .i64 wv)).setCell ⟨go,k * 7 + 3,none⟩ (.int .i64 s) = w9 at HN7 HW9 H49 H59 zke ⊢
       clear z3 z4 u1 v1 u3 v3 S8 h17 d1 d3 e1 e3 t6 r4
       go_wp2_with fail
       go_roundw
       case rel=>exact ⟨k + 1,by omega,by first | rfl | go_num,HN7,HW9,H49,H59,HA9,zke⟩
       case measure=>simp [intOf];omega
      ·have j3:(we == 0) = false:=beq_eq_false_iff_ne.2 he
       have j4:(we != 0) = true:=by simpa using he
       have j5:(!(we == 0)) = true:=by simpa using he
       obtain rfl:ba = true:=by rw [HAB.out,dG.out,j1,j2,decide_eq_false he];rfl
       clear he
       go_wp2_with fail
       go_ret2
       exact ⟨rfl,by rw [← mI.out];exact nV.out⟩
   ·by_cases hk1:x.f0 = 1
    ·skip
     have hkk:x.f0 = 1:=hk1
     rw [hkk] at x0
     obtain ⟨wb,hwb⟩:∃ wb,wr.alloc (.cells #[.pointer (some ⟨go,k * 7,none⟩)] 123) = wb:=⟨_,rfl⟩
     have hbb:Below wr.heap.size wr wb:=by rw [← hwb];exact (Below.refl _ wr).alloc (Nat.le_refl _) _
     have ht:wb.heap[wr.heap.size]? = some (.cells #[.pointer (some ⟨go,k * 7,none⟩)] 123 (0,0)):=by rw [← hwb];exact uV wr _
     generalize hgb:wr.heap.size = gb at ht hbb hgl
     have x2b:wb.cell? ⟨go,k * 7 + 2,none⟩ = some (.int .i64 x.f2):=(hbb.cell (p:=⟨go,_,none⟩) hgl).trans x2
     have x0b:wb.cell? ⟨go,k * 7,none⟩ = some (.int .i64 1):=(hbb.cell (p:=⟨go,_,none⟩) hgl).trans x0
     have x4b:wb.cell? ⟨go,k * 7 + 4,none⟩ = some (.string x.f4):=(hbb.cell (p:=⟨go,_,none⟩) hgl).trans x4
     have x1b:wb.cell? ⟨go,k * 7 + 1,none⟩ = some (.int .i64 x.f1):=(hbb.cell (p:=⟨go,_,none⟩) hgl).trans x1
     have x3b:wb.cell? ⟨go,k * 7 + 3,none⟩ = some (.int .i64 x.f3):=(hbb.cell (p:=⟨go,_,none⟩) hgl).trans x3
     have f1b:wb.frozen? ⟨go,k * 7 + 1,none⟩ = false:=(hbb.frozen (p:=⟨go,_,none⟩) hgl).trans zJg
     have f3b:wb.frozen? ⟨go,k * 7 + 3,none⟩ = false:=(hbb.frozen (p:=⟨go,_,none⟩) hgl).trans zJh
     have tb:wb.cell? ⟨gb,0,none⟩ = some (.pointer (some ⟨go,k * 7,none⟩)):=(zV ht 0).trans rfl
     have y4b:wb.cell? ⟨g0,0,none⟩ = some (.int .i64 s):=(hbb.cell (p:=⟨g0,0,none⟩) (by show g0 < gb;omega)).trans y4
     have y5b:wb.cell? ⟨g0 + 1,0,none⟩ = some (.slice Af l.length cf):=(hbb.cell (p:=⟨g0 + 1,0,none⟩) (by show g0 + 1 < gb;omega)).trans y5
     have XH:=zk.mk (show Below wr.heap.size wr wb by rw [hgb];exact hbb)
     have HSH:=zk.mk (show KT l s x = ⟨x.f0,(Jh l s x).1,x.f2,s,x.f4,x.f5,x.f6⟩ by unfold KT;rw [if_pos (Or.inr hkk)])
     have hbd:Zb l s x = (decide (x.f2 < 0) || (decide ((l.length:Int) ≤ x.f2) || !decide ((Jh l s x).2 = 0))):=by unfold Zb;rw [hkk];rfl
     have hak:Jh l s x = V9 (vw l x.f2) s:=by unfold Jh;rw [if_neg hk0]
     have HAK:=zk.mk hak
     have dG:=zk.mk hbd
     have HAB:=zk.mk (show ba = (Zb l s x || (bs.drop (k + 1)).any (Zb l s)) by rw [HA.out];exact HX.out.2.2)
     clear hak hbd hkk hk0 hk1 HA hbb x0 x1 x2 x3 x4 zJg zJh ht
     have KF:=zk.mk (fun (V:World) (h:Below wb.heap.size wb V)=>(show V.cell? ⟨gb,0,none⟩ = some (.pointer (some ⟨go,k * 7,none⟩)) ∧ V.cell? ⟨go,k * 7 + 2,none⟩ = some (.int .i64 x.f2) ∧ V.cell? ⟨g0 + 1,0,none⟩ = some (.slice Af l.length cf) from
      ⟨(h.cell (World.block_lt_of_cell? wb _ tb)).trans tb,(h.cell (World.block_lt_of_cell? wb _ x2b)).trans x2b,(h.cell (World.block_lt_of_cell? wb _ y5b)).trans y5b⟩))
     by_cases hn:x.f2 < 0
     ·have j1:decide (x.f2 < 0) = true:=decide_eq_true hn
      obtain rfl:ba = true:=by rw [HAB.out,dG.out,j1];rfl
      clear hn
      go_wp2_with fail
      refine RW.rS (n:=14) KF shift.nC shift.WC (by kernel_rfl) rfl rfl (fun w5 wK T U h=>?_)
      refine RW.rT 0 (some 46) T U h ?_
      refine RW.rP 1 (some 47) T ?_
      refine RW.rP 2 (some 48) T ?_
      refine RW.rT 3 (some 49) T U h ?_
      refine RW.rP 4 (some 50) T ?_
      refine RW.rP 5 (some 51) T ?_
      refine RW.rU 6 (some 52) T ?_
      refine RW.rU 7 (some 53) T ?_
      refine RW.rU 8 (some 54) T ?_
      refine RW.rU 9 (some 55) T ?_
      refine RW.rU 10 (some 56) T ?_
      refine RW.rU 11 (some 57) T ?_
      refine RW.rU 12 (some 58) T ?_
      refine RW.rP 13 (some 59) T ?_
      refine um (xK T.out (by kernel_rfl)) ?_
      clear h
      go_wp2_with fail
      go_ret2
      exact ⟨rfl,by rw [← mI.out];exact (HW.out.trans (XH.out.mono HW.out.size)).trans (wK.out.mono (Nat.le_trans HW.out.size XH.out.size))⟩
     ·have j1:decide (x.f2 < 0) = false:=decide_eq_false hn
      by_cases hm:(l.length:Int) ≤ x.f2
      ·have j2:decide ((l.length:Int) ≤ x.f2) = true:=decide_eq_true hm
       obtain rfl:ba = true:=by rw [HAB.out,dG.out,j1,j2];rfl
       clear hn hm
       go_wp2_with fail
       refine RW.rS (n:=14) KF shift.nC shift.WC (by kernel_rfl) rfl rfl (fun w5 wK T U h=>?_)
       refine RW.rT 0 (some 46) T U h ?_
       refine RW.rP 1 (some 47) T ?_
       refine RW.rP 2 (some 48) T ?_
       refine RW.rT 3 (some 49) T U h ?_
       refine RW.rP 4 (some 50) T ?_
       refine RW.rP 5 (some 51) T ?_
       refine RW.rT 6 (some 52) T U h ?_
       refine RW.rP 7 (some 53) T ?_
       refine RW.rP 8 (some 54) T ?_
       refine RW.rT 9 (some 55) T U h ?_
       refine RW.rT 10 (some 56) T U h ?_
       refine RW.rP 11 (some 57) T ?_
       refine RW.rP 12 (some 58) T ?_
       refine RW.rP 13 (some 59) T ?_
       refine um (xK T.out (by kernel_rfl)) ?_
       clear h
       go_wp2_with fail
       go_ret2
       exact ⟨rfl,by rw [← mI.out];exact (HW.out.trans (XH.out.mono HW.out.size)).trans (wK.out.mono (Nat.le_trans HW.out.size XH.out.size))⟩
      ·have j2:decide ((l.length:Int) ≤ x.f2) = false:=decide_eq_false hm
       have hf0:0 ≤ x.f2:=by omega
       have hf1:x.f2 < (l.length:Int):=by omega
       clear hn hm
       go_wp2_with fail
       refine RW.rS (n:=14) KF shift.nC shift.WC (by kernel_rfl) rfl rfl (fun w5 wK T U h=>?_)
       refine RW.rT 0 (some 46) T U h ?_
       refine RW.rP 1 (some 47) T ?_
       refine RW.rP 2 (some 48) T ?_
       refine RW.rT 3 (some 49) T U h ?_
       refine RW.rP 4 (some 50) T ?_
       refine RW.rP 5 (some 51) T ?_
       refine RW.rT 6 (some 52) T U h ?_
       refine RW.rP 7 (some 53) T ?_
       refine RW.rP 8 (some 54) T ?_
       refine RW.rT 9 (some 55) T U h ?_
       refine RW.rT 10 (some 56) T U h ?_
       refine RW.rP 11 (some 57) T ?_
       refine RW.rP 12 (some 58) T ?_
       refine RW.rP 13 (some 59) T ?_
       refine um (xK T.out (by kernel_rfl)) ?_
       clear h
       have sb:=XH.out.size
       have KU:go < wb.heap.size:=by omega
       have gbb:gb < wb.heap.size:=World.block_lt_of_cell? wb _ tb
       have c0:w5.cell? ⟨go,k * 7,none⟩ = some (.int .i64 1):=(wK.out.cell (p:=⟨go,_,none⟩) KU).trans x0b
       have c1:w5.cell? ⟨go,k * 7 + 1,none⟩ = some (.int .i64 x.f1):=(wK.out.cell (p:=⟨go,_,none⟩) KU).trans x1b
       have c2:w5.cell? ⟨go,k * 7 + 2,none⟩ = some (.int .i64 x.f2):=(wK.out.cell (p:=⟨go,_,none⟩) KU).trans x2b
       have c3:w5.cell? ⟨go,k * 7 + 3,none⟩ = some (.int .i64 x.f3):=(wK.out.cell (p:=⟨go,_,none⟩) KU).trans x3b
       have c4:w5.cell? ⟨go,k * 7 + 4,none⟩ = some (.string x.f4):=(wK.out.cell (p:=⟨go,_,none⟩) KU).trans x4b
       have f1:w5.frozen? ⟨go,k * 7 + 1,none⟩ = false:=(wK.out.frozen (p:=⟨go,_,none⟩) KU).trans f1b
       have f3:w5.frozen? ⟨go,k * 7 + 3,none⟩ = false:=(wK.out.frozen (p:=⟨go,_,none⟩) KU).trans f3b
       have t5:w5.cell? ⟨gb,0,none⟩ = some (.pointer (some ⟨go,k * 7,none⟩)):=(wK.out.cell (p:=⟨gb,_,none⟩) gbb).trans tb
       have q4:w5.cell? ⟨g0,0,none⟩ = some (.int .i64 s):=(wK.out.cell (p:=⟨g0,_,none⟩) (by show g0 < wb.heap.size;omega)).trans y4b
       have q5:w5.cell? ⟨g0 + 1,0,none⟩ = some (.slice Af l.length cf):=(wK.out.cell (p:=⟨g0 + 1,_,none⟩) (by show g0 + 1 < wb.heap.size;omega)).trans y5b
       clear x0b x1b x2b x3b x4b f1b f3b tb y4b y5b KF T U y4 y5
       have nL:Below w.heap.size w w5:=(HW.out.trans (XH.out.mono HW.out.size)).trans (wK.out.mono (Nat.le_trans HW.out.size XH.out.size))
       have K8:=zVM g0 (g0 + 1) gb Af cf l s x.f2 go (k * 7) w5 (HG.out.under nL) (Kd.za HC.out nL) hl hf0 hf1 HV.out ⟨q5,t5,q4⟩ c2
       rw [← HAK.out] at K8
       generalize Jh l s x = av at K8 HSH dG
       obtain ⟨wv,we⟩:=av
       dsimp only at K8 HSH dG
       have oo:=zk.mk nL
       have s5:=wK.out.size
       clear nL HAK
       go_wp2_with fail
       refine K8.mono ?_;rintro e w6 ⟨rfl,hb6⟩
       have go5:go < w5.heap.size:=by omega
       have gb5:gb < w5.heap.size:=by omega
       have d1:w6.cell? ⟨go,k * 7 + 1,none⟩ = some (.int .i64 x.f1):=(hb6.cell (p:=⟨go,_,none⟩) go5).trans c1
       have d3:w6.cell? ⟨go,k * 7 + 3,none⟩ = some (.int .i64 x.f3):=(hb6.cell (p:=⟨go,_,none⟩) go5).trans c3
       have e1:w6.frozen? ⟨go,k * 7 + 1,none⟩ = false:=(hb6.frozen (p:=⟨go,_,none⟩) go5).trans f1
       have e3:w6.frozen? ⟨go,k * 7 + 3,none⟩ = false:=(hb6.frozen (p:=⟨go,_,none⟩) go5).trans f3
       have t6:w6.cell? ⟨gb,0,none⟩ = some (.pointer (some ⟨go,k * 7,none⟩)):=(hb6.cell (p:=⟨gb,_,none⟩) gb5).trans t5
       have r4:w6.cell? ⟨g0,0,none⟩ = some (.int .i64 s):=(hb6.cell (p:=⟨g0,_,none⟩) (by show g0 < w5.heap.size;omega)).trans q4
       have HB6:=zk.mk (Below.trans wK.out (hb6.mono s5))
       have nV:=zk.mk (oo.out.trans (hb6.mono oo.out.size))
       clear c0 c1 c2 c3 c4 f1 f3 t5 q4 q5 hb6 K8
       by_cases he:we = 0
       ·have HE:=Lib.hid he
        subst he
        have zkd:=zk.mk (fun (V:World) (h:Below w6.heap.size w6 V)=>(show V.cell? ⟨gb,0,none⟩ = some (.pointer (some ⟨go,k * 7,none⟩)) ∧ V.cell? ⟨g0,0,none⟩ = some (.int .i64 s) from
         ⟨(h.cell (World.block_lt_of_cell? w6 _ t6)).trans t6,(h.cell (World.block_lt_of_cell? w6 _ r4)).trans r4⟩))
        go_wp2_with fail
        refine RW.rSD (n:=10) [9] zkd shift.zWC shift.zVP (by kernel_rfl) rfl rfl (fun w7 H7 T U h=>?_)
        refine RW.rT 0 (some 74) T U h ?_
        refine RW.rT 1 (some 75) T U h ?_
        refine RW.rP 2 (some 76) T ?_
        refine RW.rT 3 (some 77) T U h ?_
        refine RW.rP 4 (some 78) T ?_
        refine RW.rP 5 (some 79) T ?_
        clear h
        have go7:go < w6.heap.size:=World.block_lt_of_cell? w6 _ d1
        have u1:w7.cell? ⟨go,k * 7 + 1,none⟩ = some (.int .i64 x.f1):=(H7.out.cell (p:=⟨go,_,none⟩) go7).trans d1
        have v1:w7.frozen? ⟨go,k * 7 + 1,none⟩ = false:=(H7.out.frozen (p:=⟨go,_,none⟩) go7).trans e1
        have u3:w7.cell? ⟨go,k * 7 + 3,none⟩ = some (.int .i64 x.f3):=(H7.out.cell (p:=⟨go,_,none⟩) go7).trans d3
        have v3:w7.frozen? ⟨go,k * 7 + 3,none⟩ = false:=(H7.out.frozen (p:=⟨go,_,none⟩) go7).trans e3
        have h17:=zkd.out _ H7.out
        have HW7:=zk.mk (nV.out.trans (H7.out.mono nV.out.size))
        have hr7:Below wr.heap.size wr w7:=(XH.out.trans (HB6.out.mono XH.out.size)).trans (H7.out.mono (Nat.le_trans XH.out.size HB6.out.size))
        have HR7:=zk.mk hr7
        have hN7:=zWB (Kd.kM HI.out hr7) hlt (by rw [aj];exact hlt) wv s x HGX.out
        rw [← HSH.out,HX.out.2.1] at hN7
        have HN7:=zk.mk hN7
        refine Yr (i:=6) (N:=none) #[true,true,true,true,true,true,true,false,false,false] rfl rfl (jY T.out (by kernel_rfl)) (by decide) (fun K hK=>?_)
        refine WJ (w1:=?_) (by rfl) rfl ?_ ?_
        rotate_left
        ·go_simp
         rfl
        have S8:(w7.setCell ⟨go,k * 7 + 1,none⟩ (.int .i64 wv)).cell? ⟨gb,0,none⟩ = some (.pointer (some ⟨go,k * 7,none⟩)) ∧ (w7.setCell ⟨go,k * 7 + 1,none⟩ (.int .i64 wv)).cell? ⟨g0,0,none⟩ = some (.int .i64 s) :=
         ⟨(zzK (Below.heap_setCell w7 ⟨go,k * 7 + 1,none⟩ (.int .i64 wv) gb (by show gb ≠ go;omega))).trans h17.1,(zzK (Below.heap_setCell w7 ⟨go,k * 7 + 1,none⟩ (.int .i64 wv) g0 (by show g0 ≠ go;omega))).trans h17.2⟩
        refine hK.out _ _ S8 (fun h=>?_)
        clear hK K h hN7 hr7
        refine RW.rP 7 (some 80) T ?_
        refine RW.rP 8 (some 81) T ?_
        have z3:(w7.setCell ⟨go,k * 7 + 1,none⟩ (.int .i64 wv)).cell? ⟨go,k * 7 + 3,none⟩ = some (.int .i64 x.f3):=(World.cell?_setCell_other _ _ _ _ (by intro e;injection e with _ e;omega)).trans u3
        have z4:(w7.setCell ⟨go,k * 7 + 1,none⟩ (.int .i64 wv)).frozen? ⟨go,k * 7 + 3,none⟩ = false:=by simpa using v3
        refine sj (i:=9) (N:=none) #[true,true,true,true,true,true,true,true,true,true] rfl rfl (jY T.out (by kernel_rfl)) (by decide) (fun K hK=>?_)
        refine WJ (w1:=?_) (by rfl) rfl ?_ ?_
        rotate_left
        ·go_simp
         rfl
        refine hK.out _ _ ?_
        clear hK K
        refine um (xK T.out (by kernel_rfl)) ?_
        have HW9:=zk.mk ((HW7.out.setCell (p:=⟨go,k * 7 + 1,none⟩) (by show w.heap.size ≤ go;rw [mI.out];omega) (.int .i64 wv)).setCell (p:=⟨go,k * 7 + 3,none⟩) (by show w.heap.size ≤ go;rw [mI.out];omega) (.int .i64 s))
        have hn0:g0 ≠ go:=by omega
        have hn1:g0 + 1 ≠ go:=by omega
        have H49:=zk.mk ((Below.heap_setCell (w7.setCell ⟨go,k * 7 + 1,none⟩ (.int .i64 wv)) ⟨go,k * 7 + 3,none⟩ (.int .i64 s) g0 hn0).trans ((Below.heap_setCell w7 ⟨go,k * 7 + 1,none⟩ (.int .i64 wv) g0 hn0).trans (yY H4.out HR7.out)))
        have H59:=zk.mk ((Below.heap_setCell (w7.setCell ⟨go,k * 7 + 1,none⟩ (.int .i64 wv)) ⟨go,k * 7 + 3,none⟩ (.int .i64 s) (g0 + 1) hn1).trans ((Below.heap_setCell w7 ⟨go,k * 7 + 1,none⟩ (.int .i64 wv) (g0 + 1) hn1).trans (yY H5.out HR7.out)))
        have zke:=zk.mk (show w2.heap.size ≤ ((w7.setCell ⟨go,k * 7 + 1,none⟩ (.int .i64 wv)).setCell ⟨go,k * 7 + 3,none⟩ (.int .i64 s)).heap.size by
         have h1:=HR7.out.size
         have h2:=HSZ.out
         simp
         omega)
        have HA9:=zk.mk (show ba = (bs.drop (k + 1)).any (Zb l s) by rw [HAB.out,dG.out,j1,j2];rfl)
        generalize (w7.setCell ⟨go,k * 7 + 1,none⟩ (.int .i64 wv)).setCell ⟨go,k * 7 + 3,none⟩ (.int .i64 s) = w9 at HN7 HW9 H49 H59 zke ⊢
        clear z3 z4 u1 v1 u3 v3 S8 h17 d1 d3 e1 e3 t6 r4
        go_wp2_with fail
        go_roundw
        case rel=>exact ⟨k + 1,by omega,by first | rfl | go_num,HN7,HW9,H49,H59,HA9,zke⟩
        case measure=>simp [intOf];omega
       ·have j3:(we == 0) = false:=beq_eq_false_iff_ne.2 he
        have j4:(we != 0) = true:=by simpa using he
        have j5:(!(we == 0)) = true:=by simpa using he
        obtain rfl:ba = true:=by rw [HAB.out,dG.out,j1,j2,decide_eq_false he];rfl
        clear he
        go_wp2_with fail
        go_ret2
        exact ⟨rfl,by rw [← mI.out];exact nV.out⟩
    ·have n0:(x.f0 == 0) = false:=beq_eq_false_iff_ne.2 hk0
     have n1:(x.f0 == 1) = false:=beq_eq_false_iff_ne.2 hk1
     have m0:(x.f0 != 0) = true:=by simpa using hk0
     have m1:(x.f0 != 1) = true:=by simpa using hk1
     have p0:(!(x.f0 == 0)) = true:=by simpa using hk0
     have p1:(!(x.f0 == 1)) = true:=by simpa using hk1
     have hsh:KT l s x = x:=by unfold KT;rw [if_neg (fun h=>h.elim hk0 hk1)]
     have hbd:Zb l s x = false:=by unfold Zb;rw [decide_eq_false hk0,decide_eq_false hk1];rfl
     have hS1:=zk.mk (HX.out.1 hsh)
     have hA1:=zk.mk (show ba = (bs.drop (k + 1)).any (Zb l s) by rw [HA.out,HX.out.2.2,hbd];rfl)
     clear hsh hbd hk0 hk1
     have hba:Below wr.heap.size wr (wr.alloc (.cells #[.pointer (some ⟨go,k * 7,none⟩)] 123)):=(Below.refl _ wr).alloc (Nat.le_refl _) _
     have zkf:=zk.mk hba
     clear hba
     go_wp2_with fail
     go_roundw
     case rel=>exact ⟨k + 1,by omega,by first | rfl | go_num,⟨by rw [← hS1.out];exact Kd.kM HI.out zkf.out⟩,⟨HW.out.trans (zkf.out.mono HW.out.size)⟩,⟨yY H4.out zkf.out⟩,⟨yY H5.out zkf.out⟩,hA1,⟨Nat.le_trans HSZ.out zkf.out.size⟩⟩
     case measure=>simp [intOf];omega
  ·obtain rfl:k = bs.length:=by omega
   have hA:=HA.out
   rw [List.drop_eq_nil_of_le (Nat.le_refl _)] at hA
   obtain rfl:ba = false:=hA
   clear HA
   go_wp2_with fail
   go_ret2
   refine ⟨?_,by rw [← mI.out];exact HW.out⟩
   exact ⟨_,rfl,by rw [← zbc];exact Kd.lU (Kd.YM HI.out (by omega)) (fun k hk=>trivial)⟩
def zdz (bs:List yD) (l:List ql):Bool:=decide (bs.length ≤ 1000000) && (bs.all (fun b=>decide (b.f6.length ≤ 1000000)) && (decide (l.length ≤ 1000000) && l.all (fun x=>decide (x.f3.length ≤ 1000000) && (decide (x.f4.length ≤ 1000000) && decide (x.f5.length ≤ 1000000)))))
def Pq.f (bs:List yD) (s:Int) (l:List pX):Option (List yD × Int):=if zdz bs l = true then some (zVO l s bs) else none
theorem Pq.calls (A0:Option Addr) (c0:Nat) (l0:List yD) (a1:Int) (A2:Option Addr) (c2:Nat) (l2:List pX) (r1:List yD) (r2:Int) (w:World) (hr0:Kd.C qK w A0 l0.length l0) (hc0:l0.length ≤ c0) (hr2:Kd.C Zw w A2 l2.length l2) (hc2:l2.length ≤ c2) (hG:GW w) (h:Pq.f l0 a1 l2 = some (r1,r2)) :
  Calls Tryz.prog 25 #[.slice A0 l0.length c0,.int .i64 a1,.slice A2 l2.length c2] w fun e w'=>∃ U5,e = .returned (.tuple #[U5,.int .i64 r2]) ∧ qK.S 53 w' w.heap.size (fun _=>True) U5 r1 ∧ Below w.heap.size w w':=by
 unfold Pq.f at h
 split at h
 case isFalse=>cases h
 case isTrue hz =>
  unfold zdz at hz
  simp only [Bool.and_eq_true,decide_eq_true_eq,List.all_eq_true] at hz
  obtain ⟨z1,z2,z3,z4⟩:=hz
  have hz4:∀ x ∈ l2,x.f3.length ≤ 1000000000 ∧ x.f4.length ≤ 1000000000 ∧ x.f5.length ≤ 1000000000:=fun x hx=>by
   have:=z4 x hx
   omega
  injection h with h
  unfold zVO at h
  cases hrf:WO l2 a1 with
  | true =>
   rw [hrf,if_pos rfl] at h
   injection h with h1 h2
   subst h1 h2
   exact (zYS A0 c0 l0 a1 A2 c2 l2 w hG hr2 (by omega) hz4 hrf).mono fun e w' ⟨e1,e2⟩=>⟨_,e1,Kd.gK _ _ _ _ _,e2⟩
  | false =>
   rw [hrf,if_neg Bool.false_ne_true] at h
   have hy:=zVR A0 c0 l0 a1 A2 c2 l2 w hG hr0 z1 (fun b hb=>by have:=z2 b hb;omega) hr2 (by omega) hz4 hrf
   cases hb:l0.any (Zb l2 a1) with
   | true =>
    rw [hb,if_pos rfl] at h
    injection h with h1 h2
    subst h1 h2
    exact hy.mono fun e w' ⟨e1,e2⟩=>⟨_,by rw [hb,if_pos rfl] at e1;exact e1,Kd.gK _ _ _ _ _,e2⟩
   | false =>
    rw [hb,if_neg Bool.false_ne_true] at h
    injection h with h1 h2
    subst h1 h2
    refine hy.mono fun e w' ⟨e1,e2⟩=>?_
    rw [hb,if_neg Bool.false_ne_true] at e1
    obtain ⟨v,e3,e4⟩:=e1
    exact ⟨v,e3,e4,e2⟩
end Go.Proofs.YtggifbbiiickmaaGreatDoor
namespace Go.Proofs.YtggifbbiiickmaaGreatDoor.PX
open Go.RowKit Go.Proofs.zx.zJ Go.Proofs.zx.zu Go.Proofs.zx.zo
attribute [local go_sem] yU y7 qX qJ yM yN y8 y9   -- for this text's walks alone
set_option linter.unusedVariables false
set_option linter.unusedSimpArgs false
end Go.Proofs.YtggifbbiiickmaaGreatDoor.PX
namespace Go.Proofs.YtggifbbiiickmaaGreatDoor.PX
open Go.RowKit Go.Proofs.zx.zJ Go.Proofs.zx.zu Go.Proofs.zx.zo
attribute [local go_sem] yU y7 qX qJ yM yN y8 y9   -- for this text's walks alone
set_option linter.unusedVariables false
set_option linter.unusedSimpArgs false
def qp.l0:Nat → List (yD) → Int → Option (Bool)
 | 0,_,_=>none
 | k + 1,x0,x3=>if x3 < (x0.length:Int) then (if 0 ≤ x3 then (if ((zw x0 x3).f1) > 1099511627776 then (some true) else (if ((zw x0 x3).f1) < (-1099511627776) then (some true) else (if (((zw x0 x3).f6).length:Int) > 100 then (some true) else (if (((zw x0 x3).f4).size:Int) > 100 then (some true) else (qp.l0 k x0 (wrap64 (x3 + 1))))))) else (none)) else (some false)
def qp.f (k:Nat) (l0:List (yD)):Option (Bool):=qp.l0 k l0 0
set_option maxHeartbeats 8000000 in
set_option maxRecDepth 100000 in
theorem qp.calls (k:Nat) (A0:Option Addr) (c0:Nat) (l0:List (yD)) (r:Bool) (w:World) (hr0:Kd.C qK w A0 l0.length l0) (hc0:l0.length ≤ c0) (h:qp.f k l0 = some r) :
  Calls Tryz.prog 24 #[.slice A0 l0.length c0] w fun e w'=>e = .returned (.bool r) ∧ zL w w':=by
 have qA:=zk.mk hr0
 have YJ:=zk.mk hc0
 clear hr0 hc0
 have H:(qp.l0 k l0 0) = some r:=h
 clear h
 have H':=zk.mk H
 clear H
 go_enter Tryz.func24,Tryz.ntmps24
 go_wp2
 go_loopg [3] k (fun kq v3 w'=>∃ (zD:Int),v3 = .int .i64 zD ∧ zk (qp.l0 kq l0 zD = some r) ∧ zk (kq ≤ k) ∧ zL w w')
 case atStart=>exact ⟨(0),(by first | rfl | (simp;done) | (simp [*];done)),H',⟨Nat.le_refl _⟩,by repeat (first | exact zL.refl _ | apply zL.step)⟩
 case round =>
  clear H'
  obtain ⟨zD,rfl,HA,vQ,⟨m1,rfl⟩⟩:=hrel
  cases gk with
  | zero=>exact absurd HA.out (by simp [qp.l0])
  | succ k1 =>
   have H:=HA.out
   clear HA
   simp only [qp.l0] at H
   by_cases c2:zD < (l0.length:Int)
   ·rw [if_pos c2] at H
    have Ya:decide (zD < (l0.length:Int)) = true:=decide_eq_true c2
    clear c2
    by_cases c3:0 ≤ zD
    ·rw [if_pos c3] at H
     have wR:decide (0 ≤ zD) = true:=decide_eq_true c3
     clear c3
     by_cases c4:((zw l0 zD).f1) > 1099511627776
     ·rw [if_pos c4] at H
      have kD:decide (1099511627776 < ((zw l0 zD).f1)) = true:=decide_eq_true c4
      clear c4
      obtain rfl:=Option.some.inj H
      have Yv:0 ≤ (zD:Int):=of_decide_eq_true yj
      have Yk:zD < (l0.length:Int):=of_decide_eq_true yj
      obtain ⟨Xo,zzY,zzW,mY,ak,ay,aZ,aQ,aX,aJ,pW,wB,wC⟩:=yR qA.out zD Yv Yk
      cases mY
      have aY:=zk.mk wC
      have aW:=zk.mk wB
      clear wC wB
      replace Yv:=eq_true Yv
      replace Yk:=eq_true Yk
      go_wp2
      go_ret
      exact ⟨by first | rfl | (simp;done) | (simp [*];done),by repeat (first | exact zL.refl _ | apply zL.step)⟩
     ·rw [if_neg c4] at H
      have kD:decide (1099511627776 < ((zw l0 zD).f1)) = false:=decide_eq_false c4
      clear c4
      by_cases c5:((zw l0 zD).f1) < (-1099511627776)
      ·rw [if_pos c5] at H
       have Z9:decide (((zw l0 zD).f1) < (-1099511627776)) = true:=decide_eq_true c5
       clear c5
       obtain rfl:=Option.some.inj H
       have Yv:0 ≤ (zD:Int):=of_decide_eq_true yj
       have Yk:zD < (l0.length:Int):=of_decide_eq_true yj
       obtain ⟨Xo,zzY,zzW,mY,ak,ay,aZ,aQ,aX,aJ,pW,wB,wC⟩:=yR qA.out zD Yv Yk
       cases mY
       have aY:=zk.mk wC
       have aW:=zk.mk wB
       clear wC wB
       replace Yv:=eq_true Yv
       replace Yk:=eq_true Yk
       have Qy:0 ≤ (zD:Int):=of_decide_eq_true yj
       have Qw:zD < (l0.length:Int):=of_decide_eq_true yj
       obtain ⟨mW,zkg,zkh,lX,zjK,zjY,zjW,zja,zjb,zjc,Ul,ZO,ZP⟩:=yR qA.out zD Qy Qw
       obtain rfl:Xo = mW:=(by injection lX)
       have zjd:=zk.mk ZP
       have zje:=zk.mk ZO
       clear ZP ZO
       replace Qy:=eq_true Qy
       replace Qw:=eq_true Qw
       have qQ:=Option.some.inj (pW.symm.trans Ul)
       injection qQ with qQ vM vN
       subst qQ
       subst vN
       clear vM
       go_wp2
       go_ret
       exact ⟨by first | rfl | (simp;done) | (simp [*];done),by repeat (first | exact zL.refl _ | apply zL.step)⟩
      ·rw [if_neg c5] at H
       have Z9:decide (((zw l0 zD).f1) < (-1099511627776)) = false:=decide_eq_false c5
       clear c5
       by_cases c6:(((zw l0 zD).f6).length:Int) > 100
       ·rw [if_pos c6] at H
        have Zx:decide (100 < (((zw l0 zD).f6).length:Int)) = true:=decide_eq_true c6
        have zxK:decide (100 < ((zw l0 zD).f6).length) = true:=decide_eq_true (by omega)
        clear c6
        obtain rfl:=Option.some.inj H
        have Yv:0 ≤ (zD:Int):=of_decide_eq_true yj
        have Yk:zD < (l0.length:Int):=of_decide_eq_true yj
        obtain ⟨Xo,zzY,zzW,mY,ak,ay,aZ,aQ,aX,aJ,pW,wB,wC⟩:=yR qA.out zD Yv Yk
        cases mY
        have aY:=zk.mk wC
        have aW:=zk.mk wB
        clear wC wB
        replace Yv:=eq_true Yv
        replace Yk:=eq_true Yk
        have Qy:0 ≤ (zD:Int):=of_decide_eq_true yj
        have Qw:zD < (l0.length:Int):=of_decide_eq_true yj
        obtain ⟨mW,zkg,zkh,lX,zjK,zjY,zjW,zja,zjb,zjc,Ul,ZO,ZP⟩:=yR qA.out zD Qy Qw
        obtain rfl:Xo = mW:=(by injection lX)
        have zjd:=zk.mk ZP
        have zje:=zk.mk ZO
        clear ZP ZO
        replace Qy:=eq_true Qy
        replace Qw:=eq_true Qw
        have qQ:=Option.some.inj (pW.symm.trans Ul)
        injection qQ with qQ vM vN
        subst qQ
        subst vN
        clear vM
        have Wz:0 ≤ (zD:Int):=of_decide_eq_true yj
        have Wq:zD < (l0.length:Int):=of_decide_eq_true yj
        obtain ⟨zza,zVS,zVT,zki,zQO,zQP,zQR,zQS,zQT,zQU,dH,Vx,Vj⟩:=yR qA.out zD Wz Wq
        obtain rfl:Xo = zza:=(by injection zki)
        have zQ0:=zk.mk Vj
        have zQ1:=zk.mk Vx
        clear Vj Vx
        replace Wz:=eq_true Wz
        replace Wq:=eq_true Wq
        have qQ:=Option.some.inj (pW.symm.trans dH)
        injection qQ with qQ vM vN
        subst qQ
        subst vN
        clear vM
        go_wp2
        go_ret
        exact ⟨by first | rfl | (simp;done) | (simp [*];done),by repeat (first | exact zL.refl _ | apply zL.step)⟩
       ·rw [if_neg c6] at H
        have Zx:decide (100 < (((zw l0 zD).f6).length:Int)) = false:=decide_eq_false c6
        have zxK:decide (100 < ((zw l0 zD).f6).length) = false:=decide_eq_false (by omega)
        clear c6
        by_cases c7:(((zw l0 zD).f4).size:Int) > 100
        ·rw [if_pos c7] at H
         have Jf:decide (100 < (((zw l0 zD).f4).size:Int)) = true:=decide_eq_true c7
         have zkb:decide (100 < ((zw l0 zD).f4).size) = true:=decide_eq_true (by omega)
         clear c7
         obtain rfl:=Option.some.inj H
         have Yv:0 ≤ (zD:Int):=of_decide_eq_true yj
         have Yk:zD < (l0.length:Int):=of_decide_eq_true yj
         obtain ⟨Xo,zzY,zzW,mY,ak,ay,aZ,aQ,aX,aJ,pW,wB,wC⟩:=yR qA.out zD Yv Yk
         cases mY
         have aY:=zk.mk wC
         have aW:=zk.mk wB
         clear wC wB
         replace Yv:=eq_true Yv
         replace Yk:=eq_true Yk
         have Qy:0 ≤ (zD:Int):=of_decide_eq_true yj
         have Qw:zD < (l0.length:Int):=of_decide_eq_true yj
         obtain ⟨mW,zkg,zkh,lX,zjK,zjY,zjW,zja,zjb,zjc,Ul,ZO,ZP⟩:=yR qA.out zD Qy Qw
         obtain rfl:Xo = mW:=(by injection lX)
         have zjd:=zk.mk ZP
         have zje:=zk.mk ZO
         clear ZP ZO
         replace Qy:=eq_true Qy
         replace Qw:=eq_true Qw
         have qQ:=Option.some.inj (pW.symm.trans Ul)
         injection qQ with qQ vM vN
         subst qQ
         subst vN
         clear vM
         have Wz:0 ≤ (zD:Int):=of_decide_eq_true yj
         have Wq:zD < (l0.length:Int):=of_decide_eq_true yj
         obtain ⟨zza,zVS,zVT,zki,zQO,zQP,zQR,zQS,zQT,zQU,dH,Vx,Vj⟩:=yR qA.out zD Wz Wq
         obtain rfl:Xo = zza:=(by injection zki)
         have zQ0:=zk.mk Vj
         have zQ1:=zk.mk Vx
         clear Vj Vx
         replace Wz:=eq_true Wz
         replace Wq:=eq_true Wq
         have qQ:=Option.some.inj (pW.symm.trans dH)
         injection qQ with qQ vM vN
         subst qQ
         subst vN
         clear vM
         have lJ:0 ≤ (zD:Int):=of_decide_eq_true yj
         have lV:zD < (l0.length:Int):=of_decide_eq_true yj
         obtain ⟨zJi,zdq,zdx,zYT,zbf,zbg,zbh,zbi,zbl,zbm,zjf,dI,dL⟩:=yR qA.out zD lJ lV
         obtain rfl:Xo = zJi:=(by injection zYT)
         have zbn:=zk.mk dL
         have zbo:=zk.mk dI
         clear dL dI
         replace lJ:=eq_true lJ
         replace lV:=eq_true lV
         have qQ:=Option.some.inj (pW.symm.trans zjf)
         injection qQ with qQ vM vN
         subst qQ
         subst vN
         clear vM
         go_wp2
         go_ret
         exact ⟨by first | rfl | (simp;done) | (simp [*];done),by repeat (first | exact zL.refl _ | apply zL.step)⟩
        ·rw [if_neg c7] at H
         have Jf:decide (100 < (((zw l0 zD).f4).size:Int)) = false:=decide_eq_false c7
         have zkb:decide (100 < ((zw l0 zD).f4).size) = false:=decide_eq_false (by omega)
         clear c7
         have H':=zk.mk H
         clear H
         have Yv:0 ≤ (zD:Int):=of_decide_eq_true yj
         have Yk:zD < (l0.length:Int):=of_decide_eq_true yj
         obtain ⟨Xo,zzY,zzW,mY,ak,ay,aZ,aQ,aX,aJ,pW,wB,wC⟩:=yR qA.out zD Yv Yk
         cases mY
         have aY:=zk.mk wC
         have aW:=zk.mk wB
         clear wC wB
         replace Yv:=eq_true Yv
         replace Yk:=eq_true Yk
         have Qy:0 ≤ (zD:Int):=of_decide_eq_true yj
         have Qw:zD < (l0.length:Int):=of_decide_eq_true yj
         obtain ⟨mW,zkg,zkh,lX,zjK,zjY,zjW,zja,zjb,zjc,Ul,ZO,ZP⟩:=yR qA.out zD Qy Qw
         obtain rfl:Xo = mW:=(by injection lX)
         have zjd:=zk.mk ZP
         have zje:=zk.mk ZO
         clear ZP ZO
         replace Qy:=eq_true Qy
         replace Qw:=eq_true Qw
         have qQ:=Option.some.inj (pW.symm.trans Ul)
         injection qQ with qQ vM vN
         subst qQ
         subst vN
         clear vM
         have Wz:0 ≤ (zD:Int):=of_decide_eq_true yj
         have Wq:zD < (l0.length:Int):=of_decide_eq_true yj
         obtain ⟨zza,zVS,zVT,zki,zQO,zQP,zQR,zQS,zQT,zQU,dH,Vx,Vj⟩:=yR qA.out zD Wz Wq
         obtain rfl:Xo = zza:=(by injection zki)
         have zQ0:=zk.mk Vj
         have zQ1:=zk.mk Vx
         clear Vj Vx
         replace Wz:=eq_true Wz
         replace Wq:=eq_true Wq
         have qQ:=Option.some.inj (pW.symm.trans dH)
         injection qQ with qQ vM vN
         subst qQ
         subst vN
         clear vM
         have lJ:0 ≤ (zD:Int):=of_decide_eq_true yj
         have lV:zD < (l0.length:Int):=of_decide_eq_true yj
         obtain ⟨zJi,zdq,zdx,zYT,zbf,zbg,zbh,zbi,zbl,zbm,zjf,dI,dL⟩:=yR qA.out zD lJ lV
         obtain rfl:Xo = zJi:=(by injection zYT)
         have zbn:=zk.mk dL
         have zbo:=zk.mk dI
         clear dL dI
         replace lJ:=eq_true lJ
         replace lV:=eq_true lV
         have qQ:=Option.some.inj (pW.symm.trans zjf)
         injection qQ with qQ vM vN
         subst qQ
         subst vN
         clear vM
         go_wp2
         go_roundg k1
         case measure=>have:=vQ.out;omega
         case rel=>exact ⟨(wrap64 (zD + 1)),(by first | rfl | (simp;done) | (simp [*];done)),H',⟨by have:=vQ.out;omega⟩,by repeat (first | exact zL.refl _ | apply zL.step)⟩
    ·rw [if_neg c3] at H
     exact absurd H (by simp)
   ·rw [if_neg c2] at H
    have Ya:decide (zD < (l0.length:Int)) = false:=decide_eq_false c2
    clear c2
    obtain rfl:=Option.some.inj H
    go_wp2
    go_ret
    exact ⟨by first | rfl | (simp;done) | (simp [*];done),by repeat (first | exact zL.refl _ | apply zL.step)⟩
end Go.Proofs.YtggifbbiiickmaaGreatDoor.PX
namespace Go.Proofs.YtggifbbiiickmaaGreatDoor.PX
open Go.RowKit Go.Proofs.zx.zJ Go.Proofs.zx.zu Go.Proofs.zx.zo
attribute [local go_sem] yU y7 qX qJ yM yN y8 y9   -- for this text's walks alone
set_option linter.unusedVariables false
set_option linter.unusedSimpArgs false
end Go.Proofs.YtggifbbiiickmaaGreatDoor.PX
namespace Go.Proofs.YtggifbbiiickmaaGreatDoor
open Go.RowKit Go.Proofs.zx.zJ Go.Proofs.zx.zu Go.Proofs.zx.zo Go.Proofs.YtggifbbiiickmaaGreatDoor.PX
set_option linter.unusedSimpArgs false
set_option linter.unusedVariables false
def zjg (b:qZ):Bool:=decide (b.f1 > 1099511627776) || (decide (b.f1 < -1099511627776) || (decide (100 < b.f6.length) || decide (100 < b.f4.size)))
theorem zfu (bs:List qZ) (hl:bs.length ≤ 1000000):∀ d i,i + d = bs.length → Ev (fun k=>qp.l0 k bs (i:Int)) ((bs.drop i).any zjg):=by
 intro d
 induction d with
 | zero =>
  intro i h
  refine Ev.step (fun k=>by rw [qp.l0]) (yG (by omega) (jR ?_ (Ev.now _)))
  rw [List.drop_eq_nil_of_le (by omega)];rfl
 | succ d ih =>
  intro i h
  have hi:i < bs.length:=by omega
  have hw:wrap64 ((i:Int) + 1) = ((i + 1:Nat):Int):=(pI (by omega) (by omega)).trans (by omega)
  have q1:(i:Int) < (bs.length:Int):=by omega
  have q2:(0:Int) ≤ (i:Int):=by omega
  have hd:zw bs (i:Int) = bs[i]:=rdB bs i _ (List.getElem?_eq_getElem hi)
  have hr:=ih (i + 1) (by omega)
  rw [List.drop_eq_getElem_cons hi,List.any_cons]
  generalize bs[i] = b at hd ⊢
  refine Ev.step (fun k=>by rw [qp.l0,hw,hd]) (zR q1 (zR q2 ?_))
  unfold zjg
  by_cases h1:b.f1 > 1099511627776
  ·rw [decide_eq_true h1];exact zR h1 (Ev.now _)
  ·rw [decide_eq_false h1]
   refine yG h1 ?_
   by_cases h2:b.f1 < -1099511627776
   ·rw [decide_eq_true h2];exact zR h2 (Ev.now _)
   ·rw [decide_eq_false h2]
    refine yG h2 ?_
    by_cases h3:100 < b.f6.length
    ·rw [decide_eq_true h3];exact zR (by omega) (Ev.now _)
    ·rw [decide_eq_false h3]
     refine yG (by omega) ?_
     by_cases h4:100 < b.f4.size
     ·rw [decide_eq_true h4];exact zR (by omega) (Ev.now _)
     ·rw [decide_eq_false h4]
      exact yG (by omega) hr
theorem zdj (bs:List qZ) (hl:bs.length ≤ 1000000):Ev (fun k=>qp.f k bs) (bs.any zjg):=by
 have h:=zfu bs hl bs.length 0 (by omega)
 rw [List.drop_zero] at h
 exact Ev.congr (fun k=>by rw [qp.f];rfl) h
theorem zdv {bs:List qZ} (h:bs.any zjg = false):∀ b ∈ bs,b.f6.length ≤ 100 ∧ b.f4.size ≤ 100 ∧ b.f1 ≤ 1099511627776 ∧ -1099511627776 ≤ b.f1:=fun b hb=>by
 have h1:=List.any_eq_false.1 h b hb
 unfold zjg at h1
 simp only [Bool.or_eq_true,decide_eq_true_eq,not_or] at h1
 omega
end Go.Proofs.YtggifbbiiickmaaGreatDoor
namespace Go.Proofs.YtggifbbiiickmaaGreatDoor.PX
open Go.RowKit Go.Proofs.zx.zJ Go.Proofs.zx.zu Go.Proofs.zx.zo
attribute [local go_sem] yU y7 qX qJ yM yN y8 y9   -- for this text's walks alone
set_option linter.unusedVariables false
set_option linter.unusedSimpArgs false
def yu.l0:Nat → Int → List (yD) → Int → Int → Option (Int)
 | 0,_,_,_,_=>none
 | k + 1,x3,x6,x7,x8=>if x8 < x7 then (if 0 ≤ x8 then (if x8 < (x6.length:Int) then (if ((zw x6 x8).f0) = 0 then (yu.l0 k (wrap64 (x3 + ((zw x6 x8).f1))) x6 x7 (wrap64 (x8 + 1))) else (if ((zw x6 x8).f0) = 1 then (yu.l0 k (wrap64 (x3 + ((zw x6 x8).f1))) x6 x7 (wrap64 (x8 + 1))) else (if ((zw x6 x8).f0) = 2 then (yu.l0 k (wrap64 (x3 + ((zw x6 x8).f1))) x6 x7 (wrap64 (x8 + 1))) else (if ((zw x6 x8).f0) = 4 then (yu.l0 k (wrap64 (x3 + ((zw x6 x8).f1))) x6 x7 (wrap64 (x8 + 1))) else (if ((zw x6 x8).f0) = 6 then (yu.l0 k (wrap64 (x3 + ((zw x6 x8).f1))) x6 x7 (wrap64 (x8 + 1))) else (yu.l0 k x3 x6 x7 (wrap64 (x8 + 1)))))))) else (none)) else (none)) else (some x3)
def yu.f (k:Nat) (l0:List (yD)):Option (Int):=yu.l0 k 0 l0 (l0.length:Int) 0
theorem yu.zVU:∀ k,(∀ y0 y1 y2 y3,kF (yu.l0 k y0 y1 y2 y3) (yu.l0 (k + 1) y0 y1 y2 y3))
 | 0=>fun _ _ _ _ r h=>by simp [yu.l0] at h
 | k + 1=>by
  have ih0:=yu.zVU k
  ·intro y0 y1 y2 y3
   unfold yu.l0
   repeat' first
   | (with_reducible exact ih0 _ _ _ _)
   | (with_reducible exact kF.refl _)
   | (with_reducible exact kF.none _)
   | (with_reducible refine kF.ite ?_ ?_)
   | (with_reducible refine kF.bind ?_ (fun _=>?_))
   | exact ih0 _ _ _ _
   | exact kF.none _
   | refine kF.ite ?_ ?_
   | refine kF.bind ?_ (fun _=>?_)
theorem yu.mono:∀ a0 k,kF (yu.f k a0) (yu.f (k + 1) a0):=by
 intro a0 k
 have ih0:=yu.zVU k
 unfold yu.f
 repeat' first
   | (with_reducible exact ih0 _ _ _ _)
   | (with_reducible exact kF.refl _)
   | (with_reducible exact kF.none _)
   | (with_reducible refine kF.ite ?_ ?_)
   | (with_reducible refine kF.bind ?_ (fun _=>?_))
   | exact ih0 _ _ _ _
   | exact kF.none _
   | refine kF.ite ?_ ?_
   | refine kF.bind ?_ (fun _=>?_)
set_option maxHeartbeats 8000000 in
set_option maxRecDepth 100000 in
theorem yu.calls (k:Nat) (A0:Option Addr) (c0:Nat) (l0:List (yD)) (r:Int) (w:World) (hr0:Kd.C qK w A0 l0.length l0) (hc0:l0.length ≤ c0) (h:yu.f k l0 = some r) :
  Calls Tryz.prog 23 #[.slice A0 l0.length c0] w fun e w'=>e = .returned (.int .i64 r) ∧ Below w.heap.size w w':=by
 have zz5:=Tryz.underlying53
 have qA:=zk.mk hr0
 have YJ:=zk.mk hc0
 clear hr0 hc0
 have HB:=zk.mk (Below.refl w.heap.size w)
 have H:(yu.l0 k 0 l0 (l0.length:Int) 0) = some r:=h
 clear h
 have H':=zk.mk H
 clear H
 go_enter Tryz.func23,Tryz.ntmps23
 go_wp2
 go_loopg [3,8] k (fun kq v3 v8 w'=>∃ (zD:Int) (qj:Int),v3 = .int .i64 zD ∧ v8 = .int .i64 qj ∧ zk (yu.l0 kq zD l0 (l0.length:Int) qj = some r) ∧ zk (kq ≤ k) ∧ zk (Below w.heap.size w w'))
 case atStart=>exact ⟨(0),(0),(by first | rfl | (simp;done) | (simp [*];done)),(by first | rfl | (simp;done) | (simp [*];done)),H',⟨Nat.le_refl _⟩,⟨zM HB.out⟩⟩
 case round =>
  clear H'
  obtain ⟨zD,qj,rfl,rfl,HA,vQ,HB⟩:=hrel
  cases gk with
  | zero=>exact absurd HA.out (by simp [yu.l0])
  | succ k1 =>
   have H:=HA.out
   clear HA
   simp only [yu.l0] at H
   by_cases c2:qj < (l0.length:Int)
   ·rw [if_pos c2] at H
    have Ya:decide (qj < (l0.length:Int)) = true:=decide_eq_true c2
    clear c2
    by_cases c3:0 ≤ qj
    ·rw [if_pos c3] at H
     have wR:decide (0 ≤ qj) = true:=decide_eq_true c3
     clear c3
     by_cases c4:qj < (l0.length:Int)
     ·rw [if_pos c4] at H
      have kD:decide (qj < (l0.length:Int)) = true:=decide_eq_true c4
      clear c4
      by_cases c5:((zw l0 qj).f0) = 0
      ·rw [if_pos c5] at H
       have Z9:(((zw l0 qj).f0) == 0) = true:=beq_iff_eq.mpr c5
       have Kl:(((zw l0 qj).f0) != 0) = false:=bne_eq_false_iff_eq.mpr c5
       clear c5
       have H':=zk.mk H
       clear H
       have p8:0 ≤ (qj:Int):=of_decide_eq_true yj
       have p9:qj < (l0.length:Int):=of_decide_eq_true yj
       obtain ⟨zzb,rY,rW,Wx,uz,uq,uj,uy,uw,uZ,uQ,jU,j6⟩:=yR qA.out qj p8 p9
       cases Wx
       replace uz:=(HB.out.cell (World.block_lt_of_cell? w _ uz)).trans uz
       replace uq:=(HB.out.cell (World.block_lt_of_cell? w _ uq)).trans uq
       replace uj:=(HB.out.cell (World.block_lt_of_cell? w _ uj)).trans uj
       replace uy:=(HB.out.cell (World.block_lt_of_cell? w _ uy)).trans uy
       replace uw:=(HB.out.cell (World.block_lt_of_cell? w _ uw)).trans uw
       replace uZ:=(HB.out.cell (World.block_lt_of_cell? w _ uZ)).trans uZ
       replace uQ:=(HB.out.cell (World.block_lt_of_cell? w _ uQ)).trans uQ
       have dM:=zk.mk j6
       have dN:=zk.mk jU
       clear j6 jU
       replace p8:=eq_true p8
       replace p9:=eq_true p9
       go_wp2_with (first | ((with_reducible refine qY (N:=5) rfl ?_);refine qm ?hg (N:=5) ?hd (cs:=#[.int .i64 0,.int .i64 0,.int .i64 0,.int .i64 0,.string (⟨#[]⟩:ByteArray),.string (⟨#[]⟩:ByteArray),.slice none 0 0]) (t:=53) ?hr ?_;(case hd=>rfl);(case hg=>rfl);(case hr=>first | (go_simp;done) | (go_simp;rfl));intro qc hg w6 qo hb;have zh:=zk.mk (zF (zM HB.out) hb);have zG:=zk.mk (qo);have zU:=zk.mk ((by rw [hg];exact (zI (zM HB.out)):w.heap.size ≤ qc));have yc:=zk.mk ((by rw [hg];exact (zI (zM HB.out)):w.heap.size ≤ qc));clear HB;have HB:=zh;have yI:=zG;have zzc:=zU;have zzd:=yc;clear zh zG zU yc;clear hb qo hg;have Ve:w6.cell? ⟨qc,0,none⟩ = some (.int .i64 0):=zK yI 0;have Vf:w6.cell? ⟨qc,1,none⟩ = some (.int .i64 0):=zK yI 1;have Vg:w6.cell? ⟨qc,2,none⟩ = some (.int .i64 0):=zK yI 2;have Vh:w6.cell? ⟨qc,3,none⟩ = some (.int .i64 0):=zK yI 3;have Vi:w6.cell? ⟨qc,4,none⟩ = some (.string (⟨#[]⟩:ByteArray)):=zK yI 4;have Vl:w6.cell? ⟨qc,5,none⟩ = some (.string (⟨#[]⟩:ByteArray)):=zK yI 5;have KA:w6.cell? ⟨qc,6,none⟩ = some (.slice none 0 0):=zK yI 6;have Vm:=zy yI.out 0;have Vn:=zy yI.out 1;have Vo:=zy yI.out 2;have Vp:=zy yI.out 3;have Vr:=zy yI.out 4;have Vs:=zy yI.out 5;have KC:=zy yI.out 6))
       go_roundg k1
       case measure=>have:=vQ.out;omega
       case rel=>exact ⟨(wrap64 (zD + ((zw l0 qj).f1))),(wrap64 (qj + 1)),(by first | rfl | (simp;done) | (simp [*];done)),(by first | rfl | (simp;done) | (simp [*];done)),H',⟨by have:=vQ.out;omega⟩,⟨zM HB.out⟩⟩
      ·rw [if_neg c5] at H
       have Z9:(((zw l0 qj).f0) == 0) = false:=beq_eq_false_iff_ne.mpr c5
       have Kl:(((zw l0 qj).f0) != 0) = true:=bne_iff_ne.mpr c5
       by_cases c8:((zw l0 qj).f0) = 1
       ·rw [if_pos c8] at H
        have Z8:(((zw l0 qj).f0) == 1) = true:=beq_iff_eq.mpr c8
        have iQ:(((zw l0 qj).f0) != 1) = false:=bne_eq_false_iff_eq.mpr c8
        clear c8
        have H':=zk.mk H
        clear H
        have p8:0 ≤ (qj:Int):=of_decide_eq_true yj
        have p9:qj < (l0.length:Int):=of_decide_eq_true yj
        obtain ⟨zzb,rY,rW,Wx,uz,uq,uj,uy,uw,uZ,uQ,jU,j6⟩:=yR qA.out qj p8 p9
        cases Wx
        replace uz:=(HB.out.cell (World.block_lt_of_cell? w _ uz)).trans uz
        replace uq:=(HB.out.cell (World.block_lt_of_cell? w _ uq)).trans uq
        replace uj:=(HB.out.cell (World.block_lt_of_cell? w _ uj)).trans uj
        replace uy:=(HB.out.cell (World.block_lt_of_cell? w _ uy)).trans uy
        replace uw:=(HB.out.cell (World.block_lt_of_cell? w _ uw)).trans uw
        replace uZ:=(HB.out.cell (World.block_lt_of_cell? w _ uZ)).trans uZ
        replace uQ:=(HB.out.cell (World.block_lt_of_cell? w _ uQ)).trans uQ
        have dM:=zk.mk j6
        have dN:=zk.mk jU
        clear j6 jU
        replace p8:=eq_true p8
        replace p9:=eq_true p9
        go_wp2_with (first | ((with_reducible refine qY (N:=5) rfl ?_);refine qm ?hg (N:=5) ?hd (cs:=#[.int .i64 0,.int .i64 0,.int .i64 0,.int .i64 0,.string (⟨#[]⟩:ByteArray),.string (⟨#[]⟩:ByteArray),.slice none 0 0]) (t:=53) ?hr ?_;(case hd=>rfl);(case hg=>rfl);(case hr=>first | (go_simp;done) | (go_simp;rfl));intro qc hg w9 qo hb;have zh:=zk.mk (zF (zM HB.out) hb);have zG:=zk.mk (qo);have zU:=zk.mk ((by rw [hg];exact (zI (zM HB.out)):w.heap.size ≤ qc));have yc:=zk.mk ((by rw [hg];exact (zI (zM HB.out)):w.heap.size ≤ qc));clear HB;have HB:=zh;have yI:=zG;have zzc:=zU;have zzd:=yc;clear zh zG zU yc;clear hb qo hg;have Uz:w9.cell? ⟨qc,0,none⟩ = some (.int .i64 0):=zK yI 0;have Uq:w9.cell? ⟨qc,1,none⟩ = some (.int .i64 0):=zK yI 1;have Ux:w9.cell? ⟨qc,2,none⟩ = some (.int .i64 0):=zK yI 2;have Uj:w9.cell? ⟨qc,3,none⟩ = some (.int .i64 0):=zK yI 3;have Uv:w9.cell? ⟨qc,4,none⟩ = some (.string (⟨#[]⟩:ByteArray)):=zK yI 4;have Uk:w9.cell? ⟨qc,5,none⟩ = some (.string (⟨#[]⟩:ByteArray)):=zK yI 5;have Uy:w9.cell? ⟨qc,6,none⟩ = some (.slice none 0 0):=zK yI 6;have Uw:=zy yI.out 0;have UZ:=zy yI.out 1;have UQ:=zy yI.out 2;have UJ:=zy yI.out 3;have UK:=zy yI.out 4;have UY:=zy yI.out 5;have UW:=zy yI.out 6))
        go_roundg k1
        case measure=>have:=vQ.out;omega
        case rel=>exact ⟨(wrap64 (zD + ((zw l0 qj).f1))),(wrap64 (qj + 1)),(by first | rfl | (simp;done) | (simp [*];done)),(by first | rfl | (simp;done) | (simp [*];done)),H',⟨by have:=vQ.out;omega⟩,⟨zM HB.out⟩⟩
       ·rw [if_neg c8] at H
        have Z8:(((zw l0 qj).f0) == 1) = false:=beq_eq_false_iff_ne.mpr c8
        have iQ:(((zw l0 qj).f0) != 1) = true:=bne_iff_ne.mpr c8
        by_cases c11:((zw l0 qj).f0) = 2
        ·rw [if_pos c11] at H
         have Yn:(((zw l0 qj).f0) == 2) = true:=beq_iff_eq.mpr c11
         have JB:(((zw l0 qj).f0) != 2) = false:=bne_eq_false_iff_eq.mpr c11
         clear c11
         have H':=zk.mk H
         clear H
         have p8:0 ≤ (qj:Int):=of_decide_eq_true yj
         have p9:qj < (l0.length:Int):=of_decide_eq_true yj
         obtain ⟨zzb,rY,rW,Wx,uz,uq,uj,uy,uw,uZ,uQ,jU,j6⟩:=yR qA.out qj p8 p9
         cases Wx
         replace uz:=(HB.out.cell (World.block_lt_of_cell? w _ uz)).trans uz
         replace uq:=(HB.out.cell (World.block_lt_of_cell? w _ uq)).trans uq
         replace uj:=(HB.out.cell (World.block_lt_of_cell? w _ uj)).trans uj
         replace uy:=(HB.out.cell (World.block_lt_of_cell? w _ uy)).trans uy
         replace uw:=(HB.out.cell (World.block_lt_of_cell? w _ uw)).trans uw
         replace uZ:=(HB.out.cell (World.block_lt_of_cell? w _ uZ)).trans uZ
         replace uQ:=(HB.out.cell (World.block_lt_of_cell? w _ uQ)).trans uQ
         have dM:=zk.mk j6
         have dN:=zk.mk jU
         clear j6 jU
         replace p8:=eq_true p8
         replace p9:=eq_true p9
         go_wp2_with (first | ((with_reducible refine qY (N:=5) rfl ?_);refine qm ?hg (N:=5) ?hd (cs:=#[.int .i64 0,.int .i64 0,.int .i64 0,.int .i64 0,.string (⟨#[]⟩:ByteArray),.string (⟨#[]⟩:ByteArray),.slice none 0 0]) (t:=53) ?hr ?_;(case hd=>rfl);(case hg=>rfl);(case hr=>first | (go_simp;done) | (go_simp;rfl));intro qc hg Kn qo hb;have zh:=zk.mk (zF (zM HB.out) hb);have zG:=zk.mk (qo);have zU:=zk.mk ((by rw [hg];exact (zI (zM HB.out)):w.heap.size ≤ qc));have yc:=zk.mk ((by rw [hg];exact (zI (zM HB.out)):w.heap.size ≤ qc));clear HB;have HB:=zh;have yI:=zG;have zzc:=zU;have zzd:=yc;clear zh zG zU yc;clear hb qo hg;have zx5:Kn.cell? ⟨qc,0,none⟩ = some (.int .i64 0):=zK yI 0;have zx6:Kn.cell? ⟨qc,1,none⟩ = some (.int .i64 0):=zK yI 1;have zx7:Kn.cell? ⟨qc,2,none⟩ = some (.int .i64 0):=zK yI 2;have zx8:Kn.cell? ⟨qc,3,none⟩ = some (.int .i64 0):=zK yI 3;have zx9:Kn.cell? ⟨qc,4,none⟩ = some (.string (⟨#[]⟩:ByteArray)):=zK yI 4;have zjz:Kn.cell? ⟨qc,5,none⟩ = some (.string (⟨#[]⟩:ByteArray)):=zK yI 5;have zjq:Kn.cell? ⟨qc,6,none⟩ = some (.slice none 0 0):=zK yI 6;have zjx:=zy yI.out 0;have zjj:=zy yI.out 1;have zjv:=zy yI.out 2;have zjk:=zy yI.out 3;have zjy:=zy yI.out 4;have zjw:=zy yI.out 5;have zjZ:=zy yI.out 6))
         go_roundg k1
         case measure=>have:=vQ.out;omega
         case rel=>exact ⟨(wrap64 (zD + ((zw l0 qj).f1))),(wrap64 (qj + 1)),(by first | rfl | (simp;done) | (simp [*];done)),(by first | rfl | (simp;done) | (simp [*];done)),H',⟨by have:=vQ.out;omega⟩,⟨zM HB.out⟩⟩
        ·rw [if_neg c11] at H
         have Yn:(((zw l0 qj).f0) == 2) = false:=beq_eq_false_iff_ne.mpr c11
         have JB:(((zw l0 qj).f0) != 2) = true:=bne_iff_ne.mpr c11
         by_cases c14:((zw l0 qj).f0) = 4
         ·rw [if_pos c14] at H
          have zWm:(((zw l0 qj).f0) == 4) = true:=beq_iff_eq.mpr c14
          have zWn:(((zw l0 qj).f0) != 4) = false:=bne_eq_false_iff_eq.mpr c14
          clear c14
          have H':=zk.mk H
          clear H
          have p8:0 ≤ (qj:Int):=of_decide_eq_true yj
          have p9:qj < (l0.length:Int):=of_decide_eq_true yj
          obtain ⟨zzb,rY,rW,Wx,uz,uq,uj,uy,uw,uZ,uQ,jU,j6⟩:=yR qA.out qj p8 p9
          cases Wx
          replace uz:=(HB.out.cell (World.block_lt_of_cell? w _ uz)).trans uz
          replace uq:=(HB.out.cell (World.block_lt_of_cell? w _ uq)).trans uq
          replace uj:=(HB.out.cell (World.block_lt_of_cell? w _ uj)).trans uj
          replace uy:=(HB.out.cell (World.block_lt_of_cell? w _ uy)).trans uy
          replace uw:=(HB.out.cell (World.block_lt_of_cell? w _ uw)).trans uw
          replace uZ:=(HB.out.cell (World.block_lt_of_cell? w _ uZ)).trans uZ
          replace uQ:=(HB.out.cell (World.block_lt_of_cell? w _ uQ)).trans uQ
          have dM:=zk.mk j6
          have dN:=zk.mk jU
          clear j6 jU
          replace p8:=eq_true p8
          replace p9:=eq_true p9
          go_wp2_with (first | ((with_reducible refine qY (N:=5) rfl ?_);refine qm ?hg (N:=5) ?hd (cs:=#[.int .i64 0,.int .i64 0,.int .i64 0,.int .i64 0,.string (⟨#[]⟩:ByteArray),.string (⟨#[]⟩:ByteArray),.slice none 0 0]) (t:=53) ?hr ?_;(case hd=>rfl);(case hg=>rfl);(case hr=>first | (go_simp;done) | (go_simp;rfl));intro qc hg Yd qo hb;have zh:=zk.mk (zF (zM HB.out) hb);have zG:=zk.mk (qo);have zU:=zk.mk ((by rw [hg];exact (zI (zM HB.out)):w.heap.size ≤ qc));have yc:=zk.mk ((by rw [hg];exact (zI (zM HB.out)):w.heap.size ≤ qc));clear HB;have HB:=zh;have yI:=zG;have zzc:=zU;have zzd:=yc;clear zh zG zU yc;clear hb qo hg;have sW:Yd.cell? ⟨qc,0,none⟩ = some (.int .i64 0):=zK yI 0;have su:Yd.cell? ⟨qc,1,none⟩ = some (.int .i64 0):=zK yI 1;have sD:Yd.cell? ⟨qc,2,none⟩ = some (.int .i64 0):=zK yI 2;have sF:Yd.cell? ⟨qc,3,none⟩ = some (.int .i64 0):=zK yI 3;have sG:Yd.cell? ⟨qc,4,none⟩ = some (.string (⟨#[]⟩:ByteArray)):=zK yI 4;have sH:Yd.cell? ⟨qc,5,none⟩ = some (.string (⟨#[]⟩:ByteArray)):=zK yI 5;have zjQ:Yd.cell? ⟨qc,6,none⟩ = some (.slice none 0 0):=zK yI 6;have sI:=zy yI.out 0;have sM:=zy yI.out 1;have sN:=zy yI.out 2;have sO:=zy yI.out 3;have sP:=zy yI.out 4;have sS:=zy yI.out 5;have zjX:=zy yI.out 6))
          go_roundg k1
          case measure=>have:=vQ.out;omega
          case rel=>exact ⟨(wrap64 (zD + ((zw l0 qj).f1))),(wrap64 (qj + 1)),(by first | rfl | (simp;done) | (simp [*];done)),(by first | rfl | (simp;done) | (simp [*];done)),H',⟨by have:=vQ.out;omega⟩,⟨zM HB.out⟩⟩
         ·rw [if_neg c14] at H
          have zWm:(((zw l0 qj).f0) == 4) = false:=beq_eq_false_iff_ne.mpr c14
          have zWn:(((zw l0 qj).f0) != 4) = true:=bne_iff_ne.mpr c14
          by_cases c17:((zw l0 qj).f0) = 6
          ·rw [if_pos c17] at H
           have XR:(((zw l0 qj).f0) == 6) = true:=beq_iff_eq.mpr c17
           have Wt:(((zw l0 qj).f0) != 6) = false:=bne_eq_false_iff_eq.mpr c17
           clear c17
           have H':=zk.mk H
           clear H
           have p8:0 ≤ (qj:Int):=of_decide_eq_true yj
           have p9:qj < (l0.length:Int):=of_decide_eq_true yj
           obtain ⟨zzb,rY,rW,Wx,uz,uq,uj,uy,uw,uZ,uQ,jU,j6⟩:=yR qA.out qj p8 p9
           cases Wx
           replace uz:=(HB.out.cell (World.block_lt_of_cell? w _ uz)).trans uz
           replace uq:=(HB.out.cell (World.block_lt_of_cell? w _ uq)).trans uq
           replace uj:=(HB.out.cell (World.block_lt_of_cell? w _ uj)).trans uj
           replace uy:=(HB.out.cell (World.block_lt_of_cell? w _ uy)).trans uy
           replace uw:=(HB.out.cell (World.block_lt_of_cell? w _ uw)).trans uw
           replace uZ:=(HB.out.cell (World.block_lt_of_cell? w _ uZ)).trans uZ
           replace uQ:=(HB.out.cell (World.block_lt_of_cell? w _ uQ)).trans uQ
           have dM:=zk.mk j6
           have dN:=zk.mk jU
           clear j6 jU
           replace p8:=eq_true p8
           replace p9:=eq_true p9
           go_wp2_with (first | ((with_reducible refine qY (N:=5) rfl ?_);refine qm ?hg (N:=5) ?hd (cs:=#[.int .i64 0,.int .i64 0,.int .i64 0,.int .i64 0,.string (⟨#[]⟩:ByteArray),.string (⟨#[]⟩:ByteArray),.slice none 0 0]) (t:=53) ?hr ?_;(case hd=>rfl);(case hg=>rfl);(case hr=>first | (go_simp;done) | (go_simp;rfl));intro qc hg KG qo hb;have zh:=zk.mk (zF (zM HB.out) hb);have zG:=zk.mk (qo);have zU:=zk.mk ((by rw [hg];exact (zI (zM HB.out)):w.heap.size ≤ qc));have yc:=zk.mk ((by rw [hg];exact (zI (zM HB.out)):w.heap.size ≤ qc));clear HB;have HB:=zh;have yI:=zG;have zzc:=zU;have zzd:=yc;clear zh zG zU yc;clear hb qo hg;have QF:KG.cell? ⟨qc,0,none⟩ = some (.int .i64 0):=zK yI 0;have QG:KG.cell? ⟨qc,1,none⟩ = some (.int .i64 0):=zK yI 1;have QH:KG.cell? ⟨qc,2,none⟩ = some (.int .i64 0):=zK yI 2;have QI:KG.cell? ⟨qc,3,none⟩ = some (.int .i64 0):=zK yI 3;have QL:KG.cell? ⟨qc,4,none⟩ = some (.string (⟨#[]⟩:ByteArray)):=zK yI 4;have QM:KG.cell? ⟨qc,5,none⟩ = some (.string (⟨#[]⟩:ByteArray)):=zK yI 5;have QN:KG.cell? ⟨qc,6,none⟩ = some (.slice none 0 0):=zK yI 6;have QO:=zy yI.out 0;have QS:=zy yI.out 1;have QT:=zy yI.out 2;have QU:=zy yI.out 3;have Q0:=zy yI.out 4;have Q5:=zy yI.out 5;have Q6:=zy yI.out 6))
           go_roundg k1
           case measure=>have:=vQ.out;omega
           case rel=>exact ⟨(wrap64 (zD + ((zw l0 qj).f1))),(wrap64 (qj + 1)),(by first | rfl | (simp;done) | (simp [*];done)),(by first | rfl | (simp;done) | (simp [*];done)),H',⟨by have:=vQ.out;omega⟩,⟨zM HB.out⟩⟩
          ·rw [if_neg c17] at H
           have XR:(((zw l0 qj).f0) == 6) = false:=beq_eq_false_iff_ne.mpr c17
           have Wt:(((zw l0 qj).f0) != 6) = true:=bne_iff_ne.mpr c17
           have H':=zk.mk H
           clear H
           have p8:0 ≤ (qj:Int):=of_decide_eq_true yj
           have p9:qj < (l0.length:Int):=of_decide_eq_true yj
           obtain ⟨zzb,rY,rW,Wx,uz,uq,uj,uy,uw,uZ,uQ,jU,j6⟩:=yR qA.out qj p8 p9
           cases Wx
           replace uz:=(HB.out.cell (World.block_lt_of_cell? w _ uz)).trans uz
           replace uq:=(HB.out.cell (World.block_lt_of_cell? w _ uq)).trans uq
           replace uj:=(HB.out.cell (World.block_lt_of_cell? w _ uj)).trans uj
           replace uy:=(HB.out.cell (World.block_lt_of_cell? w _ uy)).trans uy
           replace uw:=(HB.out.cell (World.block_lt_of_cell? w _ uw)).trans uw
           replace uZ:=(HB.out.cell (World.block_lt_of_cell? w _ uZ)).trans uZ
           replace uQ:=(HB.out.cell (World.block_lt_of_cell? w _ uQ)).trans uQ
           have dM:=zk.mk j6
           have dN:=zk.mk jU
           clear j6 jU
           replace p8:=eq_true p8
           replace p9:=eq_true p9
           go_wp2_with (first | ((with_reducible refine qY (N:=5) rfl ?_);refine qm ?hg (N:=5) ?hd (cs:=#[.int .i64 0,.int .i64 0,.int .i64 0,.int .i64 0,.string (⟨#[]⟩:ByteArray),.string (⟨#[]⟩:ByteArray),.slice none 0 0]) (t:=53) ?hr ?_;(case hd=>rfl);(case hg=>rfl);(case hr=>first | (go_simp;done) | (go_simp;rfl));intro qc hg w20 qo hb;have zh:=zk.mk (zF (zM HB.out) hb);have zG:=zk.mk (qo);have zU:=zk.mk ((by rw [hg];exact (zI (zM HB.out)):w.heap.size ≤ qc));have yc:=zk.mk ((by rw [hg];exact (zI (zM HB.out)):w.heap.size ≤ qc));clear HB;have HB:=zh;have yI:=zG;have zzc:=zU;have zzd:=yc;clear zh zG zU yc;clear hb qo hg;have bn:w20.cell? ⟨qc,0,none⟩ = some (.int .i64 0):=zK yI 0;have bA:w20.cell? ⟨qc,1,none⟩ = some (.int .i64 0):=zK yI 1;have bB:w20.cell? ⟨qc,2,none⟩ = some (.int .i64 0):=zK yI 2;have bC:w20.cell? ⟨qc,3,none⟩ = some (.int .i64 0):=zK yI 3;have bD:w20.cell? ⟨qc,4,none⟩ = some (.string (⟨#[]⟩:ByteArray)):=zK yI 4;have bE:w20.cell? ⟨qc,5,none⟩ = some (.string (⟨#[]⟩:ByteArray)):=zK yI 5;have bF:w20.cell? ⟨qc,6,none⟩ = some (.slice none 0 0):=zK yI 6;have bH:=zy yI.out 0;have bI:=zy yI.out 1;have bL:=zy yI.out 2;have bM:=zy yI.out 3;have bN:=zy yI.out 4;have bO:=zy yI.out 5;have bP:=zy yI.out 6))
           go_roundg k1
           case measure=>have:=vQ.out;omega
           case rel=>exact ⟨(zD),(wrap64 (qj + 1)),(by first | rfl | (simp;done) | (simp [*];done)),(by first | rfl | (simp;done) | (simp [*];done)),H',⟨by have:=vQ.out;omega⟩,⟨zM HB.out⟩⟩
     ·rw [if_neg c4] at H
      exact absurd H (by simp)
    ·rw [if_neg c3] at H
     exact absurd H (by simp)
   ·rw [if_neg c2] at H
    have Ya:decide (qj < (l0.length:Int)) = false:=decide_eq_false c2
    clear c2
    obtain rfl:=Option.some.inj H
    go_wp2
    go_ret
    exact ⟨by first | rfl | (simp [zl,zm] <;> rfl) | (simp [*,zl,zm] <;> rfl),by repeat (first | (with_reducible first | exact HB.out | apply zO | apply zC | apply zP) | exact HB.out)⟩
end Go.Proofs.YtggifbbiiickmaaGreatDoor.PX
