/- Texts of this proof. -/
import Derived.Test.YtckdfgknodedoaaGreatDoorProg
import Derived.Test.YtckdfgknodedoaaGreatDoorRR1
import Derived.Test.YtckdfgknodedoaaGreatDoorRR
import Derived.Test.YtckdfgknodedoaaGreatDoorRS
import Derived.Test.YtckdfgknodedoaaGreatDoorChecked
import Derived.KernelRfl
set_option linter.defProp false
set_option linter.unusedVariables false
set_option linter.unusedSimpArgs false
set_option maxRecDepth 100000
namespace Go.a2.T
section
open Go.Proofs Go.Proofs.Tryz
theorem Qp:bO prog 10=true:=cT
theorem Qs:bO prog 11=true:=cT
theorem Qt:bO prog 12=true:=cT
theorem Qx:bO prog 14=true:=cT
theorem QD:bO prog 17=true:=cT
abbrev y5:List Nat:=[0,0,2,0,0,24,56,127,0,0,0,0,3072,7168,16383,32767,65535,131071,131071,393215,1048575,131071,131071,8388607,16777215,33554431,67108863]
abbrev Zb:List Nat:=[0,1,2,3,4,5,6,7,8,9,10,11,12,13,14,15,16,17,18,19,20,21,22,23,24,25,26]
theorem Za:cR (c7 Tryz.f3 12) y5 91=true:=cT
end
section
open Go.Proofs Go.Proofs.Tryz
theorem Q8:bO prog 53=true:=cT
theorem FT:bO prog 54=true:=cT
theorem Q9:bO prog 56=true:=cT
theorem Ra:bO prog 57=true:=cT
theorem Rb:bO prog 58=true:=cT
end
section
open Go.Proofs Go.Proofs.Tryz
theorem Fx:bO prog 104=true:=cT
theorem Qr:bO prog 105=true:=cT
theorem rM:bO prog 55=true:=cT
theorem uV:bO prog 60=true:=cT
theorem xv:bO prog 61=true:=cT
theorem uW:bO prog 62=true:=cT
theorem AM:bO prog 66=true:=cT
abbrev C0:List Nat:=[0,0,2,0,0,16,0,126,255,511,1023,1023,2047,8191]
abbrev KD:List Nat:=[0,1,2,3,4,5,6,7,8,9,10,11,12,13]
theorem KC:cR (c7 Tryz.f53 4) C0 41=true:=cT
end
section
open Go.Proofs Go.Proofs.Tryz
theorem nA:bO prog 111=true:=cT
theorem li:bO prog 114=true:=cT
theorem uR:bO prog 115=true:=cT
theorem Fy:bO prog 116=true:=cT
theorem Aq:bO prog 117=true:=cT
theorem QC:bO prog 165=true:=cT
abbrev Jx:List Nat:=[0,1,3,7,0,16,63,0,128,511,1023]
abbrev XF:List Nat:=[0,1,2,3,4,5,6,7,8,9,10]
theorem XE:cR (c7 Tryz.f104 7) Jx 56=true:=cT
abbrev Jy:List Nat:=[0,0,0,4,0,16,0,64,0,256,960,0,2048,8190,16383,32767,65535]
abbrev XH:List Nat:=[0,1,2,3,4,5,6,7,8,9,10,11,12,13,14,15,16]
theorem XG:cR (c7 Tryz.f104 8) Jy 56=true:=cT
abbrev C3:List Nat:=[0,0,0,0,0,24,0,64,255,511,1023,1023,2047,8191]
abbrev KL:List Nat:=[0,1,2,3,4,5,6,7,8,9,10,11,12,13]
theorem KK:cR (c7 Tryz.f60 12) C3 77=true:=cT
end
section
open Go.Proofs Go.Proofs.Tryz
theorem qm:bO prog 106=true:=cT
theorem rI:bO prog 107=true:=cT
theorem rJ:bO prog 109=true:=cT
theorem mJ:eS prog 79 1=true:=cT
abbrev CJ:List Nat:=[0,0,2,6,14,0,0,64,224,510,1023,2047,4095]
theorem Jz:cR (c7 Tryz.f105 8) CJ 43=true:=cT
abbrev JA:List Nat:=[0,1,2,3,4,5,6,7,8,9,10,11]
abbrev C1:List Nat:=[0,0,2,6,14,0,0,64,224,510,1023,2047,4095]
theorem KE:cR (c7 Tryz.f54 4) C1 36=true:=cT
abbrev KF:List Nat:=[0,1,2,3,4,5,6,7,8,9,10,11]
abbrev C2:List Nat:=[0,0,2,6,14,0,32,96,224,0,992,2016,4094,8191,16383,32767]
theorem KH:cR (c7 Tryz.f56 7) C2 37=true:=cT
abbrev KI:List Nat:=[0,1,2,3,4,5,6,7,8,9,10,11,12,13,14]
abbrev KJ:List Nat:=[0,0,2,6,14,0,32,96,224,0,992,2016,4094,8191,16383,32767]
theorem Zk:cR (c7 Tryz.f57 4) KJ 49=true:=cT
abbrev Zl:List Nat:=[0,1,2,3,4,5,6,7,8,9,10,11,12,13,14]
theorem za:iy prog 172 [1,1] [aa 0,.slice none 0 0]=true:=cT
theorem zo:zeroOf prog 172=some (.agg [aa 0,.slice none 0 0].toArray):=cT
end
section
open Go.Proofs Go.Proofs.Tryz
theorem FI:bO prog 20=true:=cT
theorem uX:bO prog 65=true:=cT
theorem hR:fb prog 79=true:=cT
abbrev KG:List Nat:=[0,1,3,7,0,0,32,96,224,0,992,2016,4064,8191,16383]
theorem Zi:cR (c7 Tryz.f55 3) KG 33=true:=cT
abbrev Zj:List Nat:=[0,1,2,3,4,5,6,7,8,9,10,11,12,13]
theorem ZY:iy prog 81 [1,1,1,1,1,1,1] [aa 0,aa 0,aa 0,.bool false,.slice none 0 0,.slice none 0 0,.slice none 0 0]=true:=cT
theorem aaK:zeroOf prog 81=some (.agg [aa 0,aa 0,aa 0,.bool false,.slice none 0 0,.slice none 0 0,.slice none 0 0].toArray):=cT
end
section
open Go.Proofs Go.Proofs.Tryz
theorem o3:hv prog 172 2=true:=cT
theorem sX:hk prog 172 32=true:=cT
theorem rF:gG prog 172 0 0=true:=cT
theorem Qk:gG prog 172 1 1=true:=cT
theorem Ap:bO prog 108=true:=cT
theorem jI:eS prog 172 2=true:=cT
theorem eK:dN prog 79 172=true:=cT
abbrev yZ:List Nat:=[0,1,3,7,7,31,63,127,7,263,1023,2047]
abbrev CL:List Nat:=[0,1,2,3,4,5,6,7,8,9,10,11]
theorem CK:cR (c7 Tryz.f107 7) yZ 48=true:=cT
theorem uq:(zeroOf prog 172).map (·.cells.toList)=some [aa 0,.slice none 0 0]:=cT
theorem ur:hl prog 172 2=true:=cT
end
section
open Go.Proofs Go.Proofs.Tryz
theorem FK:bO prog 258=true:=cT
theorem QU:bO prog 259=true:=cT
theorem ye:rh prog 33 "Open" 258=true:=cT
theorem Hz:rh prog 33 "Seal" 259=true:=cT
end
section
open Go.Proofs Go.Proofs.Tryz
theorem FD:bO prog 168=true:=cT
theorem QL:bO prog 197=true:=cT
theorem td:bO prog 199=true:=cT
theorem AD:bO prog 200=true:=cT
theorem FJ:bO prog 201=true:=cT
theorem Q4:bO prog 48=true:=cT
theorem tB:fb prog 102=true:=cT
theorem H4:fb prog 163=true:=cT
theorem BQ:Dj prog 102=true:=cT
abbrev CM:List Nat:=[0,0,0,6,15,31]
abbrev JI:List Nat:=[0,1,2,3,4,5]
theorem JH:cR (c7 Tryz.f168 5) CM 49=true:=cT
abbrev JJ:List Nat:=[0,1,3,7,0,0,0,0,192,511,1023,2047]
abbrev XV:List Nat:=[0,1,2,3,4,5,6,7,8,9,10,11]
theorem XU:cR (c7 Tryz.f168 7) JJ 49=true:=cT
abbrev JR:List Nat:=[0,0,3,0,15,31]
abbrev Yb:List Nat:=[0,1,2,3,4,5]
theorem Ya:cR (c7 Tryz.f197 5) JR 36=true:=cT
theorem ZQ:iy prog 106 [1,1] [.pointer none,.pointer none]=true:=cT
theorem aaC:zeroOf prog 106=some (.agg [.pointer none,.pointer none].toArray):=cT
end
section
open Go.Proofs Go.Proofs.Tryz
theorem Qq:bO prog 100=true:=cT
theorem AE:bO prog 215=true:=cT
theorem FY:bO prog 99=true:=cT
abbrev JU:List Nat:=[0,1,3,7,0,0,48,127,255]
theorem Yc:cR (c7 Tryz.f200 3) JU 32=true:=cT
abbrev Yd:List Nat:=[0,1,2,3,4,5,6,7]
theorem ZT:iy prog 167 [1,1] [.pointer none,.slice none 0 0]=true:=cT
theorem aaF:zeroOf prog 167=some (.agg [.pointer none,.slice none 0 0].toArray):=cT
end
section
open Go.Proofs Go.Proofs.Tryz
theorem QQ:bO prog 216=true:=cT
theorem AF:bO prog 232=true:=cT
theorem QS:bO prog 233=true:=cT
abbrev JV:List Nat:=[0,0,0,0,12,30,62,0,128,384,1022,2046,4095,8191]
abbrev Yf:List Nat:=[0,1,2,3,4,5,6,7,8,9,10,11,12,13]
theorem Ye:cR (c7 Tryz.f201 9) JV 51=true:=cT
end
section
open Go.Proofs Go.Proofs.Tryz
theorem AG:bO prog 240=true:=cT
theorem QT:bO prog 241=true:=cT
abbrev J4:List Nat:=[0,0,2,6,14,0,0,64,0,256,960,1984,4032,0,8192,32704,65504,131040,262142,524286,1048574,2097151,4194303]
abbrev Yz:List Nat:=[0,1,2,3,4,5,6,7,8,9,10,11,12,13,14,15,16,17,18,19,20,21,22]
theorem Yy:cR (c7 Tryz.f233 11) J4 68=true:=cT
abbrev J5:List Nat:=[0,0,0,6,14,0,32,96,224,0,512,0,2048,7680,16352,32736,0,65536,262112,524256,1048574,2097150,4194303,8388607]
abbrev YB:List Nat:=[0,1,2,3,4,5,6,7,8,9,10,11,12,13,14,15,16,17,18,19,20,21,22,23]
theorem YA:cR (c7 Tryz.f240 5) J5 37=true:=cT
abbrev J6:List Nat:=[0,0,2,7,15,0,0,64,192,480,992,0,0,4096,12288,30720,63488,0,0,262144,786432,1966080,4063232,31,8390655,25296895,67108863]
abbrev YD:List Nat:=[0,1,2,3,4,5,6,7,8,9,10,11,12,13,14,15,16,17,18,19,20,21,22,23,24,25,26]
theorem YC:cR (c7 Tryz.f241 5) J6 76=true:=cT
end
section
open Go.Proofs Go.Proofs.Tryz
theorem rG:gG prog 205 0 0=true:=cT
theorem Qz:bO prog 161=true:=cT
theorem Gk:(prog.info? 5).isSome=true:=cT
theorem Cz:eS prog 92 1=true:=cT
abbrev Ju:List Nat:=[0,1,3,7,0,16,48,127,255,0,1023,0,2048,6144,14336,0,32768,98304,260096,522240,0,1048576,3145728,7340032,0,16777216,50331648,133169152,267386880,0,536870912,1610612736,3758096384,0,8589934592,25769803776,68182605824,136902082560,274877906943,549755813887]
abbrev XB:List Nat:=[0,1,2,3,4,5,6,7,8,9,10,11,12,13,14,15,16,17,18,19,20,21,22,23,24,25,26,27,28,29,30,31,32,33,34,35,36,37,38,39]
theorem XA:cR (c7 Tryz.f100 15) Ju 208=true:=cT
abbrev ww:List Nat:=[0,0,2,6,14,0,32,96,0,256,768,2016,0,4096,12288,0,32768,98304,258048,0,524288,1572864,0,4194304,12582912,33030144,0,67108864,201326592,0,536870912,1610612736,4227858432,8589934560,17179869152,34359738366,68719476735,137438953471,274877906943]
theorem Jv:cR (c7 Tryz.f100 20) ww 208=true:=cT
abbrev Jw:List Nat:=[0,1,2,3,4,5,6,7,8,9,10,11,12,13,14,15,16,17,18,19,20,21,22,23,24,25,26,27,28,29,30,31,32,33,34,35,36,37]
abbrev CI:List Nat:=[0,0,2,6,14,0,0,0,128,0,512,1536,4032,8160,16352,32766,65535,131071,262143]
theorem XC:cR (c7 Tryz.f100 8) CI 208=true:=cT
abbrev XD:List Nat:=[0,1,2,3,4,5,6,7,8,9,10,11,12,13,14,15,16,17]
theorem ZU:iy prog 205 [1,1] [.slice none 0 0,.slice none 0 0]=true:=cT
theorem aaG:zeroOf prog 205=some (.agg [.slice none 0 0,.slice none 0 0].toArray):=cT
end
section
open Go.Proofs Go.Proofs.Tryz
theorem FL:bO prog 262=true:=cT
abbrev CP:List Nat:=[0,0,0,0,0,0,48,127,0,0,768,1792,3840,8191,16383]
abbrev J8:List Nat:=[0,1,2,3,4,5,6,7,8,9,10,11,12,13,14]
theorem J7:cR (c7 Tryz.f258 4) CP 50=true:=cT
abbrev J9:List Nat:=[0,1,3,7,0,0,0,0,192,511,1023,2047]
abbrev YF:List Nat:=[0,1,2,3,4,5,6,7,8,9,10,11]
theorem YE:cR (c7 Tryz.f258 6) J9 50=true:=cT
end
section
open Go.Proofs Go.Proofs.Tryz
theorem te:bO prog 261=true:=cT
theorem AH:bO prog 263=true:=cT
theorem FM:bO prog 264=true:=cT
theorem FN:bO prog 265=true:=cT
theorem AI:bO prog 266=true:=cT
theorem FQ:bO prog 46=true:=cT
theorem Q3:bO prog 47=true:=cT
abbrev Ka:List Nat:=[0,0,2,6,0,16,48,126,255,511]
abbrev YH:List Nat:=[0,1,2,3,4,5,6,7,8,9]
theorem YG:cR (c7 Tryz.f262 5) Ka 22=true:=cT
abbrev Kb:List Nat:=[0,1,3,7,0,16,48,0,0,368,0,1904,0,8176,16368,32767,65535]
theorem YI:cR (c7 Tryz.f263 1) Kb 27=true:=cT
abbrev YJ:List Nat:=[0,1,2,3,4,5,6,7,8,9,10,11,12,13,14,15]
theorem ZP:iy prog 101 [1,1] [.pointer none,.slice none 0 0]=true:=cT
theorem aaB:zeroOf prog 101=some (.agg [.pointer none,.slice none 0 0].toArray):=cT
end
section
open Go.Proofs Go.Proofs.Tryz
theorem QV:bO prog 267=true:=cT
theorem AJ:bO prog 268=true:=cT
theorem QW:bO prog 269=true:=cT
theorem QX:bO prog 270=true:=cT
theorem H5:fb prog 214=true:=cT
theorem BH:fb prog 97=true:=cT
theorem Je:eS prog 214 1=true:=cT
abbrev Kc:List Nat:=[0,0,3]
abbrev YL:List Nat:=[0,1,2]
theorem YK:cR (c7 Tryz.f269 2) Kc 22=true:=cT
abbrev Kd:List Nat:=[0,1,0,7]
theorem YM:cR (c7 Tryz.f269 4) Kd 22=true:=cT
abbrev YN:List Nat:=[0,1,2]
theorem aaz:zeroOf prog 214=some (ab0 0):=cT
end
section
open Go.Proofs Go.Proofs.Tryz
theorem AK:bO prog 271=true:=cT
theorem QY:bO prog 272=true:=cT
abbrev Ki:List Nat:=[0,0,2,6,14,30,62,127,0,511]
theorem YW:cR (c7 Tryz.f270 1) Ki 63=true:=cT
abbrev YX:List Nat:=[0,1,2,3,4,5,6,7,8]
abbrev Kj:List Nat:=[0,0,0,0,8,24,60,124,252,508,2,1026,4094,8190,16383,32767]
theorem YY:cR (c7 Tryz.f270 9) Kj 63=true:=cT
abbrev YZ:List Nat:=[0,1,2,3,4,5,6,7,8,9,10,11,12,13,14]
end
section
open Go.Proofs Go.Proofs.Tryz
theorem Ec:hv prog 160 4=true:=cT
theorem o4:ky prog 160 5 4=true:=cT
theorem Py:hk prog 162 16=true:=cT
theorem Rg:bO prog 97=true:=cT
theorem vM:fb prog 157=true:=cT
theorem Xh:eS prog 157 1=true:=cT
theorem Cx:eS prog 160 4=true:=cT
theorem pR:dN prog 157 162=true:=cT
abbrev Kv:List Nat:=[0,0,2,1,9,31,63,0,255,0,0,1024,512,4608,15872,32256,0,0,131072,65536,589824,2031616,4128768,0,0,16777216,8388608,75497472,260046848,528482304,1073741823,2147483647]
theorem Zc:cR (c7 Tryz.f47 12) Kv 159=true:=cT
abbrev Zd:List Nat:=[0,1,2,3,4,5,6,7,8,9,10,11,12,13,14,15,16,17,18,19,20,21,22,23,24,25,26,27,28,29,30]
abbrev wz:List Nat:=[0,0,0,0,12,0,60,126,254,0,512,1536,4094,8190,16383,32767]
abbrev Kx:List Nat:=[0,1,2,3,4,5,6,7,8,9,10,11,12,13,14,15]
theorem Kw:cR (c7 Tryz.f47 19) wz 159=true:=cT
abbrev Ky:List Nat:=[0,0,2,6,14,0,32,96,224,480,1022,2047,4095,8191]
theorem Ze:cR (c7 Tryz.f47 23) Ky 159=true:=cT
abbrev Zf:List Nat:=[0,1,2,3,4,5,6,7,8,9,10,11,12]
theorem ZS:iy prog 159 [1,256] [.slice none 0 0,ag 0,ag 0,ag 0,ag 0,ag 0,ag 0,ag 0,ag 0,ag 0,ag 0,ag 0,ag 0,ag 0,ag 0,ag 0,ag 0,ag 0,ag 0,ag 0,ag 0,ag 0,ag 0,ag 0,ag 0,ag 0,ag 0,ag 0,ag 0,ag 0,ag 0,ag 0,ag 0,ag 0,ag 0,ag 0,ag 0,ag 0,ag 0,ag 0,ag 0,ag 0,ag 0,ag 0,ag 0,ag 0,ag 0,ag 0,ag 0,ag 0,ag 0,ag 0,ag 0,ag 0,ag 0,ag 0,ag 0,ag 0,ag 0,ag 0,ag 0,ag 0,ag 0,ag 0,ag 0,ag 0,ag 0,ag 0,ag 0,ag 0,ag 0,ag 0,ag 0,ag 0,ag 0,ag 0,ag 0,ag 0,ag 0,ag 0,ag 0,ag 0,ag 0,ag 0,ag 0,ag 0,ag 0,ag 0,ag 0,ag 0,ag 0,ag 0,ag 0,ag 0,ag 0,ag 0,ag 0,ag 0,ag 0,ag 0,ag 0,ag 0,ag 0,ag 0,ag 0,ag 0,ag 0,ag 0,ag 0,ag 0,ag 0,ag 0,ag 0,ag 0,ag 0,ag 0,ag 0,ag 0,ag 0,ag 0,ag 0,ag 0,ag 0,ag 0,ag 0,ag 0,ag 0,ag 0,ag 0,ag 0,ag 0,ag 0,ag 0,ag 0,ag 0,ag 0,ag 0,ag 0,ag 0,ag 0,ag 0,ag 0,ag 0,ag 0,ag 0,ag 0,ag 0,ag 0,ag 0,ag 0,ag 0,ag 0,ag 0,ag 0,ag 0,ag 0,ag 0,ag 0,ag 0,ag 0,ag 0,ag 0,ag 0,ag 0,ag 0,ag 0,ag 0,ag 0,ag 0,ag 0,ag 0,ag 0,ag 0,ag 0,ag 0,ag 0,ag 0,ag 0,ag 0,ag 0,ag 0,ag 0,ag 0,ag 0,ag 0,ag 0,ag 0,ag 0,ag 0,ag 0,ag 0,ag 0,ag 0,ag 0,ag 0,ag 0,ag 0,ag 0,ag 0,ag 0,ag 0,ag 0,ag 0,ag 0,ag 0,ag 0,ag 0,ag 0,ag 0,ag 0,ag 0,ag 0,ag 0,ag 0,ag 0,ag 0,ag 0,ag 0,ag 0,ag 0,ag 0,ag 0,ag 0,ag 0,ag 0,ag 0,ag 0,ag 0,ag 0,ag 0,ag 0,ag 0,ag 0,ag 0,ag 0,ag 0,ag 0,ag 0,ag 0,ag 0,ag 0,ag 0,ag 0,ag 0,ag 0,ag 0,ag 0,ag 0,ag 0,ag 0,ag 0,ag 0,ag 0,ag 0,ag 0,ag 0,ag 0]=true:=cT
theorem Dz:zeroOf prog 160=some (.agg #[ag 0,ag 0,ag 0,ag 0]):=cT
theorem aaE:zeroOf prog 159=some (.agg [.slice none 0 0,ag 0,ag 0,ag 0,ag 0,ag 0,ag 0,ag 0,ag 0,ag 0,ag 0,ag 0,ag 0,ag 0,ag 0,ag 0,ag 0,ag 0,ag 0,ag 0,ag 0,ag 0,ag 0,ag 0,ag 0,ag 0,ag 0,ag 0,ag 0,ag 0,ag 0,ag 0,ag 0,ag 0,ag 0,ag 0,ag 0,ag 0,ag 0,ag 0,ag 0,ag 0,ag 0,ag 0,ag 0,ag 0,ag 0,ag 0,ag 0,ag 0,ag 0,ag 0,ag 0,ag 0,ag 0,ag 0,ag 0,ag 0,ag 0,ag 0,ag 0,ag 0,ag 0,ag 0,ag 0,ag 0,ag 0,ag 0,ag 0,ag 0,ag 0,ag 0,ag 0,ag 0,ag 0,ag 0,ag 0,ag 0,ag 0,ag 0,ag 0,ag 0,ag 0,ag 0,ag 0,ag 0,ag 0,ag 0,ag 0,ag 0,ag 0,ag 0,ag 0,ag 0,ag 0,ag 0,ag 0,ag 0,ag 0,ag 0,ag 0,ag 0,ag 0,ag 0,ag 0,ag 0,ag 0,ag 0,ag 0,ag 0,ag 0,ag 0,ag 0,ag 0,ag 0,ag 0,ag 0,ag 0,ag 0,ag 0,ag 0,ag 0,ag 0,ag 0,ag 0,ag 0,ag 0,ag 0,ag 0,ag 0,ag 0,ag 0,ag 0,ag 0,ag 0,ag 0,ag 0,ag 0,ag 0,ag 0,ag 0,ag 0,ag 0,ag 0,ag 0,ag 0,ag 0,ag 0,ag 0,ag 0,ag 0,ag 0,ag 0,ag 0,ag 0,ag 0,ag 0,ag 0,ag 0,ag 0,ag 0,ag 0,ag 0,ag 0,ag 0,ag 0,ag 0,ag 0,ag 0,ag 0,ag 0,ag 0,ag 0,ag 0,ag 0,ag 0,ag 0,ag 0,ag 0,ag 0,ag 0,ag 0,ag 0,ag 0,ag 0,ag 0,ag 0,ag 0,ag 0,ag 0,ag 0,ag 0,ag 0,ag 0,ag 0,ag 0,ag 0,ag 0,ag 0,ag 0,ag 0,ag 0,ag 0,ag 0,ag 0,ag 0,ag 0,ag 0,ag 0,ag 0,ag 0,ag 0,ag 0,ag 0,ag 0,ag 0,ag 0,ag 0,ag 0,ag 0,ag 0,ag 0,ag 0,ag 0,ag 0,ag 0,ag 0,ag 0,ag 0,ag 0,ag 0,ag 0,ag 0,ag 0,ag 0,ag 0,ag 0,ag 0,ag 0,ag 0,ag 0,ag 0,ag 0,ag 0,ag 0,ag 0,ag 0,ag 0,ag 0,ag 0,ag 0,ag 0,ag 0,ag 0,ag 0,ag 0,ag 0].toArray):=cT
theorem aaP:(zeroOf prog 162).map (·.cells.toList)=some [ag 0,ag 0,ag 0,ag 0,ag 0,ag 0,ag 0,ag 0,ag 0,ag 0,ag 0,ag 0,ag 0,ag 0,ag 0,ag 0]:=cT
theorem aaR:hl prog 162 16=true:=cT
end
section
open Go.Proofs Go.Proofs.Tryz
theorem jK:hv prog 162 16=true:=cT
theorem ic:ky prog 162 5 16=true:=cT
theorem lz:eS prog 162 16=true:=cT
abbrev Kk:List Nat:=[0,1,3,0,8,24,63,127,255]
theorem Y0:cR (c7 Tryz.f271 4) Kk 19=true:=cT
abbrev Y1:List Nat:=[0,1,2,3,4,5,6,7]
abbrev Kl:List Nat:=[0,1,3,0,8,24,56,127,0,256,768,1792,4095,0,8192,24576,57344,131071,262143]
abbrev Y3:List Nat:=[0,1,2,3,4,5,6,7,8,9,10,11,12,13,14,15,16,17,18]
theorem Y2:cR (c7 Tryz.f272 5) Kl 60=true:=cT
abbrev Km:List Nat:=[0,0,3,0,0,24,56,120,0,504,0,0,3072,7168,15360,0,0,65536,196608,491520,1015808,2064384,4193280,8387584,16777208,33554431,67108863]
theorem Y4:cR (c7 Tryz.f272 9) Km 60=true:=cT
abbrev Y5:List Nat:=[0,1,2,3,4,5,6,7,8,9,10,11,12,13,14,15,16,17,18,19,20,21,22,23,24,25]
theorem mg:zeroOf prog 162=some (.agg #[ag 0,ag 0,ag 0,ag 0,ag 0,ag 0,ag 0,ag 0,ag 0,ag 0,ag 0,ag 0,ag 0,ag 0,ag 0,ag 0]):=cT
end
section
open Go.Proofs Go.Proofs.Tryz
theorem wQ:hv prog 155 256=true:=cT
theorem nt:ky prog 155 5 256=true:=cT
theorem Az:bO prog 162=true:=cT
theorem QK:bO prog 193=true:=cT
theorem QP:bO prog 210=true:=cT
theorem oq:bO prog 220=true:=cT
theorem tf:bO prog 98=true:=cT
theorem Jd:eS prog 155 256=true:=cT
theorem Ly:zeroOf prog 155=some (.agg #[ag 0,ag 0,ag 0,ag 0,ag 0,ag 0,ag 0,ag 0,ag 0,ag 0,ag 0,ag 0,ag 0,ag 0,ag 0,ag 0,ag 0,ag 0,ag 0,ag 0,ag 0,ag 0,ag 0,ag 0,ag 0,ag 0,ag 0,ag 0,ag 0,ag 0,ag 0,ag 0,ag 0,ag 0,ag 0,ag 0,ag 0,ag 0,ag 0,ag 0,ag 0,ag 0,ag 0,ag 0,ag 0,ag 0,ag 0,ag 0,ag 0,ag 0,ag 0,ag 0,ag 0,ag 0,ag 0,ag 0,ag 0,ag 0,ag 0,ag 0,ag 0,ag 0,ag 0,ag 0,ag 0,ag 0,ag 0,ag 0,ag 0,ag 0,ag 0,ag 0,ag 0,ag 0,ag 0,ag 0,ag 0,ag 0,ag 0,ag 0,ag 0,ag 0,ag 0,ag 0,ag 0,ag 0,ag 0,ag 0,ag 0,ag 0,ag 0,ag 0,ag 0,ag 0,ag 0,ag 0,ag 0,ag 0,ag 0,ag 0,ag 0,ag 0,ag 0,ag 0,ag 0,ag 0,ag 0,ag 0,ag 0,ag 0,ag 0,ag 0,ag 0,ag 0,ag 0,ag 0,ag 0,ag 0,ag 0,ag 0,ag 0,ag 0,ag 0,ag 0,ag 0,ag 0,ag 0,ag 0,ag 0,ag 0,ag 0,ag 0,ag 0,ag 0,ag 0,ag 0,ag 0,ag 0,ag 0,ag 0,ag 0,ag 0,ag 0,ag 0,ag 0,ag 0,ag 0,ag 0,ag 0,ag 0,ag 0,ag 0,ag 0,ag 0,ag 0,ag 0,ag 0,ag 0,ag 0,ag 0,ag 0,ag 0,ag 0,ag 0,ag 0,ag 0,ag 0,ag 0,ag 0,ag 0,ag 0,ag 0,ag 0,ag 0,ag 0,ag 0,ag 0,ag 0,ag 0,ag 0,ag 0,ag 0,ag 0,ag 0,ag 0,ag 0,ag 0,ag 0,ag 0,ag 0,ag 0,ag 0,ag 0,ag 0,ag 0,ag 0,ag 0,ag 0,ag 0,ag 0,ag 0,ag 0,ag 0,ag 0,ag 0,ag 0,ag 0,ag 0,ag 0,ag 0,ag 0,ag 0,ag 0,ag 0,ag 0,ag 0,ag 0,ag 0,ag 0,ag 0,ag 0,ag 0,ag 0,ag 0,ag 0,ag 0,ag 0,ag 0,ag 0,ag 0,ag 0,ag 0,ag 0,ag 0,ag 0,ag 0,ag 0,ag 0,ag 0,ag 0,ag 0,ag 0,ag 0,ag 0,ag 0,ag 0,ag 0,ag 0,ag 0,ag 0,ag 0,ag 0,ag 0,ag 0,ag 0,ag 0]):=cT
end
section
open Go.Proofs Go.Proofs.Tryz
theorem FC:bO prog 160=true:=cT
theorem FH:bO prog 191=true:=cT
theorem AB:bO prog 192=true:=cT
end
section
open Go.Proofs Go.Proofs.Tryz
theorem wR:hv prog 199 64=true:=cT
theorem qa:ky prog 199 5 64=true:=cT
theorem FA:bO prog 156=true:=cT
theorem QJ:bO prog 189=true:=cT
theorem FX:bO prog 96=true:=cT
theorem yS:eS prog 199 64=true:=cT
theorem Jo:Dk prog 9=true:=cT
abbrev JC:List Nat:=[0,0,3]
abbrev XL:List Nat:=[0,1,2]
theorem XK:cR (c7 Tryz.f156 4) JC 30=true:=cT
theorem K8:Dl prog 5=true:=cT
theorem ul:zeroOf prog 199=some (.agg #[ag 0,ag 0,ag 0,ag 0,ag 0,ag 0,ag 0,ag 0,ag 0,ag 0,ag 0,ag 0,ag 0,ag 0,ag 0,ag 0,ag 0,ag 0,ag 0,ag 0,ag 0,ag 0,ag 0,ag 0,ag 0,ag 0,ag 0,ag 0,ag 0,ag 0,ag 0,ag 0,ag 0,ag 0,ag 0,ag 0,ag 0,ag 0,ag 0,ag 0,ag 0,ag 0,ag 0,ag 0,ag 0,ag 0,ag 0,ag 0,ag 0,ag 0,ag 0,ag 0,ag 0,ag 0,ag 0,ag 0,ag 0,ag 0,ag 0,ag 0,ag 0,ag 0,ag 0,ag 0]):=cT
end
section
open Go.Proofs Go.Proofs.Tryz
theorem QM:bO prog 207=true:=cT
theorem QN:bO prog 208=true:=cT
theorem QO:bO prog 209=true:=cT
theorem QR:bO prog 218=true:=cT
abbrev JW:List Nat:=[0,1,3,0,8,24,63,0,128,384,0,1024,3072,8064,16383,0,32768,98304,0,262144,786432,2064384,4194303,8388607]
abbrev Yh:List Nat:=[0,1,2,3,4,5,6,7,8,9,10,11,12,13,14,15,16,17,18,19,20,21,22,23]
theorem Yg:cR (c7 Tryz.f209 10) JW 153=true:=cT
abbrev JX:List Nat:=[0,0,3,0,15,0,32,96,0,256,768,0,2048,6144,0,16384,49152,0,245760,0,524288,1572864,0,4194304,12582912,0,33554432,100663296,268435455,536870911]
abbrev Yj:List Nat:=[0,1,2,3,4,5,6,7,8,9,10,11,12,13,14,15,16,17,18,19,20,21,22,23,24,25,26,27,28,29]
theorem Yi:cR (c7 Tryz.f209 11) JX 153=true:=cT
abbrev JY:List Nat:=[0,0,0,6,14,0,0,96,224,510,1022,2047,4095]
abbrev Yl:List Nat:=[0,1,2,3,4,5,6,7,8,9,10,11,12]
theorem Yk:cR (c7 Tryz.f209 16) JY 153=true:=cT
abbrev JZ:List Nat:=[0,1,3,7,0,16,48,127,255,0,512,1536,3839,8191,16383]
abbrev Yn:List Nat:=[0,1,2,3,4,5,6,7,8,9,10,11,12,13,14]
theorem Ym:cR (c7 Tryz.f209 6) JZ 153=true:=cT
abbrev J0:List Nat:=[0,1,3,0,8,24,63,0,128,384,896,0,2048,6144,16256,32767,65535]
abbrev Yp:List Nat:=[0,1,2,3,4,5,6,7,8,9,10,11,12,13,14,15,16]
theorem Yo:cR (c7 Tryz.f209 7) J0 153=true:=cT
abbrev J1:List Nat:=[0,1,3,0,15,0,63,0,128,384,1023,0,0,6144,14336,32767,65535]
abbrev Yr:List Nat:=[0,1,2,3,4,5,6,7,8,9,10,11,12,13,14,15,16]
theorem Yq:cR (c7 Tryz.f209 8) J1 153=true:=cT
abbrev J2:List Nat:=[0,1,3,7,0,16,48,127,255,0,512,1536,3839,8191,16383]
abbrev Yt:List Nat:=[0,1,2,3,4,5,6,7,8,9,10,11,12,13,14]
theorem Ys:cR (c7 Tryz.f209 9) J2 153=true:=cT
end
section
open Go.Proofs Go.Proofs.Tryz
theorem w6:hk prog 227 4=true:=cT
theorem oo:bO prog 219=true:=cT
theorem ft:dN prog 245 227=true:=cT
abbrev CO:List Nat:=[0,0,0,0,8,28,60,126,0,510,0,0,2048,7168,15360,32766,65534,131071,262143]
abbrev Yv:List Nat:=[0,1,2,3,4,5,6,7,8,9,10,11,12,13,14,15,16,17,18]
theorem Yu:cR (c7 Tryz.f218 13) CO 99=true:=cT
abbrev J3:List Nat:=[0,0,0,4,14,30,62,126,0,0,512,1536,3840,7936,16128,32512,65534,0,0,262144,786432,1966080,4063232,8257536,16646144,33554430,0,0,134217728,402653184,1006632960,2080374784,4227858432,8589934590,17179869182,34359738367,68719476735]
abbrev Yx:List Nat:=[0,1,2,3,4,5,6,7,8,9,10,11,12,13,14,15,16,17,18,19,20,21,22,23,24,25,26,27,28,29,30,31,32,33,34,35,36]
theorem Yw:cR (c7 Tryz.f218 5) J3 99=true:=cT
theorem wG:(zeroOf prog 227).map (·.cells.toList)=some [Ou 0]:=cT
theorem zq:hl prog 227 1=true:=cT
end
section
open Go.Proofs Go.Proofs.Tryz
theorem Ax:bO prog 157=true:=cT
theorem uS:bO prog 158=true:=cT
theorem Ay:bO prog 159=true:=cT
abbrev JE:List Nat:=[0,0,2,7,15]
theorem XO:cR (c7 Tryz.f159 12) JE 71=true:=cT
abbrev XP:List Nat:=[0,1,2,3]
end
section
open Go.Proofs Go.Proofs.Tryz
theorem Ql:gG prog 231 0 0=true:=cT
theorem Qm:gG prog 231 1 8=true:=cT
theorem Qn:gG prog 231 2 9=true:=cT
theorem FG:bO prog 190=true:=cT
abbrev JD:List Nat:=[0,0,2,6,14,0,32,96,224,0,0,1024,4064,8190,16383,32767,65535]
theorem XM:cR (c7 Tryz.f158 5) JD 60=true:=cT
abbrev XN:List Nat:=[0,1,2,3,4,5,6,7,8,9,10,11,12,13,14,15]
theorem ZX:iy prog 231 [8,1,1] [Ou 0,Ou 0,Ou 0,Ou 0,Ou 0,Ou 0,Ou 0,Ou 0,.slice none 0 0,aa 0]=true:=cT
theorem aaJ:zeroOf prog 231=some (.agg [Ou 0,Ou 0,Ou 0,Ou 0,Ou 0,Ou 0,Ou 0,Ou 0,.slice none 0 0,aa 0].toArray):=cT
end
section
open Go.Proofs Go.Proofs.Tryz
theorem wS:hv prog 229 8=true:=cT
theorem j0:ky prog 229 227 8=true:=cT
theorem o5:ky prog 243 227 64=true:=cT
theorem om:bO prog 206=true:=cT
theorem eC:fb prog 227=true:=cT
theorem dL:eS prog 227 1=true:=cT
theorem yT:eS prog 229 8=true:=cT
abbrev JM:List Nat:=[0,1,3,7,0,16,48,112,15,511]
abbrev X1:List Nat:=[0,1,2,3,4,5,6,7,8,9]
theorem X0:cR (c7 Tryz.f190 10) JM 213=true:=cT
abbrev JN:List Nat:=[0,0,2,0,14,30,0,64,254,0,512,1536,3584,8190,0,16414,0,114718,245790,0,524288,2080798,4194302,0,8388608,25165824,58720256,134217726,268435455,536870911]
theorem X2:cR (c7 Tryz.f190 11) JN 213=true:=cT
abbrev X3:List Nat:=[0,1,2,3,4,5,6,7,8,9,10,11,12,13,14,15,16,17,18,19,20,21,22,23,24,25,26,27,28]
abbrev JO:List Nat:=[0,1,0,4,0,16,0,64,0,256,0,1024,0,4096,0,16384,3,65551,196671,459007,984063,2035711,4145151,8388607]
abbrev X5:List Nat:=[0,1,2,3,4,5,6,7,8,9,10,11,12,13,14,15,16,17,18,19,20,21,22,23]
theorem X4:cR (c7 Tryz.f190 12) JO 213=true:=cT
abbrev JP:List Nat:=[0,0,2,0,14,30,0,94,254,511,0,0,3072,0,8192,0,57344,130048,262143,0,524288,1572864,4194303,0,8388608,25165824,67108863,134217727]
abbrev X7:List Nat:=[0,1,2,3,4,5,6,7,8,9,10,11,12,13,14,15,16,17,18,19,20,21,22,23,24,25,26,27]
theorem X6:cR (c7 Tryz.f190 16) JP 213=true:=cT
abbrev JQ:List Nat:=[0,0,0,4,14,30,62,126,0,0,512,1536,3840,7936,16128,32512,65534,0,0,262144,786432,1966080,4063232,8257536,16646144,33554430,0,0,134217728,402653184,1006632960,2080374784,4227858432,8589934590,17179869183,34359738367]
theorem X8:cR (c7 Tryz.f190 5) JQ 213=true:=cT
abbrev X9:List Nat:=[0,1,2,3,4,5,6,7,8,9,10,11,12,13,14,15,16,17,18,19,20,21,22,23,24,25,26,27,28,29,30,31,32,33,34]
theorem zn:zeroOf prog 229=some (.agg #[Ou 0,Ou 0,Ou 0,Ou 0,Ou 0,Ou 0,Ou 0,Ou 0]):=cT
theorem aaA:zeroOf prog 243=some (.agg #[Ou 0,Ou 0,Ou 0,Ou 0,Ou 0,Ou 0,Ou 0,Ou 0,Ou 0,Ou 0,Ou 0,Ou 0,Ou 0,Ou 0,Ou 0,Ou 0,Ou 0,Ou 0,Ou 0,Ou 0,Ou 0,Ou 0,Ou 0,Ou 0,Ou 0,Ou 0,Ou 0,Ou 0,Ou 0,Ou 0,Ou 0,Ou 0,Ou 0,Ou 0,Ou 0,Ou 0,Ou 0,Ou 0,Ou 0,Ou 0,Ou 0,Ou 0,Ou 0,Ou 0,Ou 0,Ou 0,Ou 0,Ou 0,Ou 0,Ou 0,Ou 0,Ou 0,Ou 0,Ou 0,Ou 0,Ou 0,Ou 0,Ou 0,Ou 0,Ou 0,Ou 0,Ou 0,Ou 0,Ou 0]):=cT
end
section
open Go.Proofs Go.Proofs.Tryz
abbrev CZ:List Nat:=[0,1,3,7,0,0,32,127,255]
theorem Kz:cR (c7 Tryz.f49 4) CZ 28=true:=cT
abbrev KA:List Nat:=[0,1,2,3,4,5,6,7]
end
section
open Go.Proofs Go.Proofs.Tryz
theorem Fw:bO prog 103=true:=cT
theorem QA:bO prog 163=true:=cT
theorem QB:bO prog 164=true:=cT
end
end Go.a2.T
section
end
namespace Go.a2.T
section
open Go.Proofs Go.Proofs.Tryz
theorem w5:hk prog 22 24=true:=cT
theorem ED:hk prog 3 8=true:=cT
abbrev KV:List Nat:=[0,1,0,0,8,31,63,127,255]
abbrev Zt:List Nat:=[0,1,2,3,4,5,6,7,8]
theorem Zs:cR (c7 Tryz.f9 3) KV 17=true:=cT
theorem ZZ:iy prog 95 [1,1,1,1,1,1,1] [.slice none 0 0,.map none,.bool false,aa 0,.bool false,aa 0,.slice none 0 0]=true:=cT
theorem aay:(zeroOf prog 22).map (·.cells)=some #[.slice none 0 0]:=cT
theorem Lx:(zeroOf prog 3).map (·.cells)=some #[aa 0]:=cT
theorem aaL:zeroOf prog 95=some (.agg [.slice none 0 0,.map none,.bool false,aa 0,.bool false,aa 0,.slice none 0 0].toArray):=cT
theorem zp:hl prog 22 1=true:=cT
theorem LA:hl prog 3 1=true:=cT
end
section
open Go.Proofs Go.Proofs.Tryz
theorem ib:hv prog 116 5=true:=cT
theorem ol:bO prog 153=true:=cT
theorem ta:bO prog 154=true:=cT
theorem qt:bO prog 166=true:=cT
theorem FO:bO prog 273=true:=cT
theorem QZ:bO prog 274=true:=cT
theorem yf:rh prog 87 "Open" 273=true:=cT
theorem HA:rh prog 87 "Seal" 274=true:=cT
theorem fE:eS prog 116 5=true:=cT
abbrev wx:List Nat:=[0,0,2,0,8,0,0,96,0,256,1,1025,3073,8191,16383,32767,32767,65535,262143]
abbrev y1:List Nat:=[0,1,2,3,4,5,6,7,8,9,10,11,12,13,14,15,16,17,18]
theorem y0:cR (c7 Tryz.f110 11) wx 75=true:=cT
abbrev C4:List Nat:=[0,1,3,7,0,16,63,0,128,511,1023]
abbrev KQ:List Nat:=[0,1,2,3,4,5,6,7,8,9,10]
theorem KP:cR (c7 Tryz.f90 8) C4 56=true:=cT
abbrev C5:List Nat:=[0,0,0,4,0,16,0,64,0,256,960,0,2048,2,8194,24578,65534,131071,262143,524287]
abbrev KS:List Nat:=[0,1,2,3,4,5,6,7,8,9,10,11,12,13,14,15,16,17,18,19]
theorem KR:cR (c7 Tryz.f90 9) C5 56=true:=cT
theorem g5:iy prog 116 [1,1,1,1,1] [aa 0,aa 0,aa 0,aa 0,.slice none 0 0]=true:=cT
theorem fG:zeroOf prog 116=some (.agg #[aa 0,aa 0,aa 0,aa 0,.slice none 0 0]):=cT
theorem g6:zeroOf prog 116=some (.agg [aa 0,aa 0,aa 0,aa 0,.slice none 0 0].toArray):=cT
end
section
open Go.Proofs Go.Proofs.Tryz
theorem wT:hv prog 299 4=true:=cT
theorem Pz:hk prog 299 48=true:=cT
theorem Qj:gG prog 151 1 1=true:=cT
theorem FP:bO prog 276=true:=cT
theorem xr:bO prog 277=true:=cT
theorem xt:bO prog 278=true:=cT
theorem rL:bO prog 279=true:=cT
theorem tz:Di prog 147 299 3=true:=cT
theorem tC:fb prog 147=true:=cT
theorem H3:fb prog 149=true:=cT
theorem Xg:eS prog 149 1=true:=cT
theorem Cy:eS prog 299 4=true:=cT
theorem yU:dN prog 149 299=true:=cT
theorem oR:prog.underlying 9=some .string:=cT
abbrev y2:List Nat:=[0,0,2,6,15,0,0,64,192,480,31,2047]
abbrev CR:List Nat:=[0,1,2,3,4,5,6,7,8,9,10,11]
theorem CQ:cR (c7 Tryz.f273 3) y2 58=true:=cT
abbrev y3:List Nat:=[0,1,3,7,0,0,0,64,0,256,1008,2047,4095,8191,8191,16383,65535]
abbrev CT:List Nat:=[0,1,2,3,4,5,6,7,8,9,10,11,12,13,14,15,16]
theorem CS:cR (c7 Tryz.f273 4) y3 58=true:=cT
abbrev y4:List Nat:=[0,1,3,7,7,7,39,119,247,511,1023,2047]
abbrev CV:List Nat:=[0,1,2,3,4,5,6,7,8,9,10,11]
theorem CU:cR (c7 Tryz.f273 5) y4 58=true:=cT
abbrev CW:List Nat:=[0,1,3,7,0,31,63,127,127,255,1023]
abbrev Ko:List Nat:=[0,1,2,3,4,5,6,7,8,9,10]
theorem Kn:cR (c7 Tryz.f274 4) CW 67=true:=cT
abbrev Kp:List Nat:=[0,0,2,6,14,0,32,126,255,511,1023]
theorem Y6:cR (c7 Tryz.f274 6) Kp 67=true:=cT
abbrev Y7:List Nat:=[0,1,2,3,4,5,6,7,8,9]
abbrev Kq:List Nat:=[0,1,3,7,0,0,63]
theorem Y8:cR (c7 Tryz.f274 8) Kq 67=true:=cT
abbrev Y9:List Nat:=[0,1,2,3,4,5]
abbrev CX:List Nat:=[0,0,0,4,15,31,63]
abbrev Ks:List Nat:=[0,1,2,3,4,5,6]
theorem Kr:cR (c7 Tryz.f274 9) CX 67=true:=cT
theorem ZR:iy prog 151 [1,1,1] [.map none,.slice none 0 0,.map none]=true:=cT
theorem wA:iy prog 299 [1,1,1,1] [aa 0,aa 0,.string .empty,.string .empty]=true:=cT
theorem oW:prog.underlying 5=some (.int .u8):=cT
theorem Lz:zeroOf prog 299=some (.agg #[aa 0,aa 0,.string .empty,.string .empty]):=cT
theorem um:zeroOf prog 3=some (aa 0):=cT
theorem aaD:zeroOf prog 151=some (.agg [.map none,.slice none 0 0,.map none].toArray):=cT
theorem wF:zeroOf prog 299=some (.agg [aa 0,aa 0,.string .empty,.string .empty].toArray):=cT
theorem p0:(zeroOf prog 22).map (·.cells.toList)=some [.slice none 0 0]:=cT
theorem aaQ:(zeroOf prog 299).map (·.cells.toList)=some [aa 0,aa 0,.string .empty,.string .empty]:=cT
theorem aaS:hl prog 299 4=true:=cT
end
section
open Go.Proofs Go.Proofs.Tryz
theorem Q0:bO prog 280=true:=cT
theorem Tf:prog.underlying 3=some (.int .i64):=cT
end
section
open Go.Proofs Go.Proofs.Tryz
theorem oh:bO prog 101=true:=cT
theorem rH:bO prog 102=true:=cT
theorem qv:bO prog 63=true:=cT
theorem rN:bO prog 64=true:=cT
theorem mC:nk prog 93 3 22=true:=cT
theorem qY:fb prog 46=true:=cT
theorem lu:fb prog 92=true:=cT
theorem l7:fb prog 93=true:=cT
theorem gN:dN prog 92 22=true:=cT
abbrev C6:List Nat:=[0,1,3,7,0,0,32,127]
theorem KT:cR (c7 Tryz.f92 9) C6 39=true:=cT
abbrev KU:List Nat:=[0,1,2,3,4,5,6]
theorem DA:zeroOf prog 22=some (.slice none 0 0):=cT
end
section
open Go.Proofs Go.Proofs.Tryz
abbrev CY:List Nat:=[0,0,3,7,0,0,48,112,255]
abbrev Ku:List Nat:=[0,1,2,3,4,5,6,7,8]
theorem Kt:cR (c7 Tryz.f276 6) CY 26=true:=cT
end
section
open Go.Proofs Go.Proofs.Tryz
theorem AA:bO prog 19=true:=cT
end
section
open Go.Proofs Go.Proofs.Tryz
theorem qn:bO prog 112=true:=cT
theorem ha:bO prog 113=true:=cT
theorem oj:bO prog 118=true:=cT
theorem Ar:bO prog 119=true:=cT
theorem As:bO prog 120=true:=cT
theorem ZV:iy prog 212 [1,1,1] [.slice none 0 0,aa 0,.bool false]=true:=cT
theorem aaH:zeroOf prog 212=some (.agg [.slice none 0 0,aa 0,.bool false].toArray):=cT
end
section
open Go.Proofs Go.Proofs.Tryz
theorem tc:bO prog 167=true:=cT
theorem qu:bO prog 170=true:=cT
abbrev JG:List Nat:=[0,1,3,7,0,16,48,112,0,496,0,1024,3072,7168,16383,32767,65535]
abbrev XT:List Nat:=[0,1,2,3,4,5,6,7,8,9,10,11,12,13,14,15,16]
theorem XS:cR (c7 Tryz.f167 5) JG 37=true:=cT
abbrev JK:List Nat:=[0,1,3,7,15,0,32,96,224,511,1023]
abbrev XX:List Nat:=[0,1,2,3,4,5,6,7,8,9,10]
theorem XW:cR (c7 Tryz.f170 3) JK 17=true:=cT
end
section
open Go.Proofs Go.Proofs.Tryz
theorem pc:bO prog 125=true:=cT
theorem g0:bO prog 126=true:=cT
theorem pd:bO prog 127=true:=cT
theorem Au:bO prog 128=true:=cT
theorem Av:bO prog 129=true:=cT
theorem tZ:eS prog 43 2=true:=cT
theorem dV:eS prog 45 136=true:=cT
theorem ud:iy prog 43 [1,1] [aa 0,aa 0]=true:=cT
theorem mL:iy prog 45 [1,1,1,32,33,2,2,32,32] [aa 0,aa 0,aa 0,ag 0,ag 0,ag 0,ag 0,ag 0,ag 0,ag 0,ag 0,ag 0,ag 0,ag 0,ag 0,ag 0,ag 0,ag 0,ag 0,ag 0,ag 0,ag 0,ag 0,ag 0,ag 0,ag 0,ag 0,ag 0,ag 0,ag 0,ag 0,ag 0,ag 0,ag 0,ag 0,aa 0,ag 0,ag 0,ag 0,ag 0,ag 0,ag 0,ag 0,ag 0,ag 0,ag 0,ag 0,ag 0,ag 0,ag 0,ag 0,ag 0,ag 0,ag 0,ag 0,ag 0,ag 0,ag 0,ag 0,ag 0,ag 0,ag 0,ag 0,ag 0,ag 0,ag 0,ag 0,ag 0,aa 0,aa 0,aa 0,aa 0,ag 0,ag 0,ag 0,ag 0,ag 0,ag 0,ag 0,ag 0,ag 0,ag 0,ag 0,ag 0,ag 0,ag 0,ag 0,ag 0,ag 0,ag 0,ag 0,ag 0,ag 0,ag 0,ag 0,ag 0,ag 0,ag 0,ag 0,ag 0,ag 0,ag 0,ag 0,ag 0,ag 0,ag 0,ag 0,ag 0,ag 0,ag 0,ag 0,ag 0,ag 0,ag 0,ag 0,ag 0,ag 0,ag 0,ag 0,ag 0,ag 0,ag 0,ag 0,ag 0,ag 0,ag 0,ag 0,ag 0,ag 0,ag 0,ag 0,ag 0,ag 0,ag 0,ag 0,ag 0]=true:=cT
theorem fu:zeroOf prog 45=some (.agg #[aa 0,aa 0,aa 0,ag 0,ag 0,ag 0,ag 0,ag 0,ag 0,ag 0,ag 0,ag 0,ag 0,ag 0,ag 0,ag 0,ag 0,ag 0,ag 0,ag 0,ag 0,ag 0,ag 0,ag 0,ag 0,ag 0,ag 0,ag 0,ag 0,ag 0,ag 0,ag 0,ag 0,ag 0,ag 0,aa 0,ag 0,ag 0,ag 0,ag 0,ag 0,ag 0,ag 0,ag 0,ag 0,ag 0,ag 0,ag 0,ag 0,ag 0,ag 0,ag 0,ag 0,ag 0,ag 0,ag 0,ag 0,ag 0,ag 0,ag 0,ag 0,ag 0,ag 0,ag 0,ag 0,ag 0,ag 0,ag 0,aa 0,aa 0,aa 0,aa 0,ag 0,ag 0,ag 0,ag 0,ag 0,ag 0,ag 0,ag 0,ag 0,ag 0,ag 0,ag 0,ag 0,ag 0,ag 0,ag 0,ag 0,ag 0,ag 0,ag 0,ag 0,ag 0,ag 0,ag 0,ag 0,ag 0,ag 0,ag 0,ag 0,ag 0,ag 0,ag 0,ag 0,ag 0,ag 0,ag 0,ag 0,ag 0,ag 0,ag 0,ag 0,ag 0,ag 0,ag 0,ag 0,ag 0,ag 0,ag 0,ag 0,ag 0,ag 0,ag 0,ag 0,ag 0,ag 0,ag 0,ag 0,ag 0,ag 0,ag 0,ag 0,ag 0,ag 0,ag 0]):=cT
theorem uo:zeroOf prog 43=some (.agg [aa 0,aa 0].toArray):=cT
theorem mN:zeroOf prog 45=some (.agg [aa 0,aa 0,aa 0,ag 0,ag 0,ag 0,ag 0,ag 0,ag 0,ag 0,ag 0,ag 0,ag 0,ag 0,ag 0,ag 0,ag 0,ag 0,ag 0,ag 0,ag 0,ag 0,ag 0,ag 0,ag 0,ag 0,ag 0,ag 0,ag 0,ag 0,ag 0,ag 0,ag 0,ag 0,ag 0,aa 0,ag 0,ag 0,ag 0,ag 0,ag 0,ag 0,ag 0,ag 0,ag 0,ag 0,ag 0,ag 0,ag 0,ag 0,ag 0,ag 0,ag 0,ag 0,ag 0,ag 0,ag 0,ag 0,ag 0,ag 0,ag 0,ag 0,ag 0,ag 0,ag 0,ag 0,ag 0,ag 0,aa 0,aa 0,aa 0,aa 0,ag 0,ag 0,ag 0,ag 0,ag 0,ag 0,ag 0,ag 0,ag 0,ag 0,ag 0,ag 0,ag 0,ag 0,ag 0,ag 0,ag 0,ag 0,ag 0,ag 0,ag 0,ag 0,ag 0,ag 0,ag 0,ag 0,ag 0,ag 0,ag 0,ag 0,ag 0,ag 0,ag 0,ag 0,ag 0,ag 0,ag 0,ag 0,ag 0,ag 0,ag 0,ag 0,ag 0,ag 0,ag 0,ag 0,ag 0,ag 0,ag 0,ag 0,ag 0,ag 0,ag 0,ag 0,ag 0,ag 0,ag 0,ag 0,ag 0,ag 0,ag 0,ag 0,ag 0,ag 0].toArray):=cT
end
section
open Go.Proofs Go.Proofs.Tryz
theorem xp:bO prog 121=true:=cT
theorem Qu:bO prog 124=true:=cT
theorem jw:bO prog 171=true:=cT
theorem pf:bO prog 172=true:=cT
end
section
open Go.Proofs Go.Proofs.Tryz
theorem qo:bO prog 122=true:=cT
theorem xq:bO prog 123=true:=cT
abbrev JB:List Nat:=[0,0,2,7,0,16,63,127]
abbrev XJ:List Nat:=[0,1,2,3,4,5,6,7]
theorem XI:cR (c7 Tryz.f124 1) JB 12=true:=cT
end
section
open Go.Proofs Go.Proofs.Tryz
theorem da:hv prog 45 136=true:=cT
theorem xw:bO prog 73=true:=cT
theorem Rc:bO prog 75=true:=cT
theorem FU:bO prog 77=true:=cT
abbrev Ke:List Nat:=[0,1,3,0,8,31,0,64,255,511]
abbrev YP:List Nat:=[0,1,2,3,4,5,6,7,8,9]
theorem YO:cR (c7 Tryz.f26 3) Ke 38=true:=cT
abbrev Kf:List Nat:=[0,0,2,7,0,16,63,127]
abbrev YR:List Nat:=[0,1,2,3,4,5,6,7]
theorem YQ:cR (c7 Tryz.f26 4) Kf 38=true:=cT
abbrev Kg:List Nat:=[0,0,2,7,0,16,63,127]
abbrev YT:List Nat:=[0,1,2,3,4,5,6,7]
theorem YS:cR (c7 Tryz.f26 5) Kg 38=true:=cT
abbrev Kh:List Nat:=[0,0,2,7,0,16,63,127,255]
abbrev YV:List Nat:=[0,1,2,3,4,5,6,7,8]
theorem YU:cR (c7 Tryz.f26 6) Kh 38=true:=cT
abbrev KN:List Nat:=[0,0,2,7,0,16,63,127]
abbrev Zp:List Nat:=[0,1,2,3,4,5,6,7]
theorem Zo:cR (c7 Tryz.f77 1) KN 12=true:=cT
end
section
open Go.Proofs Go.Proofs.Tryz
theorem kE:hv prog 43 2=true:=cT
theorem ql:ug prog 41 ([.i64]++List.replicate 32 .u8)=true:=cT
theorem qp:bO prog 130=true:=cT
theorem pe:bO prog 131=true:=cT
theorem qq:bO prog 132=true:=cT
theorem s9:bO prog 133=true:=cT
theorem QI:bO prog 179=true:=cT
theorem c3:eS prog 3 1=true:=cT
theorem en:dN prog 46 3=true:=cT
abbrev CN:List Nat:=[0,0,3,7,0,0,48,112,255]
abbrev JT:List Nat:=[0,1,2,3,4,5,6,7,8]
theorem JS:cR (c7 Tryz.f19 6) CN 26=true:=cT
theorem k7:(zeroOf prog 3).map (·.cells.toList)=some [aa 0]:=cT
end
section
open Go.Proofs Go.Proofs.Tryz
theorem jL:hv prog 41 33=true:=cT
theorem QE:bO prog 173=true:=cT
theorem FE:bO prog 174=true:=cT
theorem QF:bO prog 175=true:=cT
theorem FF:bO prog 176=true:=cT
theorem QG:bO prog 177=true:=cT
theorem QH:bO prog 178=true:=cT
theorem ec:fb prog 22=true:=cT
theorem fZ:fb prog 4=true:=cT
theorem cq:fb prog 5=true:=cT
theorem gM:eS prog 22 1=true:=cT
theorem fF:eS prog 39 32=true:=cT
theorem kf:eS prog 4 1=true:=cT
theorem nV:eS prog 41 33=true:=cT
abbrev JL:List Nat:=[0,1,3,0,8,31,63,127]
theorem XY:cR (c7 Tryz.f178 1) JL 10=true:=cT
abbrev XZ:List Nat:=[0,1,2,3,4,5,6]
theorem ZW:iy prog 216 [1,1] [.slice none 0 0,.bool false]=true:=cT
theorem nj:iy prog 41 [1,32] [aa 0,ag 0,ag 0,ag 0,ag 0,ag 0,ag 0,ag 0,ag 0,ag 0,ag 0,ag 0,ag 0,ag 0,ag 0,ag 0,ag 0,ag 0,ag 0,ag 0,ag 0,ag 0,ag 0,ag 0,ag 0,ag 0,ag 0,ag 0,ag 0,ag 0,ag 0,ag 0,ag 0]=true:=cT
theorem gH:zeroOf prog 39=some (.agg #[ag 0,ag 0,ag 0,ag 0,ag 0,ag 0,ag 0,ag 0,ag 0,ag 0,ag 0,ag 0,ag 0,ag 0,ag 0,ag 0,ag 0,ag 0,ag 0,ag 0,ag 0,ag 0,ag 0,ag 0,ag 0,ag 0,ag 0,ag 0,ag 0,ag 0,ag 0,ag 0]):=cT
theorem oY:zeroOf prog 41=some (.agg #[aa 0,ag 0,ag 0,ag 0,ag 0,ag 0,ag 0,ag 0,ag 0,ag 0,ag 0,ag 0,ag 0,ag 0,ag 0,ag 0,ag 0,ag 0,ag 0,ag 0,ag 0,ag 0,ag 0,ag 0,ag 0,ag 0,ag 0,ag 0,ag 0,ag 0,ag 0,ag 0,ag 0]):=cT
theorem aaI:zeroOf prog 216=some (.agg [.slice none 0 0,.bool false].toArray):=cT
theorem nm:zeroOf prog 41=some (.agg [aa 0,ag 0,ag 0,ag 0,ag 0,ag 0,ag 0,ag 0,ag 0,ag 0,ag 0,ag 0,ag 0,ag 0,ag 0,ag 0,ag 0,ag 0,ag 0,ag 0,ag 0,ag 0,ag 0,ag 0,ag 0,ag 0,ag 0,ag 0,ag 0,ag 0,ag 0,ag 0,ag 0].toArray):=cT
end
section
open Go.Proofs Go.Proofs.Tryz
theorem gJ:hv prog 39 32=true:=cT
theorem iB:ky prog 39 5 32=true:=cT
theorem ef:hk prog 5 1=true:=cT
theorem Aw:bO prog 134=true:=cT
theorem Qw:bO prog 135=true:=cT
theorem nB:bO prog 74=true:=cT
theorem xx:bO prog 76=true:=cT
theorem mixed:prog.follows .mixedOrders=true:=cT
theorem bc:fb prog 3=true:=cT
theorem bf:eS prog 5 1=true:=cT
theorem aG:dN prog 22 5=true:=cT
abbrev KM:List Nat:=[0,0,2,7,0,16,63,127]
abbrev Zn:List Nat:=[0,1,2,3,4,5,6,7]
theorem Zm:cR (c7 Tryz.f75 1) KM 12=true:=cT
theorem rn:(zeroOf prog 5).map (·.cells)=some #[ag 0]:=cT
theorem gO:(zeroOf prog 5).map (·.cells.toList)=some [ag 0]:=cT
theorem eh:hl prog 5 1=true:=cT
end
section
open Go.Proofs Go.Proofs.Tryz
theorem oi:bO prog 110=true:=cT
theorem mn:bO prog 18=true:=cT
theorem rK:bO prog 26=true:=cT
theorem xu:bO prog 59=true:=cT
theorem qw:bO prog 68=true:=cT
theorem xy:bO prog 90=true:=cT
theorem ot:bO prog 91=true:=cT
theorem FW:bO prog 92=true:=cT
abbrev wy:List Nat:=[0,0,2,0,0,16,0,126,255,511,1023,1023,2047,8191]
abbrev y7:List Nat:=[0,1,2,3,4,5,6,7,8,9,10,11,12,13]
theorem y6:cR (c7 Tryz.f44 4) wy 40=true:=cT
abbrev pU:List Nat:=[0,0,2,6,14,30,14,78,254,510,1022,2046,4094,2046,16382,32766,8191,131071]
abbrev rc:List Nat:=[0,1,2,3,4,5,6,7,8,9,10,11,12,13,14,15,16,17]
theorem rb:cR (c7 Tryz.f59 8) pU 53=true:=cT
theorem DB:(zeroOf prog 45).map (·.cells.toList)=some [aa 0,aa 0,aa 0,ag 0,ag 0,ag 0,ag 0,ag 0,ag 0,ag 0,ag 0,ag 0,ag 0,ag 0,ag 0,ag 0,ag 0,ag 0,ag 0,ag 0,ag 0,ag 0,ag 0,ag 0,ag 0,ag 0,ag 0,ag 0,ag 0,ag 0,ag 0,ag 0,ag 0,ag 0,ag 0,aa 0,ag 0,ag 0,ag 0,ag 0,ag 0,ag 0,ag 0,ag 0,ag 0,ag 0,ag 0,ag 0,ag 0,ag 0,ag 0,ag 0,ag 0,ag 0,ag 0,ag 0,ag 0,ag 0,ag 0,ag 0,ag 0,ag 0,ag 0,ag 0,ag 0,ag 0,ag 0,ag 0,aa 0,aa 0,aa 0,aa 0,ag 0,ag 0,ag 0,ag 0,ag 0,ag 0,ag 0,ag 0,ag 0,ag 0,ag 0,ag 0,ag 0,ag 0,ag 0,ag 0,ag 0,ag 0,ag 0,ag 0,ag 0,ag 0,ag 0,ag 0,ag 0,ag 0,ag 0,ag 0,ag 0,ag 0,ag 0,ag 0,ag 0,ag 0,ag 0,ag 0,ag 0,ag 0,ag 0,ag 0,ag 0,ag 0,ag 0,ag 0,ag 0,ag 0,ag 0,ag 0,ag 0,ag 0,ag 0,ag 0,ag 0,ag 0,ag 0,ag 0,ag 0,ag 0,ag 0,ag 0,ag 0,ag 0,ag 0,ag 0]:=cT
end
section
open Go.Proofs Go.Proofs.Tryz
theorem w7:hk prog 45 192=true:=cT
theorem An:ug prog 45 ([.i64]++[.i64]++[.i64]++List.replicate 32 .u8++[.i64]++List.replicate 32 .u8++[.i64]++[.i64]++[.i64]++[.i64]++List.replicate 32 .u8++List.replicate 32 .u8)=true:=cT
theorem Qy:bO prog 15=true:=cT
theorem gd:dN prog 51 45=true:=cT
abbrev JF:List Nat:=[0,0,3,7,0,0,48,112,255]
abbrev XR:List Nat:=[0,1,2,3,4,5,6,7,8]
theorem XQ:cR (c7 Tryz.f15 6) JF 26=true:=cT
theorem zr:hl prog 45 136=true:=cT
end
section
open Go.Proofs Go.Proofs.Tryz
theorem uU:bO prog 27=true:=cT
theorem AO:bO prog 8=true:=cT
end
section
open Go.Proofs Go.Proofs.Tryz
abbrev KB:List Nat:=[0,1,3,7,0,0,32,96,224,0,992,2047,4095]
theorem Zg:cR (c7 Tryz.f51 4) KB 48=true:=cT
abbrev Zh:List Nat:=[0,1,2,3,4,5,6,7,8,9,10,11]
end
section
open Go.Proofs Go.Proofs.Tryz
theorem Ao:gG prog 48 4 139=true:=cT
theorem Fv:gG prog 48 5 140=true:=cT
theorem FR:bO prog 49=true:=cT
theorem Q5:bO prog 50=true:=cT
theorem Q6:bO prog 51=true:=cT
theorem Q7:bO prog 52=true:=cT
end
section
open Go.Proofs Go.Proofs.Tryz
theorem FB:bO prog 16=true:=cT
theorem uT:bO prog 24=true:=cT
theorem Q1:bO prog 43=true:=cT
theorem AL:bO prog 44=true:=cT
theorem Q2:bO prog 45=true:=cT
theorem FV:bO prog 9=true:=cT
abbrev KO:List Nat:=[0,1,3,7,15,31,63,127,255,511,1023,2047,4095,8191,16383,32767,65535,131071,262143,524287,1048575,2097151,4194303,8388607,2097151,33554431,67108863,134217727,268435455,536870911,1073741823,2147483647,2147483647,8589934591,17179869183,34359738367]
abbrev Zr:List Nat:=[0,1,2,3,4,5,6,7,8,9,10,11,12,13,14,15,16,17,18,19,20,21,22,23,24,25,26,27,28,29,30,31,32,33,34,35]
theorem Zq:cR (c7 Tryz.f8 10) KO 77=true:=cT
end
section
open Go.Proofs Go.Proofs.Tryz
theorem Fz:bO prog 155=true:=cT
theorem xz:bO prog 93=true:=cT
theorem Re:bO prog 94=true:=cT
theorem Rf:bO prog 95=true:=cT
theorem aaT:zeroOf prog 45=some Rec.zero.val:=cT
end
section
open Go.Proofs Go.Proofs.Tryz
theorem Ed:hv prog 48 141=true:=cT
theorem Qv:bO prog 13=true:=cT
theorem AN:bO prog 7=true:=cT
end
section
open Go.Proofs Go.Proofs.Tryz
theorem su:eS prog 48 141=true:=cT
theorem lR:dN prog 23 48=true:=cT
end
end Go.a2.T
namespace Go.Proofs.YtckdfgknodedoaaGreatDoor.K
section
open Go.RowKit Go.a2 Go.Proofs Go.Proofs.Tryz
def kh:List (Nat×Nat×Nat):=[(41,0,0),(41,1,1),(43,0,0),(43,1,1),(45,0,0),(45,1,1),(45,2,2),(45,3,3),(45,4,35),(45,5,68),(45,6,70),(45,7,72),(45,8,104),(48,0,0),(48,1,1),(48,2,2),(48,3,3),(48,4,139),(48,5,140),(81,0,0),(81,1,1),(81,2,2),(81,3,3),(81,4,4),(81,5,5),(81,6,6),(95,0,0),(95,1,1),(95,2,2),(95,3,3),(95,4,4),(95,5,5),(95,6,6),(101,0,0),(101,1,1),(106,0,0),(116,0,0),(116,1,1),(116,2,2),(116,3,3),(116,4,4),(151,0,0),(151,1,1),(159,0,0),(159,1,1),(167,0,0),(167,1,1),(172,0,0),(172,1,1),(205,0,0),(205,1,1),(212,0,0),(212,1,1),(212,2,2),(216,0,0),(216,1,1),(231,0,0),(231,1,8),(231,2,9)]
set_option maxRecDepth 100000 in
theorem kB:kh.all (fun x=>gG prog x.1 x.2.1 x.2.2)=true:=cT
def ah:= @Go.a2.qy prog kh kB
def ei:= @Go.a2.RR prog kh kB
def ch:= @Go.a2.iR prog kh kB
def bD:= @Go.a2.bn prog kh kB
def bs:= @Go.a2.ad prog kh kB
def a1:= @Go.a2.cO prog kh kB
def cv:= @Go.a2.UM prog kh kB
def bw:= @Go.a2.qX prog kh kB
def aU:= @Go.a2.UD prog kh kB
def ct:= @Go.a2.yo prog kh kB
def aw:= @Go.a2.Rm prog kh kB
def b5:= @Go.a2.Wb prog kh kB
def bo:= @Go.a2.RQ prog kh kB
def bh:= @Go.a2.bg prog kh kB
def bj:= @Go.a2.gs prog kh kB
def cP:= @Go.a2.gc prog kh kB
def bC:= @Go.a2.jN prog kh kB
end
section
open Go.RowKit Go.a2 Go.Proofs Go.Proofs.Tryz
theorem wrap_u64(x:Int):IntKind.u64.wrap x=x%18446744073709551616:=rfl
theorem wrap_u8(x:Int):IntKind.u8.wrap x=x%256:=rfl
theorem P5(v:Int): [Value.int .u8 (IntKind.u8.wrap (IntKind.u64.wrap v/72057594037927936)),ag (IntKind.u8.wrap (IntKind.u64.wrap v/281474976710656)),ag (IntKind.u8.wrap (IntKind.u64.wrap v/1099511627776)),ag (IntKind.u8.wrap (IntKind.u64.wrap v/4294967296)),ag (IntKind.u8.wrap (IntKind.u64.wrap v/16777216)),ag (IntKind.u8.wrap (IntKind.u64.wrap v/65536)),ag (IntKind.u8.wrap (IntKind.u64.wrap v/256)),ag (IntKind.u8.wrap (IntKind.u64.wrap v))]=ao (aO v):=by
 simp only[aO,ao,List.map_cons,List.map_nil,iH,wrap_u64,wrap_u8,List.cons.injEq,Value.int.injEq,true_and,and_true];refine⟨?_,?_,?_,?_,?_,?_,?_,?_⟩<;>omega
theorem P6(v:Int)(w0:World):aY prog 135 [aa v] w0 [] (fun s:Value=>s) (fun s=>[.bytes 5 s (aO v)]) (fun _=>True):=by
 refine enter (n:=30) func135 U U U ?_;intro fr E;have M:=ht (Has.nil w0);refine aV E<|a1 (y:=IntKind.u64.wrap v) 2 U U (rfl)<|a1 (y:=IntKind.u64.wrap v/72057594037927936) 2 U U (fd aN U)<|a1 (y:=IntKind.u8.wrap (IntKind.u64.wrap v/72057594037927936)) 0 U U (rfl)<|a1 (y:=IntKind.u64.wrap v/281474976710656) 1 U U (fd aN U)<|a1 (y:=IntKind.u8.wrap (IntKind.u64.wrap v/281474976710656)) 0 U U (rfl)<|a1 (y:=IntKind.u64.wrap v/1099511627776) 1 U U (fd aN U)<|a1 (y:=IntKind.u8.wrap (IntKind.u64.wrap v/1099511627776)) 0 U U (rfl)<|a1 (y:=IntKind.u64.wrap v/4294967296) 1 U U (fd aN U)<|a1 (y:=IntKind.u8.wrap (IntKind.u64.wrap v/4294967296)) 0 U U (rfl)<|a1 (y:=IntKind.u64.wrap v/16777216) 1 U U (fd aN U)<|a1 (y:=IntKind.u8.wrap (IntKind.u64.wrap v/16777216)) 0 U U (rfl)<|a1 (y:=IntKind.u64.wrap v/65536) 1 U U (fd aN U)<|a1 (y:=IntKind.u8.wrap (IntKind.u64.wrap v/65536)) 0 U U (rfl)<|a1 (y:=IntKind.u64.wrap v/256) 1 U U (fd aN U)<|a1 (y:=IntKind.u8.wrap (IntKind.u64.wrap v/256)) 0 U U (rfl)<|a1 (y:=IntKind.u8.wrap (IntKind.u64.wrap v)) 1 U U (rfl)<|cv 0 U fun fr E=>?_;refine dM (sz:=1) (xs:=ao (aO v)) E M U U U U U (ev (us:=[_,_,_,_,_,_,_,_]) (vs:=[_,_,_,_,_,_,_,_]) U U U T.aG T.bf T.gO U U U U U) (rfl) (Nat.le_refl _) aN (P5 v) fun aZ fr w M E=>?_;refine cw E<|aU 1 U fun fr E=>?_;refine bi E U U ?_;exact⟨_,U,M.fin (ni (i:=0) U) trivial⟩
theorem zM{b m:Value}{l k:List UInt8}{w0:World}(ak:Bytes w0 b l)(hm:Bytes w0 m k)(au:l.length+k.length<=35184372088832):aY prog 134 [b,m] w0 [] (fun s:Value=>s) (fun s=>[.bytes 5 s (l++k)]) (fun _=>True):=by
 refine enter (n:=15) func134 U U U ?_;intro fr E;have M:=Mem.begin (Φ:=fun w'=>Bytes w' b l/\Bytes w' m k) (Has.nil w0) (fun w' h=>⟨ak.bU h,hm.bU h⟩);refine aV E<|ah 2 U (bx U U U U T.aG M.fact.1)<|ah 1 U (bx U U U U T.aG M.fact.2)<|a1 (y:=((l.length+k.length:Nat):Int)) 0 U U ((br ae ae).trans ae)<|cv 0 U fun fr E=>?_;refine CA (k:=0) (c:=l.length+k.length) E M U U U U U U U U (rfl) (rfl) T.aG T.eh T.rn T.ef (Nat.zero_le _) ae fun aZ fr w M E=>?_;refine cw E<|cv 1 U fun fr E=>?_;refine fX (i:=0) E M U U U U U U U U U U U T.aG T.aG T.eh T.ef M.fact.1 (by simp;omega) fun aZ fr w M E=>?_;refine cw E<|cv 1 U fun fr E=>?_;refine fX (i:=0) E M U U U U U U U U U U U T.aG T.aG T.eh T.ef M.fact.2 (by simp;omega) fun aZ fr w M E=>?_;refine cw E<|aU 1 U fun fr E=>?_;refine bi E U U ?_;exact⟨_,U,M.fin (ni (i:=0) U) trivial⟩
theorem np{b:Value}{l:List UInt8}{w0:World}(v:Int)(ak:Bytes w0 b l)(au:l.length+8<=35184372088832):aY prog 74 [b,aa v] w0 [] (fun s:Value=>s) (fun s=>[.bytes 5 s (l++aO v)]) (fun _=>True):=by
 refine enter (n:=9) func74 U U U ?_;intro fr E;have M:=Mem.begin (Φ:=fun w'=>Bytes w' b l) (Has.nil w0) (fun w' h=>ak.bU h);refine aV E<|cP M 3 U (ar U U T.Qw) (P6 v _) U fun s w _ M=>cP M 0 U (ar U U T.Aw) (zM M.fact (M.bytes 0 U) au) U fun r w _ M=>aU 1 U fun fr E=>?_;refine bi E U U ?_;exact⟨_,U,M.fin (ni (i:=0) U) trivial⟩
theorem wO{b:Value}{l s:List UInt8}{w0:World}(ak:Bytes w0 b l)(aP:s.length=32)(au:l.length+32<=35184372088832):aY prog 76 [b,.agg (ao s).toArray] w0 [] (fun s:Value=>s) (fun r=>[.bytes 5 r (l++s)]) (fun _=>True):=by
 refine enter (n:=8) func76 U U U ?_;intro fr E;have M:=Mem.begin (Φ:=fun w'=>Bytes w' b l) (Has.nil w0) (fun w' h=>ak.bU h);refine aV E<|bh (ob:=.cells ((ao s).toArray) 39) (fun g=>ai g 0) M 0 U (cS (cs:=((ao s).toArray)) U U) fun aZ w M=>ah 2 U (lQ (g:=_) (cs:= #[]) (T:=0) (fr:=(0,0)) U U T.iB T.bf)<|cP M 0 U (ar U U T.Aw) (zM M.fact (k:=s) (by have:=M;exact aP▸yB (M.row (i:=0) U) (by simp[aP]) (by rw[aP];decide)) ae) U fun r w _ M=>aU 1 U fun fr E=>?_;refine bi E U U ?_;exact⟨_,U,M.fin (ni (i:=0) U) trivial⟩
theorem Na{b:Value}{l s:List UInt8}{a:Int}{w0:World}(ak:Bytes w0 b l)(aP:s.length=32)(au:l.length+40<=35184372088832):aY prog 75 [b,.agg (aa a::ao s).toArray] w0 [] (fun s:Value=>s) (fun r=>[.bytes 5 r (l++aO a++s)]) (fun _=>True):=by
 refine enter (n:=12) func75 U U U ?_;intro fr E;have M:=Mem.begin (Φ:=fun w'=>Bytes w' b l) (Has.nil w0) (fun w' h=>ak.bU h);refine aV E<|bh (ob:=.cells ((aa a::ao s).toArray) 41) (fun g=>ai g 0) M 0 U (cS (cs:=((aa a::ao s).toArray)) U U) fun aZ w M=>bw 1 U fun fr E=>?_;refine(dR (B:=T.KM) (Vs:=(.af _:: .af (ai _ 0):: .af (aa _)::cV w.heap.size (fun v=>[.bytes 5 v (l++aO a)]) (fun _=>True):: .af (ai _ 1):: .af (.agg (ao s).toArray)::cV w.heap.size (fun v=>[.bytes 5 v (l++aO a++s)]) (fun _=>True)::cV w.heap.size (fun v=>[.bytes 5 v (l++aO a++s)]) (fun _=>True)::[])) T.Zn E T.mixed T.Zm U (fH.dF ⟨ay,ay,ay,cn.df,ay,ay,cn.df,cn.df,ay⟩) ⟨aw U U,
   aw U U,
   aC U U (fun x w ad ab=>aE U U T.bc ((M.aQ ad).row (i:=0) U) U),
   cE U U (fun x w ad ab=>⟨_,_,U,U,U,ar U U T.nB,(np a (M.aQ ad).fact ae).eN ad.size⟩),
   aw U U,
   aC U U (fun x w ad ab=>gb (vs:=(ao s).toArray) U U T.gJ ((M.aQ ad).row (i:=0) U) (by simp[aP]) (by simp[C8,aP])),
   cE U U (fun x w ad ab=>⟨_,_,U,U,U,ar U U T.xx,(wO (s:=s) ((ab 3 U).1.reads 0 U) aP (by simp[aO];omega)).eN ad.size⟩),
   jd U U (fun x w ad ab=>⟨_,_,U,U,U,run_assign U U,bd.refl _,ab 6 U⟩),ay⟩ ?_)
 intro x fr w ad ab E;have M:=M.jb ad (ab 7 aN).1 (ab 7 aN).2.1;refine cm E<|aU 0 U fun fr E=>?_;refine bi E U U ?_;exact⟨_,U,M.fin (ni (i:=0) U) trivial⟩
end
section
open Go.RowKit Go.a2 Go.Proofs Go.Proofs.Tryz
def eg(n:Nat)(s:List UInt8×Bool):List UInt8×Bool:=if s.2=true\/s.1.length<n then(s.1,true)else(s.1.drop n,false)
def db(s:List UInt8×Bool):Int:=if s.2=true\/s.1.length<8 then 0 else iG (s.1.take 8)
def eD(s:List UInt8×Bool):List UInt8:=if s.2=true\/s.1.length<32 then List.replicate 32 0 else s.1.take 32
def e8(s:List UInt8×Bool):Int×List UInt8:=if s.2=true\/s.1.length<40 then(0,List.replicate 32 0)else(iG ((s.1.take 40).take 8),(s.1.take 40).drop 8)
def ka(s:List UInt8×Bool):Int:=if s.2=true then 4 else if 0<s.1.length then 3 else 0
theorem gB(s:List UInt8×Bool):(eD s).length=32:=by unfold eD;split<;>simp<;>omega
theorem h9(s:List UInt8×Bool):(e8 s).2.length=32:=by unfold e8;split<;>simp<;>omega
abbrev cr(g:Nat)(aq:Value)(l:List UInt8)(bad:Bool):List az:=[.bb g (.cells #[aq,.bool bad] 216 (0,0)),.sub aq l]
theorem HV{b:Value}{l:List UInt8}{w0:World}(ak:Bytes w0 b l)(au:l.length<=35184372088832):bH prog 174 [b] w0 (aa (iG l)):=by
 refine enter (n:=20) func174 U U U ?_;intro fr E;have M:=Mem.begin (Φ:=fun w'=>Bytes w' b l) (Has.nil w0) (fun w' h=>ak.bU h);refine aV E<|ah 3 U (bx U U U U T.aG M.fact)<|bw 1 U fun fr E=>?_;refine cI (fun d fr w=>∃i:Nat,d=l.length-i/\i<=l.length/\Env [(8,aa i),(7,aa l.length),(6,b),(3,ab0 (ou (l.take i)))] 20 fr/\Mem w0 (aS []) [] (fun w'=>Bytes w' b l) w) (l.length) ?_ ?_
 ·refine⟨0,U,Nat.zero_le _,E.lL [3,6,7,8] rfl,M⟩
 ·clear E M;rintro d fr w ⟨i,rfl,hle,E,M⟩;by_cases hi:i<l.length
  ·refine bA E<|ei 0 U U (by simp<;>omega)<|ah 1 U (bL (i:=i) U M.fact U U (rfl) (hi) T.aG T.bf)<|ah 0 U (b2 U M.fact U T.cq (by rw[Nat.mul_one];exact gx hi))<|ah (v:=ab0 _) 2 U U<|ah (v:=ab0 _) 1 U U<|a1 (y:=ou (l.take (i+1))) 0 U U ((UP _ _ (l[i]).toNat_lt).trans (congrArg _ (F4 hi).symm))<|a1 (y:=((i+1:Nat):Int)) 1 U U ((br ae ae).trans ae)<|ct 1 U fun fr E=>?_;refine⟨l.length-(i+1),by omega,i+1,U,by omega,E.lL [3,6,7,8] rfl,M⟩
  ·obtain rfl:i=l.length:=by omega
   rw[List.take_length]at E;refine bA E<|ch 0 U U (by simp<;>omega)<|a1 (y:=iG l) 2 U U (rfl)<|aU 1 U fun fr E=>?_;refine bi E U U ?_;exact bX M
theorem E4{b:Value}{l:List UInt8}{w0:World}(ak:Bytes w0 b l)(aI:l.length=32):bH prog 176 [b] w0 (.agg (ao l).toArray):=by
 refine enter (n:=6) func176 U U U ?_;intro fr E;have M:=Mem.begin (Φ:=fun w'=>Bytes w' b l) (Has.nil w0) (fun w' h=>ak.bU h);refine aV E<|bh (ob:=.cells _ 39) (fun g=>ai g 0) M 0 U (bT U T.gH) fun aZ w M=>ah 1 U (tQ U M.fact U T.iB ae aN)<|ah (v:=.agg (ao l).toArray) 0 U (hU U M.fact U T.gJ ae ae (by rw[List.drop_zero];exact C8 (by simp[aI])))<|bj (i:=0) (cs':=(ao l).toArray) M 0 U U (cB (vs:=(ao l).toArray) U U U T.fF (by simp[aI]) (M.row (i:=0) U) (rfl) (by simpa using c0 l)) U fun w M=>aU 0 U fun fr E=>?_;refine gC E U U T.gJ (M.row (i:=0) U) (by simp[aI]) ?_;exact bX M
theorem VS{b:Value}{l:List UInt8}{w0:World}(ak:Bytes w0 b l)(aI:l.length=40):bH prog 178 [b] w0 (.agg (aa (iG (l.take 8))::ao (l.drop 8)).toArray):=by
 refine enter (n:=10) func178 U U U ?_;intro fr E;have M:=Mem.begin (Φ:=fun w'=>Bytes w' b l) (Has.nil w0) (fun w' h=>ak.bU h);refine aV E<|bh (ob:=.cells _ 41) (fun g=>ai g 0) M 0 U (bT U T.oY) fun aZ w M=>bw 0 U fun fr E=>?_;refine(ii (B:=T.JL) (Vs:=(.af _:: .af (e2 1 b 0 8):: .af (aa _):: .af _:: .af (e2 1 b 8 l.length):: .af (.agg (ao (l.drop 8)).toArray):: .af (.agg (Value.int .i64 (iG (l.take 8))::ao (l.drop 8)).toArray)::[])) T.XZ 7 E T.mixed T.XY U U U (ej.e6 U) ⟨aw U U,
   aC U U (fun x w ad ab=>ew (lo:=0) (hi:=8) U (M.aQ ad).fact U T.aG T.bf (rfl) (⟨_,_,U,U⟩) ae ae),
   cE U U (fun x w ad ab=>⟨_,_,U,U,U,ar U U T.FE,(HV (b:=e2 1 b 0 8) (l:=l.take 8) (Bytes.pre (M.aQ ad).fact ae) (by simp;omega)).ext⟩),
   aw U U,
   aC U U (fun x w ad ab=>ew (lo:=8) (hi:=l.length) U (M.aQ ad).fact U T.aG T.bf (⟨_,_,U,U⟩) (rfl) ae (Nat.le_refl _)),
   cE U U (fun x w ad ab=>⟨_,_,U,U,U,ar U U T.FF,(E4 (b:=e2 1 b 8 l.length) (l:=l.drop 8) (Bytes.oT (M.aQ ad).fact ae) (by simp[aI])).ext⟩),
   aC U U (fun x w ad ab=>dl (vs:=[aa (iG (l.take 8)),.agg (ao (l.drop 8)).toArray]) (us:=Value.int .i64 (iG (l.take 8))::ao (l.drop 8)) U U T.nj T.nm (by simp[Value.cells,aI]) U U (by simp[Value.cells])),ay⟩ ?_)
 intro x fr w ad ab E;have M:=M.ext ad;refine iq (i:=0) (cs':=(Value.int .i64 (iG (l.take 8))::ao (l.drop 8)).toArray) E M rfl rfl rfl rfl rfl rfl (cB (vs:=(Value.int .i64 (iG (l.take 8))::ao (l.drop 8)).toArray) rfl rfl rfl T.nV (by simp[aI]) (M.row (i:=0) rfl) (rfl) (by intro v aD;simp only[List.mem_cons]at aD;rcases aD with rfl|aD;rfl;exact c0 _ v aD)) rfl fun fr w M E=>?_;refine cm E<|aU 0 U fun fr E=>?_;refine gC E U U T.jL (M.row (i:=0) U) (by simp[aI]) ?_;exact bX M
theorem ZE{g:Nat}{aq:Value}{l:List UInt8}{bad:Bool}{w0:World}(H:Has w0 (cr g aq l bad))(au:l.length<=35184372088832)(kN:bad=true):aY prog 173 [ai g 0,aa 8,.func (.func 174) #[] #[]] w0 (cr g aq l bad) (fun _:Value=>aa 0) (fun x=>cr g x l true) (fun _=>True):=by
 refine enter (n:=44) func173 U U U ?_;intro fr E;obtain⟨kZ,k0,rfl⟩:=Reads.slice (H.gi _ (List.mem_cons_of_mem _ (List.mem_singleton.2 rfl)):Reads 1 w0 aq _ _);have M:=ht H;subst kN;refine aV E<|ah (v:=.bool _) 4 U (aE U U T.fZ (M.row (i:=0) U) U)<|ei 8 U U (rfl)<|bj (i:=0) (cs':= #[_,_]) M 4 U U (cy (v:=_) U U U T.kf (M.row (i:=0) U) (rfl) (rfl) (rfl)) U fun w M=>aU 3 U fun fr E=>?_;refine bi E U U ?_;exact⟨_,U,M.fin (List.Sublist.refl _) trivial⟩
theorem ZG{g:Nat}{aq:Value}{l:List UInt8}{bad:Bool}{w0:World}(H:Has w0 (cr g aq l bad))(au:l.length<=35184372088832)(kN:bad=false)(a6:l.length<8):aY prog 173 [ai g 0,aa 8,.func (.func 174) #[] #[]] w0 (cr g aq l bad) (fun _:Value=>aa 0) (fun x=>cr g x l true) (fun _=>True):=by
 refine enter (n:=44) func173 U U U ?_;intro fr E;obtain⟨kZ,k0,rfl⟩:=Reads.slice (H.gi _ (List.mem_cons_of_mem _ (List.mem_singleton.2 rfl)):Reads 1 w0 aq _ _);have M:=ht H;subst kN;refine aV E<|ah (v:=.bool _) 4 U (aE U U T.fZ (M.row (i:=0) U) U)<|ah 4 U (aE U U T.ec (M.row (i:=0) U) U)<|ah 0 U (bx U U U U T.aG (M.gv 1 U))<|ei 1 U U (by simp<;>omega)<|ei 0 U U (rfl)<|bj (i:=0) (cs':= #[_,_]) M 4 U U (cy (v:=_) U U U T.kf (M.row (i:=0) U) (rfl) (rfl) (rfl)) U fun w M=>aU 3 U fun fr E=>?_;refine bi E U U ?_;exact⟨_,U,M.fin (List.Sublist.refl _) trivial⟩
theorem ZF{g:Nat}{aq:Value}{l:List UInt8}{bad:Bool}{w0:World}(H:Has w0 (cr g aq l bad))(au:l.length<=35184372088832)(kN:bad=false)(a6:8<=l.length):aY prog 173 [ai g 0,aa 8,.func (.func 174) #[] #[]] w0 (cr g aq l bad) (fun _:Value=>Value.int .i64 (iG (l.take 8))) (fun x=>cr g x (l.drop 8) false) (fun _=>True):=by
 refine enter (n:=44) func173 U U U ?_;intro fr E;obtain⟨kZ,k0,rfl⟩:=Reads.slice (H.gi _ (List.mem_cons_of_mem _ (List.mem_singleton.2 rfl)):Reads 1 w0 aq _ _);have M:=ht H;subst kN;refine aV E<|ah (v:=.bool _) 4 U (aE U U T.fZ (M.row (i:=0) U) U)<|ah 4 U (aE U U T.ec (M.row (i:=0) U) U)<|ah 0 U (bx U U U U T.aG (M.gv 1 U))<|ch 1 U U (by simp<;>omega)<|ch 0 U U (rfl)<|ah 4 U (aE U U T.ec (M.row (i:=0) U) U)<|ah 1 U (ew (lo:=0) (hi:=8) U (M.gv 1 U) U T.aG T.bf (rfl) (⟨_,_,U,U⟩) ae (a6))<|ah 5 U (aE U U T.ec (M.row (i:=0) U) U)<|ah 1 U (ew (lo:=8) (hi:=l.length) U (M.gv 1 U) U T.aG T.bf (⟨_,_,U,U⟩) (rfl) (a6) (Nat.le_refl _))<|bj (i:=0) (cs':= #[_,_]) M 2 U U (cy (v:=_) U U U T.gM (M.row (i:=0) U) (rfl) (rfl) (rfl)) U fun w M=>bo M 2 U (vX U U T.FE) (HV (l:=l.take 8) (Bytes.pre (M.gv 1 U) a6) (by simp<;>omega)) fun w M=>aU 1 U fun fr E=>?_;refine bi E U U ?_;have M:=M.rest 1 8 rfl a6;exact⟨_,U,M.fin (List.Sublist.refl _) trivial⟩
theorem Zy{g:Nat}{aq:Value}{l:List UInt8}{bad:Bool}{w0:World}(H:Has w0 (cr g aq l bad))(au:l.length<=35184372088832)(kN:bad=true):aY prog 175 [ai g 0,aa 32,.func (.func 176) #[] #[]] w0 (cr g aq l bad) (fun _:Value=>.agg (ao (List.replicate 32 0)).toArray) (fun x=>cr g x l true) (fun _=>True):=by
 refine enter (n:=44) func175 U U U ?_;intro fr E;obtain⟨kZ,k0,rfl⟩:=Reads.slice (H.gi _ (List.mem_cons_of_mem _ (List.mem_singleton.2 rfl)):Reads 1 w0 aq _ _);have M:=ht H;subst kN;refine aV E<|bh (ob:=.cells _ 39) (fun g=>ai g 0) M 0 U (bT U T.gH) fun aZ w M=>ah (v:=.bool _) 3 U (aE U U T.fZ (M.row (i:=1) U) U)<|ei 8 U U (rfl)<|bj (i:=1) (cs':= #[_,_]) M 4 U U (cy (v:=_) U U U T.kf (M.row (i:=1) U) (rfl) (rfl) (rfl)) U fun w M=>bh (ob:=.cells _ 39) (fun g=>ai g 0) M 0 U (bT U T.gH) fun bQ w M=>ah (v:=.agg _) 0 U (cW U U T.gJ (M.row (i:=0) U) U)<|bj (i:=1) (cs':=_) M 0 U U (dr (vs:=_) U U U T.fF U (M.row (i:=1) U) U U U) U fun w M=>aU 0 U fun fr E=>?_;refine gC E U U T.gJ (M.row (i:=1) U) (rfl) ?_;exact⟨_,U,M.fin (.cons _ (.cons _ (.refl _))) trivial⟩
theorem ZA{g:Nat}{aq:Value}{l:List UInt8}{bad:Bool}{w0:World}(H:Has w0 (cr g aq l bad))(au:l.length<=35184372088832)(kN:bad=false)(a6:l.length<32):aY prog 175 [ai g 0,aa 32,.func (.func 176) #[] #[]] w0 (cr g aq l bad) (fun _:Value=>.agg (ao (List.replicate 32 0)).toArray) (fun x=>cr g x l true) (fun _=>True):=by
 refine enter (n:=44) func175 U U U ?_;intro fr E;obtain⟨kZ,k0,rfl⟩:=Reads.slice (H.gi _ (List.mem_cons_of_mem _ (List.mem_singleton.2 rfl)):Reads 1 w0 aq _ _);have M:=ht H;subst kN;refine aV E<|bh (ob:=.cells _ 39) (fun g=>ai g 0) M 0 U (bT U T.gH) fun aZ w M=>ah (v:=.bool _) 3 U (aE U U T.fZ (M.row (i:=1) U) U)<|ah 4 U (aE U U T.ec (M.row (i:=1) U) U)<|ah 0 U (bx U U U U T.aG (M.gv 2 U))<|ei 1 U U (by simp<;>omega)<|ei 0 U U (rfl)<|bj (i:=1) (cs':= #[_,_]) M 4 U U (cy (v:=_) U U U T.kf (M.row (i:=1) U) (rfl) (rfl) (rfl)) U fun w M=>bh (ob:=.cells _ 39) (fun g=>ai g 0) M 0 U (bT U T.gH) fun bQ w M=>ah (v:=.agg _) 0 U (cW U U T.gJ (M.row (i:=0) U) U)<|bj (i:=1) (cs':=_) M 0 U U (dr (vs:=_) U U U T.fF U (M.row (i:=1) U) U U U) U fun w M=>aU 0 U fun fr E=>?_;refine gC E U U T.gJ (M.row (i:=1) U) (rfl) ?_;exact⟨_,U,M.fin (.cons _ (.cons _ (.refl _))) trivial⟩
theorem Zz{g:Nat}{aq:Value}{l:List UInt8}{bad:Bool}{w0:World}(H:Has w0 (cr g aq l bad))(au:l.length<=35184372088832)(kN:bad=false)(a6:32<=l.length):aY prog 175 [ai g 0,aa 32,.func (.func 176) #[] #[]] w0 (cr g aq l bad) (fun _:Value=>Value.agg (ao (l.take 32)).toArray) (fun x=>cr g x (l.drop 32) false) (fun _=>True):=by
 refine enter (n:=44) func175 U U U ?_;intro fr E;obtain⟨kZ,k0,rfl⟩:=Reads.slice (H.gi _ (List.mem_cons_of_mem _ (List.mem_singleton.2 rfl)):Reads 1 w0 aq _ _);have M:=ht H;subst kN;refine aV E<|bh (ob:=.cells _ 39) (fun g=>ai g 0) M 0 U (bT U T.gH) fun aZ w M=>ah (v:=.bool _) 3 U (aE U U T.fZ (M.row (i:=1) U) U)<|ah 4 U (aE U U T.ec (M.row (i:=1) U) U)<|ah 0 U (bx U U U U T.aG (M.gv 2 U))<|ch 1 U U (by simp<;>omega)<|ch 0 U U (rfl)<|ah 4 U (aE U U T.ec (M.row (i:=1) U) U)<|ah 1 U (ew (lo:=0) (hi:=32) U (M.gv 2 U) U T.aG T.bf (rfl) (⟨_,_,U,U⟩) ae (a6))<|ah 5 U (aE U U T.ec (M.row (i:=1) U) U)<|ah 1 U (ew (lo:=32) (hi:=l.length) U (M.gv 2 U) U T.aG T.bf (⟨_,_,U,U⟩) (rfl) (a6) (Nat.le_refl _))<|bj (i:=1) (cs':= #[_,_]) M 2 U U (cy (v:=_) U U U T.gM (M.row (i:=1) U) (rfl) (rfl) (rfl)) U fun w M=>bo M 2 U (vX U U T.FF) (E4 (l:=l.take 32) (Bytes.pre (M.gv 2 U) a6) (by simp<;>omega)) fun w M=>bj (i:=0) (cs':=(ao (l.take 32)).toArray) M 0 U U (cB (vs:=(ao (l.take 32)).toArray) U U U T.fF (by simp<;>omega) (M.row (i:=0) U) (rfl) (by simpa using c0 _)) U fun w M=>aU 0 U fun fr E=>?_;refine gC E U U T.gJ (M.row (i:=0) U) (by simp<;>omega) ?_;have M:=M.rest 2 32 rfl a6;exact⟨_,U,M.fin (.cons _ (.refl _)) trivial⟩
theorem ZI{g:Nat}{aq:Value}{l:List UInt8}{bad:Bool}{w0:World}(H:Has w0 (cr g aq l bad))(au:l.length<=35184372088832)(kN:bad=true):aY prog 177 [ai g 0,aa 40,.func (.func 178) #[] #[]] w0 (cr g aq l bad) (fun _:Value=>.agg (Value.int .i64 0::ao (List.replicate 32 0)).toArray) (fun x=>cr g x l true) (fun _=>True):=by
 refine enter (n:=44) func177 U U U ?_;intro fr E;obtain⟨kZ,k0,rfl⟩:=Reads.slice (H.gi _ (List.mem_cons_of_mem _ (List.mem_singleton.2 rfl)):Reads 1 w0 aq _ _);have M:=ht H;subst kN;refine aV E<|bh (ob:=.cells _ 41) (fun g=>ai g 0) M 0 U (bT U T.oY) fun aZ w M=>ah (v:=.bool _) 3 U (aE U U T.fZ (M.row (i:=1) U) U)<|ei 8 U U (rfl)<|bj (i:=1) (cs':= #[_,_]) M 4 U U (cy (v:=_) U U U T.kf (M.row (i:=1) U) (rfl) (rfl) (rfl)) U fun w M=>bh (ob:=.cells _ 41) (fun g=>ai g 0) M 0 U (bT U T.oY) fun bQ w M=>ah (v:=.agg _) 0 U (cW U U T.jL (M.row (i:=0) U) U)<|bj (i:=1) (cs':=_) M 0 U U (dr (vs:=_) U U U T.nV U (M.row (i:=1) U) U U U) U fun w M=>aU 0 U fun fr E=>?_;refine gC E U U T.jL (M.row (i:=1) U) (rfl) ?_;exact⟨_,U,M.fin (.cons _ (.cons _ (.refl _))) trivial⟩
theorem ZK{g:Nat}{aq:Value}{l:List UInt8}{bad:Bool}{w0:World}(H:Has w0 (cr g aq l bad))(au:l.length<=35184372088832)(kN:bad=false)(a6:l.length<40):aY prog 177 [ai g 0,aa 40,.func (.func 178) #[] #[]] w0 (cr g aq l bad) (fun _:Value=>.agg (Value.int .i64 0::ao (List.replicate 32 0)).toArray) (fun x=>cr g x l true) (fun _=>True):=by
 refine enter (n:=44) func177 U U U ?_;intro fr E;obtain⟨kZ,k0,rfl⟩:=Reads.slice (H.gi _ (List.mem_cons_of_mem _ (List.mem_singleton.2 rfl)):Reads 1 w0 aq _ _);have M:=ht H;subst kN;refine aV E<|bh (ob:=.cells _ 41) (fun g=>ai g 0) M 0 U (bT U T.oY) fun aZ w M=>ah (v:=.bool _) 3 U (aE U U T.fZ (M.row (i:=1) U) U)<|ah 4 U (aE U U T.ec (M.row (i:=1) U) U)<|ah 0 U (bx U U U U T.aG (M.gv 2 U))<|ei 1 U U (by simp<;>omega)<|ei 0 U U (rfl)<|bj (i:=1) (cs':= #[_,_]) M 4 U U (cy (v:=_) U U U T.kf (M.row (i:=1) U) (rfl) (rfl) (rfl)) U fun w M=>bh (ob:=.cells _ 41) (fun g=>ai g 0) M 0 U (bT U T.oY) fun bQ w M=>ah (v:=.agg _) 0 U (cW U U T.jL (M.row (i:=0) U) U)<|bj (i:=1) (cs':=_) M 0 U U (dr (vs:=_) U U U T.nV U (M.row (i:=1) U) U U U) U fun w M=>aU 0 U fun fr E=>?_;refine gC E U U T.jL (M.row (i:=1) U) (rfl) ?_;exact⟨_,U,M.fin (.cons _ (.cons _ (.refl _))) trivial⟩
theorem ZJ{g:Nat}{aq:Value}{l:List UInt8}{bad:Bool}{w0:World}(H:Has w0 (cr g aq l bad))(au:l.length<=35184372088832)(kN:bad=false)(a6:40<=l.length):aY prog 177 [ai g 0,aa 40,.func (.func 178) #[] #[]] w0 (cr g aq l bad) (fun _:Value=>Value.agg (Value.int .i64 (iG ((l.take 40).take 8))::ao ((l.take 40).drop 8)).toArray) (fun x=>cr g x (l.drop 40) false) (fun _=>True):=by
 refine enter (n:=44) func177 U U U ?_;intro fr E;obtain⟨kZ,k0,rfl⟩:=Reads.slice (H.gi _ (List.mem_cons_of_mem _ (List.mem_singleton.2 rfl)):Reads 1 w0 aq _ _);have M:=ht H;subst kN;refine aV E<|bh (ob:=.cells _ 41) (fun g=>ai g 0) M 0 rfl (bT rfl T.oY) fun aZ w M=>ah (v:=.bool _) 3 rfl (aE rfl rfl T.fZ (M.row (i:=1) rfl) rfl)<|ah 4 rfl (aE rfl rfl T.ec (M.row (i:=1) rfl) rfl)<|ah 0 rfl (bx rfl rfl rfl rfl T.aG (M.gv 2 rfl))<|ch 1 rfl rfl (by simp<;>omega)<|ch 0 rfl rfl (rfl)<|ah 4 rfl (aE rfl rfl T.ec (M.row (i:=1) rfl) rfl)<|ah 1 rfl (ew (lo:=0) (hi:=40) rfl (M.gv 2 rfl) rfl T.aG T.bf (rfl) (⟨_,_,rfl,rfl⟩) ae (a6))<|ah 5 rfl (aE rfl rfl T.ec (M.row (i:=1) rfl) rfl)<|ah 1 rfl (ew (lo:=40) (hi:=l.length) rfl (M.gv 2 rfl) rfl T.aG T.bf (⟨_,_,rfl,rfl⟩) (rfl) (a6) (Nat.le_refl _))<|bj (i:=1) (cs':= #[_,_]) M 2 rfl rfl (cy (v:=_) rfl rfl rfl T.gM (M.row (i:=1) rfl) (rfl) (rfl) (rfl)) rfl fun w M=>bo M 2 rfl (vX rfl rfl T.QH) (VS (l:=l.take 40) (Bytes.pre (M.gv 2 rfl) a6) (by simp<;>omega)) fun w M=>bj (i:=0) (cs':=(Value.int .i64 (iG ((l.take 40).take 8))::ao ((l.take 40).drop 8)).toArray) M 0 rfl rfl (cB (vs:=(Value.int .i64 (iG ((l.take 40).take 8))::ao ((l.take 40).drop 8)).toArray) rfl rfl rfl T.nV (by simp<;>omega) (M.row (i:=0) rfl) (rfl) (by intro v aD;simp only[List.mem_cons]at aD;rcases aD with rfl|aD;rfl;exact c0 _ v aD)) rfl fun w M=>aU 0 rfl fun fr E=>?_;refine gC E U U T.jL (M.row (i:=0) U) (by simp<;>omega) ?_;have M:=M.rest 2 40 rfl a6;exact⟨_,U,M.fin (.cons _ (.refl _)) trivial⟩
theorem ZD{g:Nat}{aq:Value}{l:List UInt8}{bad:Bool}{w0:World}(H:Has w0 (cr g aq l bad))(au:l.length<=35184372088832):aY prog 173 [ai g 0,aa 8,.func (.func 174) #[] #[]] w0 (cr g aq l bad) (fun _:Value=>Value.int .i64 (db (l,bad))) (fun x=>cr g x (eg 8 (l,bad)).1 (eg 8 (l,bad)).2) (fun _=>True):=by
 cases bad with
 |true=>simp only[eg,db,eD,e8,eq_self,true_or,if_true];exact ZE H au rfl
 |false=>
  by_cases a6:l.length<8
  ·simp only[eg,db,eD,e8,a6,or_true,if_true];exact ZG H au rfl a6
  ·have aJ:¬(false=true\/l.length<8):=by simp;omega
   simp only[eg,db,eD,e8,aJ,if_false];exact ZF H au rfl ae
theorem Zx{g:Nat}{aq:Value}{l:List UInt8}{bad:Bool}{w0:World}(H:Has w0 (cr g aq l bad))(au:l.length<=35184372088832):aY prog 175 [ai g 0,aa 32,.func (.func 176) #[] #[]] w0 (cr g aq l bad) (fun _:Value=>Value.agg (ao (eD (l,bad))).toArray) (fun x=>cr g x (eg 32 (l,bad)).1 (eg 32 (l,bad)).2) (fun _=>True):=by
 cases bad with
 |true=>simp only[eg,db,eD,e8,eq_self,true_or,if_true];exact Zy H au rfl
 |false=>
  by_cases a6:l.length<32
  ·simp only[eg,db,eD,e8,a6,or_true,if_true];exact ZA H au rfl a6
  ·have aJ:¬(false=true\/l.length<32):=by simp;omega
   simp only[eg,db,eD,e8,aJ,if_false];exact Zz H au rfl ae
theorem ZH{g:Nat}{aq:Value}{l:List UInt8}{bad:Bool}{w0:World}(H:Has w0 (cr g aq l bad))(au:l.length<=35184372088832):aY prog 177 [ai g 0,aa 40,.func (.func 178) #[] #[]] w0 (cr g aq l bad) (fun _:Value=>Value.agg (Value.int .i64 (e8 (l,bad)).1::ao (e8 (l,bad)).2).toArray) (fun x=>cr g x (eg 40 (l,bad)).1 (eg 40 (l,bad)).2) (fun _=>True):=by
 cases bad with
 |true=>simp only[eg,db,eD,e8,eq_self,true_or,if_true];exact ZI H au rfl
 |false=>
  by_cases a6:l.length<40
  ·simp only[eg,db,eD,e8,a6,or_true,if_true];exact ZK H au rfl a6
  ·have aJ:¬(false=true\/l.length<40):=by simp;omega
   simp only[eg,db,eD,e8,aJ,if_false];exact ZJ H au rfl ae
theorem gY{g:Nat}{aq:Value}{l:List UInt8}{bad:Bool}{w0:World}(H:Has w0 (cr g aq l bad))(au:l.length<=35184372088832):aY prog 126 [ai g 0] w0 (cr g aq l bad) (fun _:Value=>Value.int .i64 (db (l,bad))) (fun x=>cr g x (eg 8 (l,bad)).1 (eg 8 (l,bad)).2) (fun _=>True):=by
 refine enter (n:=5) func126 U U U ?_;intro fr E;have M:=ht H;refine aV E<|bC (cr g aq l bad) M 2 U (ar U U T.QE) U (fun H=>ZD H au) fun jF w _ M=>aU 1 U fun fr E=>?_;refine bi E U U ?_;exact⟨_,U,M.fin (List.Sublist.refl _) trivial⟩
theorem o1{g:Nat}{aq:Value}{l:List UInt8}{bad:Bool}{w0:World}(H:Has w0 (cr g aq l bad))(au:l.length<=35184372088832):aY prog 127 [ai g 0] w0 (cr g aq l bad) (fun _:Value=>Value.agg (ao (eD (l,bad))).toArray) (fun x=>cr g x (eg 32 (l,bad)).1 (eg 32 (l,bad)).2) (fun _=>True):=by
 refine enter (n:=5) func127 U U U ?_;intro fr E;have M:=ht H;refine aV E<|bh (ob:=.cells _ 39) (fun g=>ai g 0) M 0 U (bT U T.gH) fun aZ w M=>fun fr E=>?_;have M:=M.aH 2 rfl;have M:=M.aH 2 rfl;refine bN E<|bC (cr g aq l bad) M 1 U (ar U U T.QF) U (fun H=>Zx H au) fun jF w _ M=>bj (i:=2) (cs':=(ao (eD (l,bad))).toArray) M 0 U U (cB (vs:=(ao (eD (l,bad))).toArray) U U U T.fF (by simp[gB,h9]) (M.row (i:=2) U) (rfl) (by simpa using c0 _)) U fun w M=>aU 0 U fun fr E=>?_;refine gC E U U T.gJ (M.row (i:=2) U) (by simp[gB,h9]) ?_;exact⟨_,U,M.fin (by first|exact List.Sublist.refl _|exact .cons _ (.refl _)|exact .cons_cons _ (.cons_cons _ (.cons _ .slnil))) trivial⟩
theorem zy{g:Nat}{aq:Value}{l:List UInt8}{bad:Bool}{w0:World}(H:Has w0 (cr g aq l bad))(au:l.length<=35184372088832):aY prog 128 [ai g 0] w0 (cr g aq l bad) (fun _:Value=>Value.agg (Value.int .i64 (e8 (l,bad)).1::ao (e8 (l,bad)).2).toArray) (fun x=>cr g x (eg 40 (l,bad)).1 (eg 40 (l,bad)).2) (fun _=>True):=by
 refine enter (n:=5) func128 U U U ?_;intro fr E;have M:=ht H;refine aV E<|bh (ob:=.cells _ 41) (fun g=>ai g 0) M 0 U (bT U T.oY) fun aZ w M=>fun fr E=>?_;have M:=M.aH 2 rfl;have M:=M.aH 2 rfl;refine bN E<|bC (cr g aq l bad) M 1 rfl (ar rfl rfl T.QG) rfl (fun H=>ZH H au) fun jF w _ M=>bj (i:=2) (cs':=(Value.int .i64 (e8 (l,bad)).1::ao (e8 (l,bad)).2).toArray) M 0 rfl rfl (cB (vs:=(Value.int .i64 (e8 (l,bad)).1::ao (e8 (l,bad)).2).toArray) rfl rfl rfl T.nV (by simp[gB,h9]) (M.row (i:=2) rfl) (rfl) (by intro v aD;simp only[List.mem_cons]at aD;rcases aD with rfl|aD;rfl;exact c0 _ v aD)) rfl fun w M=>aU 0 rfl fun fr E=>?_;refine gC E U U T.jL (M.row (i:=2) U) (by simp[gB,h9]) ?_;exact⟨_,U,M.fin (by first|exact List.Sublist.refl _|exact .cons _ (.refl _)|exact .cons_cons _ (.cons_cons _ (.cons _ .slnil))) trivial⟩
theorem L8{g:Nat}{aq:Value}{l:List UInt8}{bad:Bool}{w0:World}(H:Has w0 (cr g aq l bad))(au:l.length<=35184372088832)(ak:bad=true):aY prog 129 [ai g 0] w0 (cr g aq l bad) (fun _:Unit=>aa 4) (fun _=>cr g aq l bad) (fun _=>True):=by
 refine enter (n:=15) func129 U U U ?_;intro fr E;have M:=ht H;subst ak;refine aV E<|ah (v:=.bool _) 4 U (aE U U T.fZ (M.row (i:=0) U) U)<|aU 3 U fun fr E=>?_;refine bi E U U ?_;exact⟨(),U,M.fin (List.Sublist.refl _) trivial⟩
theorem L9{g:Nat}{aq:Value}{l:List UInt8}{bad:Bool}{w0:World}(H:Has w0 (cr g aq l bad))(au:l.length<=35184372088832)(ak:bad=false)(aI:0<l.length):aY prog 129 [ai g 0] w0 (cr g aq l bad) (fun _:Unit=>aa 3) (fun _=>cr g aq l bad) (fun _=>True):=by
 refine enter (n:=15) func129 U U U ?_;intro fr E;have M:=ht H;subst ak;refine aV E<|ah (v:=.bool _) 4 U (aE U U T.fZ (M.row (i:=0) U) U)<|ah 5 U (aE U U T.ec (M.row (i:=0) U) U)<|ah 0 U (bx U U U U T.aG (M.gv 1 U))<|bD 0 U U ae<|aU 3 U fun fr E=>?_;refine bi E U U ?_;exact⟨(),U,M.fin (List.Sublist.refl _) trivial⟩
theorem Ma{g:Nat}{aq:Value}{l:List UInt8}{bad:Bool}{w0:World}(H:Has w0 (cr g aq l bad))(au:l.length<=35184372088832)(ak:bad=false)(aI:l.length=0):aY prog 129 [ai g 0] w0 (cr g aq l bad) (fun _:Unit=>aa 0) (fun _=>cr g aq l bad) (fun _=>True):=by
 refine enter (n:=15) func129 U U U ?_;intro fr E;have M:=ht H;subst ak;refine aV E<|ah (v:=.bool _) 4 U (aE U U T.fZ (M.row (i:=0) U) U)<|ah 5 U (aE U U T.ec (M.row (i:=0) U) U)<|ah 0 U (bx U U U U T.aG (M.gv 1 U))<|bs 0 U U ae<|aU 3 U fun fr E=>?_;refine bi E U U ?_;exact⟨(),U,M.fin (List.Sublist.refl _) trivial⟩
theorem zu{g:Nat}{aq:Value}{l:List UInt8}{bad:Bool}{w0:World}(H:Has w0 (cr g aq l bad))(au:l.length<=35184372088832):aY prog 129 [ai g 0] w0 (cr g aq l bad) (fun _:Unit=>aa (ka (l,bad))) (fun _=>cr g aq l bad) (fun _=>True):=by
 cases bad with
 |true=>exact L8 H au rfl
 |false=>
  by_cases aI:0<l.length
  ·simp only[ka,aI,if_true,Bool.false_eq_true,if_false];exact L9 H au rfl aI
  ·simp only[ka,aI,Bool.false_eq_true,if_false];exact Ma H au rfl ae
theorem o0{b:Value}{l:List UInt8}{w0:World}(ak:Bytes w0 b l)(au:l.length<=35184372088832):aY prog 125 [b] w0 [] (fun x:Nat×Value=>ai x.1 0) (fun x=>cr x.1 x.2 l false) (fun _=>True):=by
 refine enter (n:=7) func125 U U U ?_;intro fr E;have M:=Mem.begin (Φ:=fun w'=>Bytes w' b l) (Has.nil w0) (fun w' h=>ak.bU h);refine aV E<|cP M 2 U (ar U U T.Aw) (zM (k:=[]) M.fact (Bytes.nil _) (by simp;omega)) U fun s w _ M=>fun fr E=>?_;have M:=M.as (L':=[.bytes 5 s l]) (by simp);obtain⟨kw,wm,aP⟩:=Reads.slice (M.bytes 0 rfl);subst aP;refine bN E<|ah (v:=.agg ([Value.slice kw l.length wm,.bool false]).toArray) 0 U (dl (vs:=[.slice kw l.length wm]) (us:=[Value.slice kw l.length wm,.bool false]) U U T.ZW T.aaI (rfl) U U (rfl))<|bh (ob:=.cells (#[.slice kw l.length wm,.bool false]) 216) (fun g=>ai g 0) M 0 U (cS (cs:=(#[.slice kw l.length wm,.bool false])) U U) fun aZ w M=>aU 1 U fun fr E=>?_;refine bi E U U ?_;have M:=M.wW 1 rfl;exact⟨(_,_),U,M.fin (List.Sublist.refl _) trivial⟩
end
section
open Go.RowKit Go.a2 Go.Proofs Go.Proofs.Tryz
def idxOf(q:Int->Bool)(l:List Int):Int:=match l.findIdx? q with|some i=>i|none=> -1
theorem S8{q:Int->Bool}{l:List Int}(h:∀j,∀ax:j<l.length,q l[j]=false):idxOf q l= -1:=by
 have:l.findIdx? q=none:=by
  rw[List.findIdx?_eq_none_iff];intro x ad;obtain⟨j,ax,rfl⟩:=List.getElem_of_mem ad;exact h j ax
 simp[idxOf,this]
theorem S9{q:Int->Bool}{l:List Int}{i:Nat}(hi:i<l.length)(h:q l[i]=true)(eB:∀j,j<i->∀ax:j<l.length,q l[j]=false):idxOf q l=(i:Int):=by
 have:l.findIdx? q=some i:=by
  rw[List.findIdx?_eq_some_iff_getElem];exact⟨hi,h,fun j ax=>by simpa using eB j ax ae⟩
 simp[idxOf,this]
theorem S7{q:Int->Bool}{l:List Int}:decide (idxOf q l>=0)=l.any q:=by
 unfold idxOf;cases h:l.findIdx? q with
 |none=>
  rw[List.findIdx?_eq_none_iff]at h;have:l.any q=false:=by simpa using h
  simp[this]
 |some i=>
  rw[List.findIdx?_eq_some_iff_getElem]at h;obtain⟨aj,an,_⟩:=h;have:l.any q=true:=List.any_eq_true.2 ⟨_,List.getElem_mem aj,an⟩;rw[this];exact decide_eq_true (show(i:Int)>=0 by omega)
theorem aad{n lo hi:Int}{w0:World}(h:lo<=n):bH prog 131 [aa n,aa lo,aa hi] w0 (.bool (decide (n<=hi))):=by
 refine enter (n:=15) func131 U U U ?_;intro fr E;have M:=ht (Has.nil w0);refine aV E<|bD 3 U U h<|ah (v:=.bool _) 3 U U<|ah (v:=.bool _) 0 U U<|aU 1 U fun fr E=>?_;refine bi E U U ?_;exact bX M
theorem aae{n lo hi:Int}{w0:World}(h:¬lo<=n):bH prog 131 [aa n,aa lo,aa hi] w0 (.bool false):=by
 refine enter (n:=15) func131 U U U ?_;intro fr E;have M:=ht (Has.nil w0);refine aV E<|bs 3 U U h<|ah (v:=.bool _) 4 U U<|aU 1 U fun fr E=>?_;refine bi E U U ?_;exact bX M
theorem pY(n lo hi:Int)(w0:World):bH prog 131 [aa n,aa lo,aa hi] w0 (.bool (decide (lo<=n/\n<=hi))):=by
 by_cases h:lo<=n
 ·have e:decide (lo<=n/\n<=hi)=decide (n<=hi):=by simp[h]
  rw[e];exact aad h
 ·have e:decide (lo<=n/\n<=hi)=false:=by simp[h]
  rw[e];exact aae h
theorem Va{s q:Int}{w0:World}(h:0<=s/\s<=31):bH prog 133 [.agg #[aa s,aa q]] w0 (.bool (decide (0<=q/\q<=63))):=by
 refine enter (n:=11) func133 U U U ?_;intro fr E;have M:=ht (Has.nil w0);refine aV E<|bh (ob:=.cells #[_,_] 43) (fun g=>ai g 0) M 0 U (cS (cs:= #[_,_]) U U) fun aZ w M=>ah (v:=aa _) 2 U (aE U U T.bc (M.row (i:=0) U) U)<|bo M 0 U (ar U U T.pe) (pY _ _ _ _) fun w M=>fun fr E=>?_;rw[decide_eq_true h]at E;refine bN E<|ah (v:=aa _) 2 U (aE U U T.bc (M.row (i:=0) U) U)<|bo M 0 U (ar U U T.pe) (pY _ _ _ _) fun w M=>ah (v:=.bool _) 0 U U<|aU 1 U fun fr E=>?_;refine bi E U U ?_;exact bX M
theorem Vb{s q:Int}{w0:World}(h:¬(0<=s/\s<=31)):bH prog 133 [.agg #[aa s,aa q]] w0 (.bool false):=by
 refine enter (n:=11) func133 U U U ?_;intro fr E;have M:=ht (Has.nil w0);refine aV E<|bh (ob:=.cells #[_,_] 43) (fun g=>ai g 0) M 0 U (cS (cs:= #[_,_]) U U) fun aZ w M=>ah (v:=aa _) 2 U (aE U U T.bc (M.row (i:=0) U) U)<|bo M 0 U (ar U U T.pe) (pY _ _ _ _) fun w M=>fun fr E=>?_;rw[decide_eq_false h]at E;refine bN E<|ah (v:=.bool _) 4 U U<|aU 1 U fun fr E=>?_;refine bi E U U ?_;exact bX M
theorem tI(s q:Int)(w0:World):bH prog 133 [.agg #[aa s,aa q]] w0 (.bool (decide (gh s q))):=by
 by_cases h:0<=s/\s<=31
 ·have e:decide (gh s q)=decide (0<=q/\q<=63):=by simp[gh,h]
  rw[e];exact Va h
 ·have e:decide (gh s q)=false:=by simp[gh,h]
  rw[e];exact Vb h
theorem Uv{n:Int}{w0:World}(h:1<=n):bH prog 171 [aa n] w0 (.bool (decide (n<=1099511627776))):=by
 refine enter (n:=9) func171 U U U ?_;intro fr E;have M:=ht (Has.nil w0);refine aV E<|bD 2 U U h<|ah (v:=.bool _) 2 U U<|ah (v:=.bool _) 0 U U<|aU 1 U fun fr E=>?_;refine bi E U U ?_;exact bX M
theorem Uw{n:Int}{w0:World}(h:¬1<=n):bH prog 171 [aa n] w0 (.bool false):=by
 refine enter (n:=9) func171 U U U ?_;intro fr E;have M:=ht (Has.nil w0);refine aV E<|bs 2 U U h<|ah (v:=.bool _) 3 U U<|aU 1 U fun fr E=>?_;refine bi E U U ?_;exact bX M
theorem jC(n:Int)(w0:World):bH prog 171 [aa n] w0 (.bool (decide (1<=n/\n<=1099511627776))):=by
 by_cases h:1<=n
 ·have e:decide (1<=n/\n<=1099511627776)=decide (n<=1099511627776):=by simp[h]
  rw[e];exact Uv h
 ·have e:decide (1<=n/\n<=1099511627776)=false:=by simp[h]
  rw[e];exact Uw h
theorem U6{s q:Int}{w0:World}(aj:¬0<=s):bH prog 172 [.agg #[aa s,aa q]] w0 (.bool false):=by
 refine enter (n:=21) func172 U U U ?_;intro fr E;have M:=ht (Has.nil w0);refine aV E<|bh (ob:=.cells #[_,_] 43) (fun g=>ai g 0) M 0 U (cS (cs:= #[_,_]) U U) fun aZ w M=>ah (v:=aa _) 2 U (aE U U T.bc (M.row (i:=0) U) U)<|bs 0 U U aj<|ah (v:=.bool _) 4 U U<|ah (v:=.bool _) 4 U U<|ah (v:=.bool _) 4 U U<|aU 1 U fun fr E=>?_;refine bi E U U ?_;exact bX M
theorem U7{s q:Int}{w0:World}(aj:0<=s)(an:¬s<32):bH prog 172 [.agg #[aa s,aa q]] w0 (.bool false):=by
 refine enter (n:=21) func172 U U U ?_;intro fr E;have M:=ht (Has.nil w0);refine aV E<|bh (ob:=.cells #[_,_] 43) (fun g=>ai g 0) M 0 U (cS (cs:= #[_,_]) U U) fun aZ w M=>ah (v:=aa _) 2 U (aE U U T.bc (M.row (i:=0) U) U)<|bD 0 U U aj<|ah (v:=aa _) 2 U (aE U U T.bc (M.row (i:=0) U) U)<|bs 0 U U an<|ah (v:=.bool _) 0 U U<|ah (v:=.bool _) 4 U U<|ah (v:=.bool _) 4 U U<|aU 1 U fun fr E=>?_;refine bi E U U ?_;exact bX M
theorem U8{s q:Int}{w0:World}(aj:0<=s)(an:s<32)(aB:¬0<=q):bH prog 172 [.agg #[aa s,aa q]] w0 (.bool false):=by
 refine enter (n:=21) func172 U U U ?_;intro fr E;have M:=ht (Has.nil w0);refine aV E<|bh (ob:=.cells #[_,_] 43) (fun g=>ai g 0) M 0 U (cS (cs:= #[_,_]) U U) fun aZ w M=>ah (v:=aa _) 2 U (aE U U T.bc (M.row (i:=0) U) U)<|bD 0 U U aj<|ah (v:=aa _) 2 U (aE U U T.bc (M.row (i:=0) U) U)<|bD 0 U U an<|ah (v:=.bool _) 0 U U<|ah (v:=aa _) 2 U (aE U U T.bc (M.row (i:=0) U) U)<|bs 0 U U aB<|ah (v:=.bool _) 0 U U<|ah (v:=.bool _) 4 U U<|aU 1 U fun fr E=>?_;refine bi E U U ?_;exact bX M
theorem U9{s q:Int}{w0:World}(aj:0<=s)(an:s<32)(aB:0<=q):bH prog 172 [.agg #[aa s,aa q]] w0 (.bool (decide (q<64))):=by
 refine enter (n:=21) func172 U U U ?_;intro fr E;have M:=ht (Has.nil w0);refine aV E<|bh (ob:=.cells #[_,_] 43) (fun g=>ai g 0) M 0 U (cS (cs:= #[_,_]) U U) fun aZ w M=>ah (v:=aa _) 2 U (aE U U T.bc (M.row (i:=0) U) U)<|bD 0 U U aj<|ah (v:=aa _) 2 U (aE U U T.bc (M.row (i:=0) U) U)<|bD 0 U U an<|ah (v:=.bool _) 0 U U<|ah (v:=aa _) 2 U (aE U U T.bc (M.row (i:=0) U) U)<|bD 0 U U aB<|ah (v:=.bool _) 0 U U<|ah (v:=aa _) 2 U (aE U U T.bc (M.row (i:=0) U) U)<|ah (v:=.bool _) 0 U U<|ah (v:=.bool _) 0 U U<|aU 1 U fun fr E=>?_;refine bi E U U ?_;exact bX M
theorem pK(s q:Int)(w0:World):bH prog 172 [.agg #[aa s,aa q]] w0 (.bool (decide (gh s q))):=by
 by_cases aj:0<=s
 ·by_cases an:s<32
  ·by_cases aB:0<=q
   ·have e:decide (gh s q)=decide (q<64):=decide_eq_decide.2 (by simp only[gh];omega);rw[e];exact U9 aj an aB
   ·rw[decide_eq_false (by simp only[gh];omega)];exact U8 aj an aB
  ·rw[decide_eq_false (by simp only[gh];omega)];exact U7 aj an
 ·rw[decide_eq_false (by simp only[gh];omega)];exact U6 aj
theorem Nk{a b:Value}{l k:List UInt8}{w0:World}(bm:Bytes w0 a l)(ak:Bytes w0 b k)(a6:l.length≠k.length):bH prog 19 [a,b] w0 (.bool false):=by
 refine enter (n:=26) func19 U U U ?_;intro fr E;have M:=Mem.begin (Φ:=fun w'=>Bytes w' a l/\Bytes w' b k) (Has.nil w0) (fun w' h=>⟨bm.bU h,ak.bU h⟩);refine aV E<|ah 2 U (bx U U U U T.aG M.fact.1)<|ah 1 U (bx U U U U T.aG M.fact.2)<|ei 0 U U (by simp<;>omega)<|aU 2 U fun fr E=>?_;refine bi E U U ?_;exact bX M
theorem Nj{a b:Value}{l k:List UInt8}{w0:World}(bm:Bytes w0 a l)(ak:Bytes w0 b k)(aI:l.length=k.length)(au:l.length<=35184372088832):bH prog 19 [a,b] w0 (.bool (decide (l=k))):=by
 refine enter (n:=26) func19 U U U ?_;intro fr E;have M:=Mem.begin (Φ:=fun w'=>Bytes w' a l/\Bytes w' b k) (Has.nil w0) (fun w' h=>⟨bm.bU h,ak.bU h⟩);refine aV E<|ah 2 U (bx U U U U T.aG M.fact.1)<|ah 1 U (bx U U U U T.aG M.fact.2)<|ch 0 U U (by simp<;>omega)<|bw 2 U fun fr E=>?_;refine cI (fun d fr w=>∃i:Nat,d=l.length-i/\i<=l.length/\(∀j,j<i->l[j]? =k[j]?)/\Env [(5,aa i),(1,b),(0,a)] 26 fr/\Mem w0 (aS []) [] (fun w'=>Bytes w' a l/\Bytes w' b k) w) (l.length) ?_ ?_
 ·refine⟨0,U,Nat.zero_le _,fun j ax=>absurd ax ae,E.lL [0,1,5] rfl,M⟩
 ·clear E M;rintro d fr w ⟨i,rfl,hle,vg,E,M⟩;by_cases hi:i<l.length
  ·by_cases aJ:l[i]=k[i]'(aI▸hi)
   ·refine bA E<|ah 2 U (bx U U U U T.aG M.fact.1)<|bD 0 U U ae<|bw 1 U fun fr E=>?_;refine(dR (B:=T.CN) (Vs:=(.af _:: .af _:: .af (cellAt a (i*1)):: .af (ag ((l[i]).toNat:Int)):: .af _:: .af _:: .af (cellAt b (i*1)):: .af (ag ((k[i]'(aI▸hi)).toNat:Int)):: .af (.bool false)::[])) T.JT E T.mixed T.JS U (ej.e6 U) ⟨aw U U,
   aw U U,
   aC U U (fun x w ad ab=>bL (i:=i) U (M.aQ ad).fact.1 U U (rfl) (hi) T.aG T.bf),
   aC U U (fun x w ad ab=>b2 U (M.aQ ad).fact.1 U T.cq (by rw[Nat.mul_one];exact gx hi)),
   aw U U,
   aw U U,
   aC U U (fun x w ad ab=>bL (i:=i) U (M.aQ ad).fact.2 U U (rfl) (ae) T.aG T.bf),
   aC U U (fun x w ad ab=>b2 U (M.aQ ad).fact.2 U T.cq (by rw[Nat.mul_one];exact gx (l:=k) ae)),
   aC U U (fun x w ad ab=>eZ U (by simp[aJ])),ay⟩ ?_)
    intro x fr w ad ab E;have M:=M.ext ad;refine cm E<|a1 (y:=((i+1:Nat):Int)) 2 U U ((br ae ae).trans ae)<|ct 1 U fun fr E=>?_;refine⟨l.length-(i+1),by omega,i+1,U,by omega,fun j ax=>?_,E.lL [0,1,5] rfl,M⟩;rcases Nat.lt_or_eq_of_le (Nat.le_of_lt_succ ax)with h|rfl
    ·exact vg j h
    ·rw[List.getElem?_eq_getElem hi,List.getElem?_eq_getElem (aI▸hi),aJ]
   ·refine bA E<|ah 2 U (bx U U U U T.aG M.fact.1)<|bD 0 U U ae<|bw 1 U fun fr E=>?_;refine(dR (B:=T.CN) (Vs:=(.af _:: .af _:: .af (cellAt a (i*1)):: .af (ag ((l[i]).toNat:Int)):: .af _:: .af _:: .af (cellAt b (i*1)):: .af (ag ((k[i]'(aI▸hi)).toNat:Int)):: .af (.bool true)::[])) T.JT E T.mixed T.JS U (ej.e6 U) ⟨aw U U,
   aw U U,
   aC U U (fun x w ad ab=>bL (i:=i) U (M.aQ ad).fact.1 U U (rfl) (hi) T.aG T.bf),
   aC U U (fun x w ad ab=>b2 U (M.aQ ad).fact.1 U T.cq (by rw[Nat.mul_one];exact gx hi)),
   aw U U,
   aw U U,
   aC U U (fun x w ad ab=>bL (i:=i) U (M.aQ ad).fact.2 U U (rfl) (ae) T.aG T.bf),
   aC U U (fun x w ad ab=>b2 U (M.aQ ad).fact.2 U T.cq (by rw[Nat.mul_one];exact gx (l:=k) ae)),
   aC U U (fun x w ad ab=>eZ U (by simp;exact fun h=>aJ (UInt8.toNat_inj.1 (Int.ofNat_inj.1 h)))),ay⟩ ?_)
    intro x fr w ad ab E;have M:=M.ext ad;refine cm E<|aU 2 U fun fr E=>?_;refine bi E U U ?_;have e:decide (l=k)=false:=decide_eq_false (fun h=>aJ (by subst h;rfl));rw[e];exact bX M
  ·refine bA E<|ah 2 U (bx U U U U T.aG M.fact.1)<|bs 0 U U ae<|aU 2 U fun fr E=>?_;refine bi E U U ?_;have e:decide (l=k)=true:=decide_eq_true (List.ext_getElem? fun j=>by by_cases ax:j<i;exact vg j ax;rw[List.getElem?_eq_none ae,List.getElem?_eq_none ae]);rw[e];exact bX M
theorem Nl{a b:Value}{l k:List UInt8}{w0:World}(bm:Bytes w0 a l)(ak:Bytes w0 b k)(au:l.length<=35184372088832):bH prog 19 [a,b] w0 (.bool (decide (l=k))):=by
 by_cases aI:l.length=k.length
 ·exact Nj bm ak aI au
 ·rw[decide_eq_false (fun h=>aI (by rw[h]))];exact Nk bm ak aI
theorem Mp{b:Value}{l:List Int}{w0:World}{f:FuncId}{q:Int->Bool}(bu:bO prog f=true)(bE:∀n w,bH prog f [aa n] w (.bool (q n)))(ak:Ints w0 b l)(au:l.length<=35184372088832):bH prog 179 [b,.func (.func f) #[] #[]] w0 (aa (idxOf q l)):=by
 refine enter (n:=19) func179 U U U ?_;intro fr E;have M:=Mem.begin (Φ:=fun w'=>Ints w' b l) (Has.nil w0) (fun w' h=>ak.bU h);refine aV E<|ah 2 U (bx U U U U T.en M.fact)<|bw 1 U fun fr E=>?_;refine cI (fun d fr w=>∃i:Nat,d=l.length-i/\i<=l.length/\(∀j,j<i->∀ax:j<l.length,q l[j]=false)/\Env [(8,aa i),(7,aa l.length),(6,b),(1,.func (.func f) #[] #[]),(0,b)] 19 fr/\Mem w0 (aS []) [] (fun w'=>Ints w' b l) w) (l.length) ?_ ?_
 ·refine⟨0,U,Nat.zero_le _,fun j ax=>absurd ax ae,E.lL [0,1,6,7,8] rfl,M⟩
 ·clear E M;rintro d fr w ⟨i,rfl,hle,eB,E,M⟩;by_cases hi:i<l.length
  ·cases l5:q l[i]with
   |false=>
    refine bA E<|bD 0 U U ae<|ah 6 U (bL (i:=i) U M.fact U U (rfl) (hi) T.en T.c3)<|ah (v:=aa l[i]) 0 U (b2 U M.fact U T.bc (by rw[Nat.mul_one];exact kU hi))<|bo M 0 U (vX U U bu) (bE l[i] _) fun w M=>fun fr E=>?_;rw[l5]at E;refine bN E<|a1 (y:=((i+1:Nat):Int)) 1 U U ((br ae ae).trans ae)<|ct 1 U fun fr E=>?_;refine⟨l.length-(i+1),by omega,i+1,U,by omega,fun j ax hc=>?_,E.lL [0,1,6,7,8] rfl,M⟩;rcases Nat.lt_or_eq_of_le (Nat.le_of_lt_succ ax)with h|rfl
    ·exact eB j h hc
    ·exact l5
   |true=>
    refine bA E<|bD 0 U U ae<|ah 6 U (bL (i:=i) U M.fact U U (rfl) (hi) T.en T.c3)<|ah (v:=aa l[i]) 0 U (b2 U M.fact U T.bc (by rw[Nat.mul_one];exact kU hi))<|bo M 0 U (vX U U bu) (bE l[i] _) fun w M=>fun fr E=>?_;rw[l5]at E;refine bN E<|aU 3 U fun fr E=>?_;refine bi E U U ?_;have e:idxOf q l=(i:Int):=S9 hi l5 eB;rw[e];exact bX M
  ·refine bA E<|bs 0 U U ae<|aU 2 U fun fr E=>?_;refine bi E U U ?_;have e:idxOf q l= -1:=S8 fun j ax=>eB j ae ax;rw[e];exact bX M
theorem p2{b:Value}{l:List Int}{w0:World}{f:FuncId}{q:Int->Bool}(bu:bO prog f=true)(bE:∀n w,bH prog f [aa n] w (.bool (q n)))(ak:Ints w0 b l)(au:l.length<=35184372088832):bH prog 132 [b,.func (.func f) #[] #[]] w0 (.bool (l.any q)):=by
 refine enter (n:=9) func132 U U U ?_;intro fr E;have M:=Mem.begin (Φ:=fun w'=>Ints w' b l) (Has.nil w0) (fun w' h=>ak.bU h);refine aV E<|bo M 3 U (ar U U T.QI) (Mp bu bE M.fact au) fun w M=>ah (v:=.bool _) 0 U U<|aU 1 U fun fr E=>?_;refine bi E U U ?_;rw[<-S7];exact bX M
theorem qT(n:Int)(w0:World):bH prog 130 [aa n] w0 (.bool (!decide (1<=n/\n<=1099511627776))):=by
 refine enter (n:=6) func130 U U U ?_;intro fr E;have M:=ht (Has.nil w0);refine aV E<|bo M 2 U (ar U U T.pe) (pY _ _ _ _) fun w M=>ah (v:=.bool _) 0 U U<|aU 1 U fun fr E=>?_;refine bi E U U ?_;exact bX M
theorem TR{r:Rec}{w0:World}(ap:r.Ok)(he:(r.cx=0/\r.b3=List.replicate 32 0))(bm:([r.bq,r.cd,r.bF].any fun n=> !decide (1<=n/\n<=1099511627776))=true):bH prog 73 [r.val] w0 (.bool false):=by
 refine enter (n:=40) func73 U U U ?_;intro fr E;have M:=ht (Has.nil w0);refine aV E<|bh (ob:=.cells (r.cells.toArray) 45) (fun g=>ai g 0) M 0 U (cS (cs:=(r.cells.toArray)) U U) fun aZ w M=>ah (v:=aa _) 2 U (aE U U T.bc (M.row (i:=0) U) Rec.jv)<|ah (v:=aa _) 1 U (aE U U T.bc (M.row (i:=0) U) Rec.h1)<|ah (v:=aa _) 1 U (aE U U T.bc (M.row (i:=0) U) Rec.ho)<|cv 0 U fun fr E=>?_;refine dM (sz:=1) (xs:=_) E M U U U U U (ev (us:=[_,_,_]) (vs:=[_,_,_]) U U U T.en T.c3 T.k7 U U U U U) (rfl) (Nat.le_refl _) aN (rfl) fun s fr w M E=>?_;refine cw E<|ah (v:=.func (.func 130) #[] #[]) 1 U U<|ah (v:=.agg (aW r.cx::ao r.b3).toArray) 1 U (gb (vs:=(aW r.cx::ao r.b3).toArray) U U T.jL (M.row (i:=1) U) (by simp[Rec.len ap]) (congrArg List.toArray (Rec.nO ap)))<|ah (v:=.agg (aW 0::ao (List.replicate 32 0)).toArray) 0 U (dl (vs:=[]) (us:=aW 0::ao (List.replicate 32 0)) U U T.nj T.nm (rfl) U U (rfl))<|ah (v:=.bool true) 0 U (oL (b:=true) U U U T.ql (lh ap.b3) (lh (by simp)) (by rw[q4];simp[he]))<|ah (v:=.bool _) 5 U U<|bo M 3 U (ar U U T.qq) (p2 (l:=[r.bq,r.cd,r.bF]) T.qp (fun n w=>qT n w) (M.reads 0 U) (by simp)) fun w M=>fun fr E=>?_;rw[bm]at E;refine bN E<|ah (v:=.bool _) 0 U U<|ah (v:=.bool _) 2 U U<|ah (v:=.bool _) 4 U U<|ah (v:=.bool _) 4 U U<|aU 1 U fun fr E=>?_;refine bi E U U ?_;exact bX M
theorem TT{r:Rec}{w0:World}(ap:r.Ok)(he:(r.cx=0/\r.b3=List.replicate 32 0))(bm:([r.bq,r.cd,r.bF].any fun n=> !decide (1<=n/\n<=1099511627776))=false)(ak:¬gh r.c1 r.c5):bH prog 73 [r.val] w0 (.bool false):=by
 refine enter (n:=40) func73 U U U ?_;intro fr E;have M:=ht (Has.nil w0);refine aV E<|bh (ob:=.cells (r.cells.toArray) 45) (fun g=>ai g 0) M 0 U (cS (cs:=(r.cells.toArray)) U U) fun aZ w M=>ah (v:=aa _) 2 U (aE U U T.bc (M.row (i:=0) U) Rec.jv)<|ah (v:=aa _) 1 U (aE U U T.bc (M.row (i:=0) U) Rec.h1)<|ah (v:=aa _) 1 U (aE U U T.bc (M.row (i:=0) U) Rec.ho)<|cv 0 U fun fr E=>?_;refine dM (sz:=1) (xs:=_) E M U U U U U (ev (us:=[_,_,_]) (vs:=[_,_,_]) U U U T.en T.c3 T.k7 U U U U U) (rfl) (Nat.le_refl _) aN (rfl) fun s fr w M E=>?_;refine cw E<|ah (v:=.func (.func 130) #[] #[]) 1 U U<|ah (v:=.agg (aW r.cx::ao r.b3).toArray) 1 U (gb (vs:=(aW r.cx::ao r.b3).toArray) U U T.jL (M.row (i:=1) U) (by simp[Rec.len ap]) (congrArg List.toArray (Rec.nO ap)))<|ah (v:=.agg (aW 0::ao (List.replicate 32 0)).toArray) 0 U (dl (vs:=[]) (us:=aW 0::ao (List.replicate 32 0)) U U T.nj T.nm (rfl) U U (rfl))<|ah (v:=.bool true) 0 U (oL (b:=true) U U U T.ql (lh ap.b3) (lh (by simp)) (by rw[q4];simp[he]))<|ah (v:=.bool _) 5 U U<|bo M 3 U (ar U U T.qq) (p2 (l:=[r.bq,r.cd,r.bF]) T.qp (fun n w=>qT n w) (M.reads 0 U) (by simp)) fun w M=>fun fr E=>?_;rw[bm]at E;refine bN E<|ah (v:=.bool _) 0 U U<|ah (v:=.bool _) 2 U U<|ah (v:=.agg ([aW r.c1,aW r.c5]).toArray) 2 U (gb (vs:=([aW r.c1,aW r.c5]).toArray) U U T.kE (M.row (i:=1) U) (by simp[Rec.len ap]) (congrArg List.toArray (Rec.nN ap)))<|bo M 0 U (ar U U T.s9) (tI _ _ _) fun w M=>fun fr E=>?_;rw[decide_eq_false ak]at E;refine bN E<|ah (v:=.bool _) 0 U U<|ah (v:=.bool _) 4 U U<|aU 1 U fun fr E=>?_;refine bi E U U ?_;exact bX M
theorem TS{r:Rec}{w0:World}(ap:r.Ok)(he:(r.cx=0/\r.b3=List.replicate 32 0))(bm:([r.bq,r.cd,r.bF].any fun n=> !decide (1<=n/\n<=1099511627776))=false)(ak:gh r.c1 r.c5):bH prog 73 [r.val] w0 (.bool (decide (gh r.dw r.dB))):=by
 refine enter (n:=40) func73 U U U ?_;intro fr E;have M:=ht (Has.nil w0);refine aV E<|bh (ob:=.cells (r.cells.toArray) 45) (fun g=>ai g 0) M 0 U (cS (cs:=(r.cells.toArray)) U U) fun aZ w M=>ah (v:=aa _) 2 U (aE U U T.bc (M.row (i:=0) U) Rec.jv)<|ah (v:=aa _) 1 U (aE U U T.bc (M.row (i:=0) U) Rec.h1)<|ah (v:=aa _) 1 U (aE U U T.bc (M.row (i:=0) U) Rec.ho)<|cv 0 U fun fr E=>?_;refine dM (sz:=1) (xs:=_) E M U U U U U (ev (us:=[_,_,_]) (vs:=[_,_,_]) U U U T.en T.c3 T.k7 U U U U U) (rfl) (Nat.le_refl _) aN (rfl) fun s fr w M E=>?_;refine cw E<|ah (v:=.func (.func 130) #[] #[]) 1 U U<|ah (v:=.agg (aW r.cx::ao r.b3).toArray) 1 U (gb (vs:=(aW r.cx::ao r.b3).toArray) U U T.jL (M.row (i:=1) U) (by simp[Rec.len ap]) (congrArg List.toArray (Rec.nO ap)))<|ah (v:=.agg (aW 0::ao (List.replicate 32 0)).toArray) 0 U (dl (vs:=[]) (us:=aW 0::ao (List.replicate 32 0)) U U T.nj T.nm (rfl) U U (rfl))<|ah (v:=.bool true) 0 U (oL (b:=true) U U U T.ql (lh ap.b3) (lh (by simp)) (by rw[q4];simp[he]))<|ah (v:=.bool _) 5 U U<|bo M 3 U (ar U U T.qq) (p2 (l:=[r.bq,r.cd,r.bF]) T.qp (fun n w=>qT n w) (M.reads 0 U) (by simp)) fun w M=>fun fr E=>?_;rw[bm]at E;refine bN E<|ah (v:=.bool _) 0 U U<|ah (v:=.bool _) 2 U U<|ah (v:=.agg ([aW r.c1,aW r.c5]).toArray) 2 U (gb (vs:=([aW r.c1,aW r.c5]).toArray) U U T.kE (M.row (i:=1) U) (by simp[Rec.len ap]) (congrArg List.toArray (Rec.nN ap)))<|bo M 0 U (ar U U T.s9) (tI _ _ _) fun w M=>fun fr E=>?_;rw[decide_eq_true ak]at E;refine bN E<|ah (v:=.bool _) 0 U U<|ah (v:=.agg ([aW r.dw,aW r.dB]).toArray) 2 U (gb (vs:=([aW r.dw,aW r.dB]).toArray) U U T.kE (M.row (i:=1) U) (by simp[Rec.len ap]) (congrArg List.toArray (Rec.qS ap)))<|bo M 0 U (ar U U T.s9) (tI _ _ _) fun w M=>ah (v:=.bool _) 0 U U<|aU 1 U fun fr E=>?_;refine bi E U U ?_;exact bX M
theorem TU{r:Rec}{w0:World}(ap:r.Ok)(he:¬(r.cx=0/\r.b3=List.replicate 32 0))(hi:(3<=r.cx/\r.cx<=4095))(bm:([r.bq,r.cd,r.bF].any fun n=> !decide (1<=n/\n<=1099511627776))=true):bH prog 73 [r.val] w0 (.bool false):=by
 refine enter (n:=40) func73 U U U ?_;intro fr E;have M:=ht (Has.nil w0);refine aV E<|bh (ob:=.cells (r.cells.toArray) 45) (fun g=>ai g 0) M 0 U (cS (cs:=(r.cells.toArray)) U U) fun aZ w M=>ah (v:=aa _) 2 U (aE U U T.bc (M.row (i:=0) U) Rec.jv)<|ah (v:=aa _) 1 U (aE U U T.bc (M.row (i:=0) U) Rec.h1)<|ah (v:=aa _) 1 U (aE U U T.bc (M.row (i:=0) U) Rec.ho)<|cv 0 U fun fr E=>?_;refine dM (sz:=1) (xs:=_) E M U U U U U (ev (us:=[_,_,_]) (vs:=[_,_,_]) U U U T.en T.c3 T.k7 U U U U U) (rfl) (Nat.le_refl _) aN (rfl) fun s fr w M E=>?_;refine cw E<|ah (v:=.func (.func 130) #[] #[]) 1 U U<|ah (v:=.agg (aW r.cx::ao r.b3).toArray) 1 U (gb (vs:=(aW r.cx::ao r.b3).toArray) U U T.jL (M.row (i:=1) U) (by simp[Rec.len ap]) (congrArg List.toArray (Rec.nO ap)))<|ah (v:=.agg (aW 0::ao (List.replicate 32 0)).toArray) 0 U (dl (vs:=[]) (us:=aW 0::ao (List.replicate 32 0)) U U T.nj T.nm (rfl) U U (rfl))<|ah (v:=.bool false) 0 U (oL (b:=false) U U U T.ql (lh ap.b3) (lh (by simp)) (by rw[q4];simp only[Bool.false_eq_true,false_iff];exact he))<|ah (v:=aa _) 3 U (aE U U T.bc (M.row (i:=1) U) (Rec.nx ap))<|bo M 0 U (ar U U T.pe) (pY _ _ _ _) fun w M=>fun fr E=>?_;rw[decide_eq_true hi]at E;refine bN E<|ah (v:=.bool _) 0 U U<|bo M 3 U (ar U U T.qq) (p2 (l:=[r.bq,r.cd,r.bF]) T.qp (fun n w=>qT n w) (M.reads 0 U) (by simp)) fun w M=>fun fr E=>?_;rw[bm]at E;refine bN E<|ah (v:=.bool _) 0 U U<|ah (v:=.bool _) 2 U U<|ah (v:=.bool _) 4 U U<|ah (v:=.bool _) 4 U U<|aU 1 U fun fr E=>?_;refine bi E U U ?_;exact bX M
theorem TW{r:Rec}{w0:World}(ap:r.Ok)(he:¬(r.cx=0/\r.b3=List.replicate 32 0))(hi:(3<=r.cx/\r.cx<=4095))(bm:([r.bq,r.cd,r.bF].any fun n=> !decide (1<=n/\n<=1099511627776))=false)(ak:¬gh r.c1 r.c5):bH prog 73 [r.val] w0 (.bool false):=by
 refine enter (n:=40) func73 U U U ?_;intro fr E;have M:=ht (Has.nil w0);refine aV E<|bh (ob:=.cells (r.cells.toArray) 45) (fun g=>ai g 0) M 0 U (cS (cs:=(r.cells.toArray)) U U) fun aZ w M=>ah (v:=aa _) 2 U (aE U U T.bc (M.row (i:=0) U) Rec.jv)<|ah (v:=aa _) 1 U (aE U U T.bc (M.row (i:=0) U) Rec.h1)<|ah (v:=aa _) 1 U (aE U U T.bc (M.row (i:=0) U) Rec.ho)<|cv 0 U fun fr E=>?_;refine dM (sz:=1) (xs:=_) E M U U U U U (ev (us:=[_,_,_]) (vs:=[_,_,_]) U U U T.en T.c3 T.k7 U U U U U) (rfl) (Nat.le_refl _) aN (rfl) fun s fr w M E=>?_;refine cw E<|ah (v:=.func (.func 130) #[] #[]) 1 U U<|ah (v:=.agg (aW r.cx::ao r.b3).toArray) 1 U (gb (vs:=(aW r.cx::ao r.b3).toArray) U U T.jL (M.row (i:=1) U) (by simp[Rec.len ap]) (congrArg List.toArray (Rec.nO ap)))<|ah (v:=.agg (aW 0::ao (List.replicate 32 0)).toArray) 0 U (dl (vs:=[]) (us:=aW 0::ao (List.replicate 32 0)) U U T.nj T.nm (rfl) U U (rfl))<|ah (v:=.bool false) 0 U (oL (b:=false) U U U T.ql (lh ap.b3) (lh (by simp)) (by rw[q4];simp only[Bool.false_eq_true,false_iff];exact he))<|ah (v:=aa _) 3 U (aE U U T.bc (M.row (i:=1) U) (Rec.nx ap))<|bo M 0 U (ar U U T.pe) (pY _ _ _ _) fun w M=>fun fr E=>?_;rw[decide_eq_true hi]at E;refine bN E<|ah (v:=.bool _) 0 U U<|bo M 3 U (ar U U T.qq) (p2 (l:=[r.bq,r.cd,r.bF]) T.qp (fun n w=>qT n w) (M.reads 0 U) (by simp)) fun w M=>fun fr E=>?_;rw[bm]at E;refine bN E<|ah (v:=.bool _) 0 U U<|ah (v:=.bool _) 2 U U<|ah (v:=.agg ([aW r.c1,aW r.c5]).toArray) 2 U (gb (vs:=([aW r.c1,aW r.c5]).toArray) U U T.kE (M.row (i:=1) U) (by simp[Rec.len ap]) (congrArg List.toArray (Rec.nN ap)))<|bo M 0 U (ar U U T.s9) (tI _ _ _) fun w M=>fun fr E=>?_;rw[decide_eq_false ak]at E;refine bN E<|ah (v:=.bool _) 0 U U<|ah (v:=.bool _) 4 U U<|aU 1 U fun fr E=>?_;refine bi E U U ?_;exact bX M
theorem TV{r:Rec}{w0:World}(ap:r.Ok)(he:¬(r.cx=0/\r.b3=List.replicate 32 0))(hi:(3<=r.cx/\r.cx<=4095))(bm:([r.bq,r.cd,r.bF].any fun n=> !decide (1<=n/\n<=1099511627776))=false)(ak:gh r.c1 r.c5):bH prog 73 [r.val] w0 (.bool (decide (gh r.dw r.dB))):=by
 refine enter (n:=40) func73 U U U ?_;intro fr E;have M:=ht (Has.nil w0);refine aV E<|bh (ob:=.cells (r.cells.toArray) 45) (fun g=>ai g 0) M 0 U (cS (cs:=(r.cells.toArray)) U U) fun aZ w M=>ah (v:=aa _) 2 U (aE U U T.bc (M.row (i:=0) U) Rec.jv)<|ah (v:=aa _) 1 U (aE U U T.bc (M.row (i:=0) U) Rec.h1)<|ah (v:=aa _) 1 U (aE U U T.bc (M.row (i:=0) U) Rec.ho)<|cv 0 U fun fr E=>?_;refine dM (sz:=1) (xs:=_) E M U U U U U (ev (us:=[_,_,_]) (vs:=[_,_,_]) U U U T.en T.c3 T.k7 U U U U U) (rfl) (Nat.le_refl _) aN (rfl) fun s fr w M E=>?_;refine cw E<|ah (v:=.func (.func 130) #[] #[]) 1 U U<|ah (v:=.agg (aW r.cx::ao r.b3).toArray) 1 U (gb (vs:=(aW r.cx::ao r.b3).toArray) U U T.jL (M.row (i:=1) U) (by simp[Rec.len ap]) (congrArg List.toArray (Rec.nO ap)))<|ah (v:=.agg (aW 0::ao (List.replicate 32 0)).toArray) 0 U (dl (vs:=[]) (us:=aW 0::ao (List.replicate 32 0)) U U T.nj T.nm (rfl) U U (rfl))<|ah (v:=.bool false) 0 U (oL (b:=false) U U U T.ql (lh ap.b3) (lh (by simp)) (by rw[q4];simp only[Bool.false_eq_true,false_iff];exact he))<|ah (v:=aa _) 3 U (aE U U T.bc (M.row (i:=1) U) (Rec.nx ap))<|bo M 0 U (ar U U T.pe) (pY _ _ _ _) fun w M=>fun fr E=>?_;rw[decide_eq_true hi]at E;refine bN E<|ah (v:=.bool _) 0 U U<|bo M 3 U (ar U U T.qq) (p2 (l:=[r.bq,r.cd,r.bF]) T.qp (fun n w=>qT n w) (M.reads 0 U) (by simp)) fun w M=>fun fr E=>?_;rw[bm]at E;refine bN E<|ah (v:=.bool _) 0 U U<|ah (v:=.bool _) 2 U U<|ah (v:=.agg ([aW r.c1,aW r.c5]).toArray) 2 U (gb (vs:=([aW r.c1,aW r.c5]).toArray) U U T.kE (M.row (i:=1) U) (by simp[Rec.len ap]) (congrArg List.toArray (Rec.nN ap)))<|bo M 0 U (ar U U T.s9) (tI _ _ _) fun w M=>fun fr E=>?_;rw[decide_eq_true ak]at E;refine bN E<|ah (v:=.bool _) 0 U U<|ah (v:=.agg ([aW r.dw,aW r.dB]).toArray) 2 U (gb (vs:=([aW r.dw,aW r.dB]).toArray) U U T.kE (M.row (i:=1) U) (by simp[Rec.len ap]) (congrArg List.toArray (Rec.qS ap)))<|bo M 0 U (ar U U T.s9) (tI _ _ _) fun w M=>ah (v:=.bool _) 0 U U<|aU 1 U fun fr E=>?_;refine bi E U U ?_;exact bX M
theorem TY{r:Rec}{w0:World}(ap:r.Ok)(he:¬(r.cx=0/\r.b3=List.replicate 32 0))(hi:¬(3<=r.cx/\r.cx<=4095))(bm:([r.bq,r.cd,r.bF].any fun n=> !decide (1<=n/\n<=1099511627776))=true):bH prog 73 [r.val] w0 (.bool false):=by
 refine enter (n:=40) func73 U U U ?_;intro fr E;have M:=ht (Has.nil w0);refine aV E<|bh (ob:=.cells (r.cells.toArray) 45) (fun g=>ai g 0) M 0 U (cS (cs:=(r.cells.toArray)) U U) fun aZ w M=>ah (v:=aa _) 2 U (aE U U T.bc (M.row (i:=0) U) Rec.jv)<|ah (v:=aa _) 1 U (aE U U T.bc (M.row (i:=0) U) Rec.h1)<|ah (v:=aa _) 1 U (aE U U T.bc (M.row (i:=0) U) Rec.ho)<|cv 0 U fun fr E=>?_;refine dM (sz:=1) (xs:=_) E M U U U U U (ev (us:=[_,_,_]) (vs:=[_,_,_]) U U U T.en T.c3 T.k7 U U U U U) (rfl) (Nat.le_refl _) aN (rfl) fun s fr w M E=>?_;refine cw E<|ah (v:=.func (.func 130) #[] #[]) 1 U U<|ah (v:=.agg (aW r.cx::ao r.b3).toArray) 1 U (gb (vs:=(aW r.cx::ao r.b3).toArray) U U T.jL (M.row (i:=1) U) (by simp[Rec.len ap]) (congrArg List.toArray (Rec.nO ap)))<|ah (v:=.agg (aW 0::ao (List.replicate 32 0)).toArray) 0 U (dl (vs:=[]) (us:=aW 0::ao (List.replicate 32 0)) U U T.nj T.nm (rfl) U U (rfl))<|ah (v:=.bool false) 0 U (oL (b:=false) U U U T.ql (lh ap.b3) (lh (by simp)) (by rw[q4];simp only[Bool.false_eq_true,false_iff];exact he))<|ah (v:=aa _) 3 U (aE U U T.bc (M.row (i:=1) U) (Rec.nx ap))<|bo M 0 U (ar U U T.pe) (pY _ _ _ _) fun w M=>fun fr E=>?_;rw[decide_eq_false hi]at E;refine bN E<|ah (v:=.bool _) 0 U U<|bo M 3 U (ar U U T.qq) (p2 (l:=[r.bq,r.cd,r.bF]) T.qp (fun n w=>qT n w) (M.reads 0 U) (by simp)) fun w M=>fun fr E=>?_;rw[bm]at E;refine bN E<|ah (v:=.bool _) 0 U U<|ah (v:=.bool _) 2 U U<|ah (v:=.bool _) 4 U U<|ah (v:=.bool _) 4 U U<|aU 1 U fun fr E=>?_;refine bi E U U ?_;exact bX M
theorem TX{r:Rec}{w0:World}(ap:r.Ok)(he:¬(r.cx=0/\r.b3=List.replicate 32 0))(hi:¬(3<=r.cx/\r.cx<=4095))(bm:([r.bq,r.cd,r.bF].any fun n=> !decide (1<=n/\n<=1099511627776))=false):bH prog 73 [r.val] w0 (.bool false):=by
 refine enter (n:=40) func73 U U U ?_;intro fr E;have M:=ht (Has.nil w0);refine aV E<|bh (ob:=.cells (r.cells.toArray) 45) (fun g=>ai g 0) M 0 U (cS (cs:=(r.cells.toArray)) U U) fun aZ w M=>ah (v:=aa _) 2 U (aE U U T.bc (M.row (i:=0) U) Rec.jv)<|ah (v:=aa _) 1 U (aE U U T.bc (M.row (i:=0) U) Rec.h1)<|ah (v:=aa _) 1 U (aE U U T.bc (M.row (i:=0) U) Rec.ho)<|cv 0 U fun fr E=>?_;refine dM (sz:=1) (xs:=_) E M U U U U U (ev (us:=[_,_,_]) (vs:=[_,_,_]) U U U T.en T.c3 T.k7 U U U U U) (rfl) (Nat.le_refl _) aN (rfl) fun s fr w M E=>?_;refine cw E<|ah (v:=.func (.func 130) #[] #[]) 1 U U<|ah (v:=.agg (aW r.cx::ao r.b3).toArray) 1 U (gb (vs:=(aW r.cx::ao r.b3).toArray) U U T.jL (M.row (i:=1) U) (by simp[Rec.len ap]) (congrArg List.toArray (Rec.nO ap)))<|ah (v:=.agg (aW 0::ao (List.replicate 32 0)).toArray) 0 U (dl (vs:=[]) (us:=aW 0::ao (List.replicate 32 0)) U U T.nj T.nm (rfl) U U (rfl))<|ah (v:=.bool false) 0 U (oL (b:=false) U U U T.ql (lh ap.b3) (lh (by simp)) (by rw[q4];simp only[Bool.false_eq_true,false_iff];exact he))<|ah (v:=aa _) 3 U (aE U U T.bc (M.row (i:=1) U) (Rec.nx ap))<|bo M 0 U (ar U U T.pe) (pY _ _ _ _) fun w M=>fun fr E=>?_;rw[decide_eq_false hi]at E;refine bN E<|ah (v:=.bool _) 0 U U<|bo M 3 U (ar U U T.qq) (p2 (l:=[r.bq,r.cd,r.bF]) T.qp (fun n w=>qT n w) (M.reads 0 U) (by simp)) fun w M=>fun fr E=>?_;rw[bm]at E;refine bN E<|ah (v:=.bool _) 0 U U<|ah (v:=.bool _) 2 U U<|ah (v:=.bool _) 4 U U<|ah (v:=.bool _) 4 U U<|aU 1 U fun fr E=>?_;refine bi E U U ?_;exact bX M
theorem Ej{r:Rec}:([r.bq,r.cd,r.bF].any fun n=> !decide (1<=n/\n<=1099511627776))= !decide (fP r.bq/\fP r.cd/\fP r.bF):=by
 simp only[fP];by_cases aj:1<=r.bq/\r.bq<=1099511627776<;>by_cases an:1<=r.cd/\r.cd<=1099511627776<;>by_cases aB:1<=r.bF/\r.bF<=1099511627776<;>simp[aj,an,aB]<;>omega
theorem yd{r:Rec}(ap:r.Ok)(w0:World):bH prog 73 [r.val] w0 (.bool (decide r.fA)):=by
 by_cases a6:fP r.bq/\fP r.cd/\fP r.bF
 ·have bm:([r.bq,r.cd,r.bF].any fun n=> !decide (1<=n/\n<=1099511627776))=false:=by rw[Ej,decide_eq_true a6];rfl
  by_cases he:(r.cx=0/\r.b3=List.replicate 32 0)
  ·have aj:r.uC:=.inl he;by_cases ak:gh r.c1 r.c5
   ·have e:decide r.fA=decide (gh r.dw r.dB):=decide_eq_decide.2 ⟨fun h=>h.2.2.2,fun h=>⟨a6,aj,ak,h⟩⟩;rw[e];exact TS ap he bm ak
   ·rw[decide_eq_false (fun h=>ak h.2.2.1)];exact TT ap he bm ak
  ·by_cases hi:(3<=r.cx/\r.cx<=4095)
   ·have aj:r.uC:=.inr hi;by_cases ak:gh r.c1 r.c5
    ·have e:decide r.fA=decide (gh r.dw r.dB):=decide_eq_decide.2 ⟨fun h=>h.2.2.2,fun h=>⟨a6,aj,ak,h⟩⟩;rw[e];exact TV ap he hi bm ak
    ·rw[decide_eq_false (fun h=>ak h.2.2.1)];exact TW ap he hi bm ak
   ·rw[decide_eq_false (fun h=>h.2.1.elim he hi)];exact TX ap he hi bm
 ·have bm:([r.bq,r.cd,r.bF].any fun n=> !decide (1<=n/\n<=1099511627776))=true:=by rw[Ej,decide_eq_false a6];rfl
  rw[decide_eq_false (fun h=>a6 h.1)];by_cases he:(r.cx=0/\r.b3=List.replicate 32 0)
  ·exact TR ap he bm
  ·by_cases hi:(3<=r.cx/\r.cx<=4095)
   ·exact TU ap he hi bm
   ·exact TY ap he hi bm
end
section
open Go.RowKit Go.a2 Go.Proofs Go.Proofs.Tryz
theorem Ii{b:Value}{l:List UInt8}{s q:Int}{w0:World}(ak:Bytes w0 b l)(au:l.length+16<=35184372088832):aY prog 77 [b,.agg #[aa s,aa q]] w0 [] (fun s:Value=>s) (fun r=>[.bytes 5 r (l++aO s++aO q)]) (fun _=>True):=by
 refine enter (n:=12) func77 U U U ?_;intro fr E;have M:=Mem.begin (Φ:=fun w'=>Bytes w' b l) (Has.nil w0) (fun w' h=>ak.bU h);refine aV E<|bh (ob:=.cells #[_,_] 43) (fun g=>ai g 0) M 0 U (cS (cs:= #[_,_]) U U) fun aZ w M=>bw 1 U fun fr E=>?_;refine(dR (B:=T.KN) (Vs:=(.af _:: .af (ai _ 0):: .af (aa _)::cV w.heap.size (fun v=>[.bytes 5 v (l++aO s)]) (fun _=>True):: .af (ai _ 1):: .af (aa _)::cV w.heap.size (fun v=>[.bytes 5 v (l++aO s++aO q)]) (fun _=>True)::cV w.heap.size (fun v=>[.bytes 5 v (l++aO s++aO q)]) (fun _=>True)::[])) T.Zp E T.mixed T.Zo U (fH.dF ⟨ay,ay,ay,cn.df,ay,ay,cn.df,cn.df,ay⟩) ⟨aw U U,
   aw U U,
   aC U U (fun x w ad ab=>aE U U T.bc ((M.aQ ad).row (i:=0) U) U),
   cE U U (fun x w ad ab=>⟨_,_,U,U,U,ar U U T.nB,(np s (M.aQ ad).fact ae).eN ad.size⟩),
   aw U U,
   aC U U (fun x w ad ab=>aE U U T.bc ((M.aQ ad).row (i:=0) U) U),
   cE U U (fun x w ad ab=>⟨_,_,U,U,U,ar U U T.nB,(np q ((ab 3 U).1.reads 0 U:Bytes _ _ (l++aO s)) (by simp[aO];omega)).eN ad.size⟩),
   jd U U (fun x w ad ab=>⟨_,_,U,U,U,run_assign U U,bd.refl _,ab 6 U⟩),ay⟩ ?_)
 intro x fr w ad ab E;have M:=M.jb ad (ab 7 aN).1 (ab 7 aN).2.1;refine cm E<|aU 0 U fun fr E=>?_;refine bi E U U ?_;exact⟨_,U,M.fin (ni (i:=0) U) trivial⟩
theorem DP{r:Rec}{w0:World}(ap:r.Ok)(hm:¬r.fA):bH prog 26 [r.val] w0 (.tuple #[.slice none 0 0,aa 7]):=by
 refine enter (n:=38) func26 U U U ?_;intro fr E;have M:=ht (Has.nil w0);refine aV E<|bh (ob:=.cells (r.cells.toArray) 45) (fun g=>ai g 0) M 0 U (cS (cs:=(r.cells.toArray)) U U) fun aZ w M=>ah (v:=.agg r.cells.toArray) 2 U (cW U U T.da (M.row (i:=0) U) (Rec.size ap))<|bo M 0 U (ar U U T.xw) (yd ap _) fun w M=>fun fr E=>?_;rw[decide_eq_false hm]at E;refine bN E<|ah (v:=.bool _) 0 U U<|aU 3 U fun fr E=>?_;refine fN E U U U ?_;exact bX M
theorem uA{r:Rec}{w0:World}(ap:r.Ok)(hm:r.fA):aY prog 26 [r.val] w0 [] (fun s:Value=>.tuple #[s,aa 0]) (fun s=>[.bytes 5 s r.bytes]) (fun _=>True):=by
 refine enter (n:=38) func26 U U U ?_;intro fr E;have M:=ht (Has.nil w0);refine aV E<|bh (ob:=.cells (r.cells.toArray) 45) (fun g=>ai g 0) M 0 U (cS (cs:=(r.cells.toArray)) U U) fun aZ w M=>ah (v:=.agg r.cells.toArray) 2 U (cW U U T.da (M.row (i:=0) U) (Rec.size ap))<|bo M 0 U (ar U U T.xw) (yd ap _) fun w M=>fun fr E=>?_;rw[decide_eq_true hm]at E;refine bN E<|ah (v:=.bool _) 0 U U<|bw 1 U fun fr E=>?_;refine(dR (B:=T.Ke) (Vs:=(.af (ai _ 0):: .af (aa _)::cV w.heap.size (fun v=>[.bytes 5 v ([]++aO r.bq)]) (fun _=>True):: .af (ai _ 1):: .af (aa _)::cV w.heap.size (fun v=>[.bytes 5 v ([]++aO r.bq++aO r.cd)]) (fun _=>True):: .af (ai _ 2):: .af (aa _)::cV w.heap.size (fun v=>[.bytes 5 v ([]++aO r.bq++aO r.cd++aO r.bF)]) (fun _=>True)::cV w.heap.size (fun v=>[.bytes 5 v ([]++aO r.bq++aO r.cd++aO r.bF)]) (fun _=>True)::[])) T.YP E T.mixed T.YO U (fH.dF ⟨ay,ay,cn.df,ay,ay,cn.df,ay,ay,cn.df,cn.df,ay⟩) ⟨aw U U,
   aC U U (fun x w ad ab=>aE U U T.bc ((M.aQ ad).row (i:=0) U) Rec.jv),
   cE U U (fun x w ad ab=>⟨_,_,U,U,U,ar U U T.nB,(np r.bq (Bytes.nil _) (by simp)).eN ad.size⟩),
   aw U U,
   aC U U (fun x w ad ab=>aE U U T.bc ((M.aQ ad).row (i:=0) U) Rec.h1),
   cE U U (fun x w ad ab=>⟨_,_,U,U,U,ar U U T.nB,(np r.cd ((ab 2 U).1.reads 0 U:Bytes _ _ ([]++aO r.bq)) (by simp[aO,ap.cD,ap.b3,ap.dt,ap.dI])).eN ad.size⟩),
   aw U U,
   aC U U (fun x w ad ab=>aE U U T.bc ((M.aQ ad).row (i:=0) U) Rec.ho),
   cE U U (fun x w ad ab=>⟨_,_,U,U,U,ar U U T.nB,(np r.bF ((ab 5 U).1.reads 0 U:Bytes _ _ ([]++aO r.bq++aO r.cd)) (by simp[aO,ap.cD,ap.b3,ap.dt,ap.dI])).eN ad.size⟩),
   jd U U (fun x w ad ab=>⟨_,_,U,U,U,run_assign U U,bd.refl _,ab 8 U⟩),ay⟩ ?_)
 intro x fr w ad ab E;have M:=M.jb ad (ab 9 aN).1 (ab 9 aN).2.1;refine cm E<|bw 0 U fun fr E=>?_;refine(dR (B:=T.Kf) (Vs:=(.af _:: .af (ai _ 3):: .af (.agg (ao r.cD).toArray)::cV w.heap.size (fun v=>[.bytes 5 v (aO r.bq++aO r.cd++aO r.bF++r.cD)]) (fun _=>True):: .af (ai _ 35):: .af (.agg (aW r.cx::ao r.b3).toArray)::cV w.heap.size (fun v=>[.bytes 5 v (aO r.bq++aO r.cd++aO r.bF++r.cD++aO r.cx++r.b3)]) (fun _=>True)::cV w.heap.size (fun v=>[.bytes 5 v (aO r.bq++aO r.cd++aO r.bF++r.cD++aO r.cx++r.b3)]) (fun _=>True)::[])) T.YR E T.mixed T.YQ U (fH.dF ⟨ay,ay,ay,cn.df,ay,ay,cn.df,cn.df,ay⟩) ⟨aw U U,
   aw U U,
   aC U U (fun x w ad ab=>gb (vs:=(ao r.cD).toArray) U U T.gJ ((M.aQ ad).row (i:=1) U) (by simp[Rec.len ap]) (congrArg List.toArray (Rec.Hs ap))),
   cE U U (fun x w ad ab=>⟨_,_,U,U,U,ar U U T.xx,(wO (l:=aO r.bq++aO r.cd++aO r.bF) (s:=r.cD) ((M.aQ ad).reads 0 U) ap.cD (by simp[aO,ap.cD,ap.b3,ap.dt,ap.dI])).eN ad.size⟩),
   aw U U,
   aC U U (fun x w ad ab=>gb (vs:=(aW r.cx::ao r.b3).toArray) U U T.jL ((M.aQ ad).row (i:=1) U) (by simp[Rec.len ap]) (congrArg List.toArray (Rec.nO ap))),
   cE U U (fun x w ad ab=>⟨_,_,U,U,U,ar U U T.Rc,(Na (l:=aO r.bq++aO r.cd++aO r.bF++r.cD) (s:=r.b3) (a:=r.cx) ((ab 3 U).1.reads 0 U) ap.b3 (by simp[aO,ap.cD,ap.b3,ap.dt,ap.dI])).eN ad.size⟩),
   jd U U (fun x w ad ab=>⟨_,_,U,U,U,run_assign U U,bd.refl _,ab 6 U⟩),ay⟩ ?_)
 intro x fr w ad ab E;have M:=M.jb ad (ab 7 aN).1 (ab 7 aN).2.1;refine cm E<|bw 0 U fun fr E=>?_;refine(dR (B:=T.Kg) (Vs:=(.af _:: .af (ai _ 68):: .af (.agg ([aW r.c1,aW r.c5]).toArray)::cV w.heap.size (fun v=>[.bytes 5 v (aO r.bq++aO r.cd++aO r.bF++r.cD++aO r.cx++r.b3++aO r.c1++aO r.c5)]) (fun _=>True):: .af (ai _ 70):: .af (.agg ([aW r.dw,aW r.dB]).toArray)::cV w.heap.size (fun v=>[.bytes 5 v (aO r.bq++aO r.cd++aO r.bF++r.cD++aO r.cx++r.b3++aO r.c1++aO r.c5++aO r.dw++aO r.dB)]) (fun _=>True)::cV w.heap.size (fun v=>[.bytes 5 v (aO r.bq++aO r.cd++aO r.bF++r.cD++aO r.cx++r.b3++aO r.c1++aO r.c5++aO r.dw++aO r.dB)]) (fun _=>True)::[])) T.YT E T.mixed T.YS U (fH.dF ⟨ay,ay,ay,cn.df,ay,ay,cn.df,cn.df,ay⟩) ⟨aw U U,
   aw U U,
   aC U U (fun x w ad ab=>gb (vs:=([aW r.c1,aW r.c5]).toArray) U U T.kE ((M.aQ ad).row (i:=2) U) (by simp[Rec.len ap]) (congrArg List.toArray (Rec.nN ap))),
   cE U U (fun x w ad ab=>⟨_,_,U,U,U,ar U U T.FU,(Ii (l:=aO r.bq++aO r.cd++aO r.bF++r.cD++aO r.cx++r.b3) (s:=r.c1) (q:=r.c5) ((M.aQ ad).reads 0 U) (by simp[aO,ap.cD,ap.b3,ap.dt,ap.dI])).eN ad.size⟩),
   aw U U,
   aC U U (fun x w ad ab=>gb (vs:=([aW r.dw,aW r.dB]).toArray) U U T.kE ((M.aQ ad).row (i:=2) U) (by simp[Rec.len ap]) (congrArg List.toArray (Rec.qS ap))),
   cE U U (fun x w ad ab=>⟨_,_,U,U,U,ar U U T.FU,(Ii (l:=aO r.bq++aO r.cd++aO r.bF++r.cD++aO r.cx++r.b3++aO r.c1++aO r.c5) (s:=r.dw) (q:=r.dB) ((ab 3 U).1.reads 0 U) (by simp[aO,ap.cD,ap.b3,ap.dt,ap.dI])).eN ad.size⟩),
   jd U U (fun x w ad ab=>⟨_,_,U,U,U,run_assign U U,bd.refl _,ab 6 U⟩),ay⟩ ?_)
 intro x fr w ad ab E;have M:=M.jb ad (ab 7 aN).1 (ab 7 aN).2.1;refine cm E<|bw 0 U fun fr E=>?_;refine(dR (B:=T.Kh) (Vs:=(.af _:: .af (ai _ 72):: .af (.agg (ao r.dt).toArray)::cV w.heap.size (fun v=>[.bytes 5 v (aO r.bq++aO r.cd++aO r.bF++r.cD++aO r.cx++r.b3++aO r.c1++aO r.c5++aO r.dw++aO r.dB++r.dt)]) (fun _=>True):: .af (ai _ 104):: .af (.agg (ao r.dI).toArray)::cV w.heap.size (fun v=>[.bytes 5 v (aO r.bq++aO r.cd++aO r.bF++r.cD++aO r.cx++r.b3++aO r.c1++aO r.c5++aO r.dw++aO r.dB++r.dt++r.dI)]) (fun _=>True)::cV w.heap.size (fun v=>[.bytes 5 v (aO r.bq++aO r.cd++aO r.bF++r.cD++aO r.cx++r.b3++aO r.c1++aO r.c5++aO r.dw++aO r.dB++r.dt++r.dI)]) (fun _=>True):: .af _::[])) T.YV E T.mixed T.YU U (fH.dF ⟨ay,ay,ay,cn.df,ay,ay,cn.df,cn.df,ay,ay⟩) ⟨aw U U,
   aw U U,
   aC U U (fun x w ad ab=>gb (vs:=(ao r.dt).toArray) U U T.gJ ((M.aQ ad).row (i:=3) U) (by simp[Rec.len ap]) (congrArg List.toArray (Rec.Hr ap))),
   cE U U (fun x w ad ab=>⟨_,_,U,U,U,ar U U T.xx,(wO (l:=aO r.bq++aO r.cd++aO r.bF++r.cD++aO r.cx++r.b3++aO r.c1++aO r.c5++aO r.dw++aO r.dB) (s:=r.dt) ((M.aQ ad).reads 0 U) ap.dt (by simp[aO,ap.cD,ap.b3,ap.dt,ap.dI])).eN ad.size⟩),
   aw U U,
   aC U U (fun x w ad ab=>gb (vs:=(ao r.dI).toArray) U U T.gJ ((M.aQ ad).row (i:=3) U) (by simp[Rec.len ap]) (congrArg List.toArray (Rec.Ht ap))),
   cE U U (fun x w ad ab=>⟨_,_,U,U,U,ar U U T.xx,(wO (l:=aO r.bq++aO r.cd++aO r.bF++r.cD++aO r.cx++r.b3++aO r.c1++aO r.c5++aO r.dw++aO r.dB++r.dt) (s:=r.dI) ((ab 3 U).1.reads 0 U) ap.dI (by simp[aO,ap.cD,ap.b3,ap.dt,ap.dI])).eN ad.size⟩),
   jd U U (fun x w ad ab=>⟨_,_,U,U,U,run_assign U U,bd.refl _,ab 6 U⟩),
   aw U U,ay⟩ ?_)
 intro x fr w ad ab E;have M:=M.jb ad (ab 7 aN).1 (ab 7 aN).2.1;refine cm E<|aU 0 U fun fr E=>?_;refine fN E U U U ?_;exact⟨_,U,M.fin (ni (i:=0) U) trivial⟩
end
section
open Go.RowKit Go.a2 Go.Proofs Go.Proofs.Tryz
theorem p3{b:Value}{l:List UInt8}{w0:World}(v:Int)(ak:Bytes w0 b l)(au:l.length+8<=35184372088832):aY prog 122 [b,aa v] w0 [] (fun s:Value=>s) (fun s=>[.bytes 5 s (l++aO v)]) (fun _=>True):=by
 refine enter (n:=27) func122 U U U ?_;intro fr E;have M:=Mem.begin (Φ:=fun w'=>Bytes w' b l) (Has.nil w0) (fun w' h=>ak.bU h);refine aV E<|cv 1 U fun fr E=>?_;refine dM (sz:=1) (xs:=ao []) E M U U U U U (lP U T.aG U) (rfl) (Nat.le_refl _) aN (rfl) fun o fr w M E=>?_;refine cw E<|cv 1 U fun fr E=>?_;refine fX (i:=0) E M U U U U U U U U U U U T.aG T.aG T.eh T.ef M.fact (by simp;omega) fun o fr w M E=>?_;refine cw E<|a1 (y:=IntKind.u64.wrap v) 2 U U (rfl)<|bw 2 U fun fr E=>?_;refine cI (fun d fr w=>∃(j:Nat) (jR:Value),d=j/\True/\j<=8/\Env [(7,aa ((j:Int)-1)),(6,ab0 (IntKind.u64.wrap v)),(5,jR)] 27 fr/\Mem w0 (aS []) [.bytes 5 jR (l++(aO v).take (8-j))] (fun w'=>Bytes w' b l) w) (8) ?_ ?_
 ·refine⟨8,_,U,ay,by omega,E.lL [5,6,7] rfl,M.as (by simp)⟩
 ·clear E M;rintro d fr w ⟨j,jR,aT,_,hle,E,M⟩;by_cases ax:1<=j
  ·refine bA E<|bD 1 U U ae<|a1 (y:=8*((j:Int)-1)) 4 U U (br ae ae)<|a1 (y:=8*((j:Int)-1)) 0 U U (mM ae ae)<|ah (v:=ab0 _) 0 U (q6 U U U ae U)<|a1 (y:=(((aO v)[8-j]'(by rw[eo];omega)).toNat:Int)) 0 U U (tJ v ax hle)<|cv 0 U fun fr E=>?_;refine dM (sz:=1) (xs:=ao [(aO v)[8-j]'(by rw[eo];omega)]) E M U U U U U (ev (us:=[_]) (vs:=[_]) U U U T.aG T.bf T.gO U U U U U) (rfl) (Nat.le_refl _) aN (rfl) fun t fr w M E=>?_;refine fX (i:=1) E M U U U U U U U U U U U T.aG T.aG T.eh T.ef (M.reads 0 U) (by simp[eo];omega) fun o fr w M E=>?_;refine cw E<|a1 (y:=((j-1:Nat):Int)-1) 2 U U ((br ae ae).trans ae)<|ct 1 U fun fr E=>?_;refine⟨j-1,by omega,j-1,_,U,ay,by omega,E.lL [5,6,7] rfl,(M.sub (.cons _ (.refl _))).as ?_⟩;rw[List.append_assoc,<-List.take_succ_eq_append_getElem,show 8-j+1=8-(j-1) by omega];rfl
  ·obtain rfl:j=0:=by omega
   refine bA E<|bs 1 U U ae<|aU 3 U fun fr E=>?_;refine bi E U U ?_;exact⟨_,U,M.fin (.refl _) trivial⟩
theorem wN{b:Value}{l s:List UInt8}{w0:World}(ak:Bytes w0 b l)(aP:s.length=32)(au:l.length+32<=35184372088832):aY prog 123 [b,.agg (ao s).toArray] w0 [] (fun s:Value=>s) (fun r=>[.bytes 5 r (l++s)]) (fun _=>True):=by
 refine enter (n:=21) func123 U U U ?_;intro fr E;have M:=Mem.begin (Φ:=fun w'=>Bytes w' b l) (Has.nil w0) (fun w' h=>ak.bU h);refine aV E<|bh (ob:=.cells ((ao s).toArray) 39) (fun g=>ai g 0) M 0 U (cS (cs:=((ao s).toArray)) U U) fun aZ w M=>cv 1 U fun fr E=>?_;refine dM (sz:=1) (xs:=ao []) E M U U U U U (lP U T.aG U) (rfl) (Nat.le_refl _) aN (rfl) fun o fr w M E=>?_;refine cw E<|cv 1 U fun fr E=>?_;refine fX (i:=0) E M U U U U U U U U U U U T.aG T.aG T.eh T.ef M.fact (by simp;omega) fun o fr w M E=>?_;refine cw E<|bw 2 U fun fr E=>?_;refine cI (fun d fr w=>∃(i:Nat) (jR:Value),d=32-i/\i<=32/\Env [(6,aa i),(5,jR),(3,ai aZ 0)] 21 fr/\Mem w0 (aS []) [.bytes 5 jR (l++s.take i),.bb aZ (.cells (ao s).toArray 39)] (fun w'=>Bytes w' b l) w) (32) ?_ ?_
 ·refine⟨0,_,U,by omega,E.lL [3,5,6] rfl,M.as (by simp)⟩
 ·clear E M;rintro d fr w ⟨i,jR,aT,hle,E,M⟩;by_cases hi:i<32
  ·refine bA E<|bD 1 U U ae<|ah (v:=ai _ (0+i*1)) 3 U (dm (i:=i) U U U (rfl) (hi) T.iB T.bf)<|ah (v:=ag ((s[i]'ae).toNat:Int)) 0 U (aE U U T.cq (M.row (i:=1) U) (by rw[Nat.zero_add,Nat.mul_one];simpa using gx (l:=s) ae))<|cv 0 U fun fr E=>?_;refine dM (sz:=1) (xs:=ao [s[i]'ae]) E M U U U U U (ev (us:=[_]) (vs:=[_]) U U U T.aG T.bf T.gO U U U U U) (rfl) (Nat.le_refl _) aN (rfl) fun t fr w M E=>?_;refine fX (i:=1) E M U U U U U U U U U U U T.aG T.aG T.eh T.ef (M.reads 0 U) (by simp;omega) fun o fr w M E=>?_;refine cw E<|a1 (y:=((i+1:Nat):Int)) 2 U U ((br ae ae).trans ae)<|ct 1 U fun fr E=>?_;refine⟨32-(i+1),by omega,i+1,_,U,by omega,E.lL [3,5,6] rfl,(M.sub (.cons _ (.refl _))).as ?_⟩;rw[List.append_assoc,<-List.take_succ_eq_append_getElem];rfl
  ·obtain rfl:i=32:=by omega
   refine bA E<|ch 1 U U (rfl)<|aU 3 U fun fr E=>?_;refine bi E U U ?_;have M:=M.as (L':=[.bytes 5 jR (l++s),.bb aZ (.cells (ao s).toArray 39)]) (by rw[<-aP,List.take_length]);exact⟨_,U,M.fin (ni (i:=0) U) trivial⟩
theorem M9{b:Value}{l s:List UInt8}{a:Int}{w0:World}(ak:Bytes w0 b l)(aP:s.length=32)(au:l.length+40<=35184372088832):aY prog 124 [b,.agg (aa a::ao s).toArray] w0 [] (fun s:Value=>s) (fun r=>[.bytes 5 r (l++aO a++s)]) (fun _=>True):=by
 refine enter (n:=12) func124 U U U ?_;intro fr E;have M:=Mem.begin (Φ:=fun w'=>Bytes w' b l) (Has.nil w0) (fun w' h=>ak.bU h);refine aV E<|bh (ob:=.cells ((aa a::ao s).toArray) 41) (fun g=>ai g 0) M 0 U (cS (cs:=((aa a::ao s).toArray)) U U) fun aZ w M=>bw 1 U fun fr E=>?_;refine(dR (B:=T.JB) (Vs:=(.af _:: .af (ai _ 0):: .af (aa _)::cV w.heap.size (fun v=>[.bytes 5 v (l++aO a)]) (fun _=>True):: .af (ai _ 1):: .af (.agg (ao s).toArray)::cV w.heap.size (fun v=>[.bytes 5 v (l++aO a++s)]) (fun _=>True)::cV w.heap.size (fun v=>[.bytes 5 v (l++aO a++s)]) (fun _=>True)::[])) T.XJ E T.mixed T.XI U (fH.dF ⟨ay,ay,ay,cn.df,ay,ay,cn.df,cn.df,ay⟩) ⟨aw U U,
   aw U U,
   aC U U (fun x w ad ab=>aE U U T.bc ((M.aQ ad).row (i:=0) U) U),
   cE U U (fun x w ad ab=>⟨_,_,U,U,U,ar U U T.qo,(p3 a (M.aQ ad).fact ae).eN ad.size⟩),
   aw U U,
   aC U U (fun x w ad ab=>gb (vs:=(ao s).toArray) U U T.gJ ((M.aQ ad).row (i:=0) U) (by simp[aP]) (by simp[C8,aP])),
   cE U U (fun x w ad ab=>⟨_,_,U,U,U,ar U U T.xq,(wN (s:=s) ((ab 3 U).1.reads 0 U) aP (by simp[aO];omega)).eN ad.size⟩),
   jd U U (fun x w ad ab=>⟨_,_,U,U,U,run_assign U U,bd.refl _,ab 6 U⟩),ay⟩ ?_)
 intro x fr w ad ab E;have M:=M.jb ad (ab 7 aN).1 (ab 7 aN).2.1;refine cm E<|aU 0 U fun fr E=>?_;refine bi E U U ?_;exact⟨_,U,M.fin (ni (i:=0) U) trivial⟩
end
section
open Go.RowKit Go.a2 Go.Proofs Go.Proofs.Tryz
def cU(l:List Int):List UInt8:=(l.map aO).flatten
theorem Uc(l:List Int):(cU l).length=l.length*8:=by
 induction l with
 |nil=>rfl
 |cons x r ck=>simp only[cU,List.map_cons,List.flatten_cons,List.length_append,eo,List.length_cons]at*;omega
theorem Ud{l:List Int}{i:Nat}(h:i<l.length):cU (l.take (i+1))=cU (l.take i)++aO l[i]:=by
 unfold cU;rw[List.take_succ_eq_append_getElem h,List.map_append,List.flatten_append];simp only[List.map_cons,List.map_nil,List.flatten_cons,List.flatten_nil,List.append_nil]
theorem VU{l:List UInt8}{n k:Nat}(ab:k<l.length)(h:l=List.replicate n 0):l[k]=0:=by subst h;simp
theorem Mx{r:Rec}{w0:World}(ap:r.Ok)(bG:¬fP r.bq):bH prog 121 [r.val] w0 (.bool false):=by
 refine enter (n:=56) func121 U U U ?_;intro fr E;have M:=ht (Has.nil w0);refine aV E<|bh (ob:=.cells (r.cells.toArray) 45) (fun g=>ai g 0) M 0 U (cS (cs:=(r.cells.toArray)) U U) fun aZ w M=>ah (v:=aa _) 2 U (aE U U T.bc (M.row (i:=0) U) Rec.jv)<|bo M 0 U (ar U U T.jw) (jC _ _) fun w M=>fun fr E=>?_;rw[decide_eq_false (by exact bG)]at E;refine bN E<|ah (v:=.bool _) 0 U U<|ah (v:=.bool _) 5 U U<|ah (v:=.bool _) 5 U U<|ah (v:=.bool _) 5 U U<|ah (v:=.bool _) 5 U U<|aU 2 U fun fr E=>?_;refine bi E U U ?_;exact bX M
theorem My{r:Rec}{w0:World}(ap:r.Ok)(bG:fP r.bq)(aj:¬fP r.cd):bH prog 121 [r.val] w0 (.bool false):=by
 refine enter (n:=56) func121 U U U ?_;intro fr E;have M:=ht (Has.nil w0);refine aV E<|bh (ob:=.cells (r.cells.toArray) 45) (fun g=>ai g 0) M 0 U (cS (cs:=(r.cells.toArray)) U U) fun aZ w M=>ah (v:=aa _) 2 U (aE U U T.bc (M.row (i:=0) U) Rec.jv)<|bo M 0 U (ar U U T.jw) (jC _ _) fun w M=>fun fr E=>?_;rw[decide_eq_true (by exact bG)]at E;refine bN E<|ah (v:=.bool _) 0 U U<|ah (v:=aa _) 2 U (aE U U T.bc (M.row (i:=0) U) Rec.h1)<|bo M 0 U (ar U U T.jw) (jC _ _) fun w M=>fun fr E=>?_;rw[decide_eq_false (by exact aj)]at E;refine bN E<|ah (v:=.bool _) 0 U U<|ah (v:=.bool _) 0 U U<|ah (v:=.bool _) 5 U U<|ah (v:=.bool _) 5 U U<|ah (v:=.bool _) 5 U U<|aU 2 U fun fr E=>?_;refine bi E U U ?_;exact bX M
theorem Mz{r:Rec}{w0:World}(ap:r.Ok)(bG:fP r.bq)(aj:fP r.cd)(an:¬fP r.bF):bH prog 121 [r.val] w0 (.bool false):=by
 refine enter (n:=56) func121 U U U ?_;intro fr E;have M:=ht (Has.nil w0);refine aV E<|bh (ob:=.cells (r.cells.toArray) 45) (fun g=>ai g 0) M 0 U (cS (cs:=(r.cells.toArray)) U U) fun aZ w M=>ah (v:=aa _) 2 U (aE U U T.bc (M.row (i:=0) U) Rec.jv)<|bo M 0 U (ar U U T.jw) (jC _ _) fun w M=>fun fr E=>?_;rw[decide_eq_true (by exact bG)]at E;refine bN E<|ah (v:=.bool _) 0 U U<|ah (v:=aa _) 2 U (aE U U T.bc (M.row (i:=0) U) Rec.h1)<|bo M 0 U (ar U U T.jw) (jC _ _) fun w M=>fun fr E=>?_;rw[decide_eq_true (by exact aj)]at E;refine bN E<|ah (v:=.bool _) 0 U U<|ah (v:=.bool _) 0 U U<|ah (v:=aa _) 2 U (aE U U T.bc (M.row (i:=0) U) Rec.ho)<|bo M 0 U (ar U U T.jw) (jC _ _) fun w M=>fun fr E=>?_;rw[decide_eq_false (by exact an)]at E;refine bN E<|ah (v:=.bool _) 0 U U<|ah (v:=.bool _) 0 U U<|ah (v:=.bool _) 5 U U<|ah (v:=.bool _) 5 U U<|aU 2 U fun fr E=>?_;refine bi E U U ?_;exact bX M
theorem MA{r:Rec}{w0:World}(ap:r.Ok)(bG:fP r.bq)(aj:fP r.cd)(an:fP r.bF)(aB:¬gh r.c1 r.c5):bH prog 121 [r.val] w0 (.bool false):=by
 refine enter (n:=56) func121 U U U ?_;intro fr E;have M:=ht (Has.nil w0);refine aV E<|bh (ob:=.cells (r.cells.toArray) 45) (fun g=>ai g 0) M 0 U (cS (cs:=(r.cells.toArray)) U U) fun aZ w M=>ah (v:=aa _) 2 U (aE U U T.bc (M.row (i:=0) U) Rec.jv)<|bo M 0 U (ar U U T.jw) (jC _ _) fun w M=>fun fr E=>?_;rw[decide_eq_true (by exact bG)]at E;refine bN E<|ah (v:=.bool _) 0 U U<|ah (v:=aa _) 2 U (aE U U T.bc (M.row (i:=0) U) Rec.h1)<|bo M 0 U (ar U U T.jw) (jC _ _) fun w M=>fun fr E=>?_;rw[decide_eq_true (by exact aj)]at E;refine bN E<|ah (v:=.bool _) 0 U U<|ah (v:=.bool _) 0 U U<|ah (v:=aa _) 2 U (aE U U T.bc (M.row (i:=0) U) Rec.ho)<|bo M 0 U (ar U U T.jw) (jC _ _) fun w M=>fun fr E=>?_;rw[decide_eq_true (by exact an)]at E;refine bN E<|ah (v:=.bool _) 0 U U<|ah (v:=.bool _) 0 U U<|ah (v:=.agg ([aW r.c1,aW r.c5]).toArray) 2 U (gb (vs:=([aW r.c1,aW r.c5]).toArray) U U T.kE (M.row (i:=0) U) (by simp[Rec.len ap]) (congrArg List.toArray (Rec.nN ap)))<|bo M 0 U (ar U U T.pf) (pK _ _ _) fun w M=>fun fr E=>?_;rw[decide_eq_false (by exact aB)]at E;refine bN E<|ah (v:=.bool _) 0 U U<|ah (v:=.bool _) 0 U U<|ah (v:=.bool _) 5 U U<|aU 2 U fun fr E=>?_;refine bi E U U ?_;exact bX M
theorem MB{r:Rec}{w0:World}(ap:r.Ok)(bG:fP r.bq)(aj:fP r.cd)(an:fP r.bF)(aB:gh r.c1 r.c5)(be:¬gh r.dw r.dB):bH prog 121 [r.val] w0 (.bool false):=by
 refine enter (n:=56) func121 U U U ?_;intro fr E;have M:=ht (Has.nil w0);refine aV E<|bh (ob:=.cells (r.cells.toArray) 45) (fun g=>ai g 0) M 0 U (cS (cs:=(r.cells.toArray)) U U) fun aZ w M=>ah (v:=aa _) 2 U (aE U U T.bc (M.row (i:=0) U) Rec.jv)<|bo M 0 U (ar U U T.jw) (jC _ _) fun w M=>fun fr E=>?_;rw[decide_eq_true (by exact bG)]at E;refine bN E<|ah (v:=.bool _) 0 U U<|ah (v:=aa _) 2 U (aE U U T.bc (M.row (i:=0) U) Rec.h1)<|bo M 0 U (ar U U T.jw) (jC _ _) fun w M=>fun fr E=>?_;rw[decide_eq_true (by exact aj)]at E;refine bN E<|ah (v:=.bool _) 0 U U<|ah (v:=.bool _) 0 U U<|ah (v:=aa _) 2 U (aE U U T.bc (M.row (i:=0) U) Rec.ho)<|bo M 0 U (ar U U T.jw) (jC _ _) fun w M=>fun fr E=>?_;rw[decide_eq_true (by exact an)]at E;refine bN E<|ah (v:=.bool _) 0 U U<|ah (v:=.bool _) 0 U U<|ah (v:=.agg ([aW r.c1,aW r.c5]).toArray) 2 U (gb (vs:=([aW r.c1,aW r.c5]).toArray) U U T.kE (M.row (i:=0) U) (by simp[Rec.len ap]) (congrArg List.toArray (Rec.nN ap)))<|bo M 0 U (ar U U T.pf) (pK _ _ _) fun w M=>fun fr E=>?_;rw[decide_eq_true (by exact aB)]at E;refine bN E<|ah (v:=.bool _) 0 U U<|ah (v:=.bool _) 0 U U<|ah (v:=.agg ([aW r.dw,aW r.dB]).toArray) 2 U (gb (vs:=([aW r.dw,aW r.dB]).toArray) U U T.kE (M.row (i:=0) U) (by simp[Rec.len ap]) (congrArg List.toArray (Rec.qS ap)))<|bo M 0 U (ar U U T.pf) (pK _ _ _) fun w M=>fun fr E=>?_;rw[decide_eq_false (by exact be)]at E;refine bN E<|ah (v:=.bool _) 0 U U<|ah (v:=.bool _) 0 U U<|aU 2 U fun fr E=>?_;refine bi E U U ?_;exact bX M
theorem MD{r:Rec}{w0:World}(ap:r.Ok)(bG:fP r.bq)(aj:fP r.cd)(an:fP r.bF)(RT:gh r.c1 r.c5)(be:gh r.dw r.dB)(au:¬r.cx=0)(aB:¬3<=r.cx):bH prog 121 [r.val] w0 (.bool false):=by
 refine enter (n:=56) func121 U U U ?_;intro fr E;have M:=ht (Has.nil w0);refine aV E<|bh (ob:=.cells (r.cells.toArray) 45) (fun g=>ai g 0) M 0 U (cS (cs:=(r.cells.toArray)) U U) fun aZ w M=>ah (v:=aa _) 2 U (aE U U T.bc (M.row (i:=0) U) Rec.jv)<|bo M 0 U (ar U U T.jw) (jC _ _) fun w M=>fun fr E=>?_;rw[decide_eq_true (by exact bG)]at E;refine bN E<|ah (v:=.bool _) 0 U U<|ah (v:=aa _) 2 U (aE U U T.bc (M.row (i:=0) U) Rec.h1)<|bo M 0 U (ar U U T.jw) (jC _ _) fun w M=>fun fr E=>?_;rw[decide_eq_true (by exact aj)]at E;refine bN E<|ah (v:=.bool _) 0 U U<|ah (v:=.bool _) 0 U U<|ah (v:=aa _) 2 U (aE U U T.bc (M.row (i:=0) U) Rec.ho)<|bo M 0 U (ar U U T.jw) (jC _ _) fun w M=>fun fr E=>?_;rw[decide_eq_true (by exact an)]at E;refine bN E<|ah (v:=.bool _) 0 U U<|ah (v:=.bool _) 0 U U<|ah (v:=.agg ([aW r.c1,aW r.c5]).toArray) 2 U (gb (vs:=([aW r.c1,aW r.c5]).toArray) U U T.kE (M.row (i:=0) U) (by simp[Rec.len ap]) (congrArg List.toArray (Rec.nN ap)))<|bo M 0 U (ar U U T.pf) (pK _ _ _) fun w M=>fun fr E=>?_;rw[decide_eq_true (by exact RT)]at E;refine bN E<|ah (v:=.bool _) 0 U U<|ah (v:=.bool _) 0 U U<|ah (v:=.agg ([aW r.dw,aW r.dB]).toArray) 2 U (gb (vs:=([aW r.dw,aW r.dB]).toArray) U U T.kE (M.row (i:=0) U) (by simp[Rec.len ap]) (congrArg List.toArray (Rec.qS ap)))<|bo M 0 U (ar U U T.pf) (pK _ _ _) fun w M=>fun fr E=>?_;rw[decide_eq_true (by exact be)]at E;refine bN E<|ah (v:=.bool _) 0 U U<|ah (v:=.bool _) 0 U U<|ah (v:=aa _) 3 U (aE U U T.bc (M.row (i:=0) U) (Rec.nx ap))<|bs 0 U U au<|ah (v:=aa _) 3 U (aE U U T.bc (M.row (i:=0) U) (Rec.nx ap))<|bs 0 U U aB<|ah (v:=.bool _) 5 U U<|aU 1 U fun fr E=>?_;refine bi E U U ?_;exact bX M
theorem MC{r:Rec}{w0:World}(ap:r.Ok)(bG:fP r.bq)(aj:fP r.cd)(an:fP r.bF)(aB:gh r.c1 r.c5)(be:gh r.dw r.dB)(au:¬r.cx=0)(RU:3<=r.cx):bH prog 121 [r.val] w0 (.bool (decide (r.cx<4096))):=by
 refine enter (n:=56) func121 U U U ?_;intro fr E;have M:=ht (Has.nil w0);refine aV E<|bh (ob:=.cells (r.cells.toArray) 45) (fun g=>ai g 0) M 0 U (cS (cs:=(r.cells.toArray)) U U) fun aZ w M=>ah (v:=aa _) 2 U (aE U U T.bc (M.row (i:=0) U) Rec.jv)<|bo M 0 U (ar U U T.jw) (jC _ _) fun w M=>fun fr E=>?_;rw[decide_eq_true (by exact bG)]at E;refine bN E<|ah (v:=.bool _) 0 U U<|ah (v:=aa _) 2 U (aE U U T.bc (M.row (i:=0) U) Rec.h1)<|bo M 0 U (ar U U T.jw) (jC _ _) fun w M=>fun fr E=>?_;rw[decide_eq_true (by exact aj)]at E;refine bN E<|ah (v:=.bool _) 0 U U<|ah (v:=.bool _) 0 U U<|ah (v:=aa _) 2 U (aE U U T.bc (M.row (i:=0) U) Rec.ho)<|bo M 0 U (ar U U T.jw) (jC _ _) fun w M=>fun fr E=>?_;rw[decide_eq_true (by exact an)]at E;refine bN E<|ah (v:=.bool _) 0 U U<|ah (v:=.bool _) 0 U U<|ah (v:=.agg ([aW r.c1,aW r.c5]).toArray) 2 U (gb (vs:=([aW r.c1,aW r.c5]).toArray) U U T.kE (M.row (i:=0) U) (by simp[Rec.len ap]) (congrArg List.toArray (Rec.nN ap)))<|bo M 0 U (ar U U T.pf) (pK _ _ _) fun w M=>fun fr E=>?_;rw[decide_eq_true (by exact aB)]at E;refine bN E<|ah (v:=.bool _) 0 U U<|ah (v:=.bool _) 0 U U<|ah (v:=.agg ([aW r.dw,aW r.dB]).toArray) 2 U (gb (vs:=([aW r.dw,aW r.dB]).toArray) U U T.kE (M.row (i:=0) U) (by simp[Rec.len ap]) (congrArg List.toArray (Rec.qS ap)))<|bo M 0 U (ar U U T.pf) (pK _ _ _) fun w M=>fun fr E=>?_;rw[decide_eq_true (by exact be)]at E;refine bN E<|ah (v:=.bool _) 0 U U<|ah (v:=.bool _) 0 U U<|ah (v:=aa _) 3 U (aE U U T.bc (M.row (i:=0) U) (Rec.nx ap))<|bs 0 U U au<|ah (v:=aa _) 3 U (aE U U T.bc (M.row (i:=0) U) (Rec.nx ap))<|ei 0 U U (decide_eq_true RU)<|ah (v:=aa _) 3 U (aE U U T.bc (M.row (i:=0) U) (Rec.nx ap))<|ah (v:=.bool _) 0 U U<|ah (v:=.bool _) 0 U U<|aU 1 U fun fr E=>?_;refine bi E U U ?_;exact bX M
theorem ME{r:Rec}{w0:World}(ap:r.Ok)(bG:fP r.bq)(aj:fP r.cd)(an:fP r.bF)(aB:gh r.c1 r.c5)(be:gh r.dw r.dB)(au:r.cx=0):bH prog 121 [r.val] w0 (.bool (decide (r.b3=List.replicate 32 0))):=by
 refine enter (n:=56) func121 U U U ?_;intro fr E;have M:=ht (Has.nil w0);refine aV E<|bh (ob:=.cells (r.cells.toArray) 45) (fun g=>ai g 0) M 0 U (cS (cs:=(r.cells.toArray)) U U) fun aZ w M=>ah (v:=aa _) 2 U (aE U U T.bc (M.row (i:=0) U) Rec.jv)<|bo M 0 U (ar U U T.jw) (jC _ _) fun w M=>fun fr E=>?_;rw[decide_eq_true (by exact bG)]at E;refine bN E<|ah (v:=.bool _) 0 U U<|ah (v:=aa _) 2 U (aE U U T.bc (M.row (i:=0) U) Rec.h1)<|bo M 0 U (ar U U T.jw) (jC _ _) fun w M=>fun fr E=>?_;rw[decide_eq_true (by exact aj)]at E;refine bN E<|ah (v:=.bool _) 0 U U<|ah (v:=.bool _) 0 U U<|ah (v:=aa _) 2 U (aE U U T.bc (M.row (i:=0) U) Rec.ho)<|bo M 0 U (ar U U T.jw) (jC _ _) fun w M=>fun fr E=>?_;rw[decide_eq_true (by exact an)]at E;refine bN E<|ah (v:=.bool _) 0 U U<|ah (v:=.bool _) 0 U U<|ah (v:=.agg ([aW r.c1,aW r.c5]).toArray) 2 U (gb (vs:=([aW r.c1,aW r.c5]).toArray) U U T.kE (M.row (i:=0) U) (by simp[Rec.len ap]) (congrArg List.toArray (Rec.nN ap)))<|bo M 0 U (ar U U T.pf) (pK _ _ _) fun w M=>fun fr E=>?_;rw[decide_eq_true (by exact aB)]at E;refine bN E<|ah (v:=.bool _) 0 U U<|ah (v:=.bool _) 0 U U<|ah (v:=.agg ([aW r.dw,aW r.dB]).toArray) 2 U (gb (vs:=([aW r.dw,aW r.dB]).toArray) U U T.kE (M.row (i:=0) U) (by simp[Rec.len ap]) (congrArg List.toArray (Rec.qS ap)))<|bo M 0 U (ar U U T.pf) (pK _ _ _) fun w M=>fun fr E=>?_;rw[decide_eq_true (by exact be)]at E;refine bN E<|ah (v:=.bool _) 0 U U<|ah (v:=.bool _) 0 U U<|ah (v:=aa _) 3 U (aE U U T.bc (M.row (i:=0) U) (Rec.nx ap))<|bD 0 U U au<|bw 2 U fun fr E=>?_;refine cI (fun d fr w=>∃i:Nat,d=32-i/\i<=32/\(∀j,j<i->∀ax:j<r.b3.length,r.b3[j]=0)/\Env [(3,aa i),(1,ai aZ 0)] 56 fr/\Mem w0 (aS []) [.bb aZ (.cells r.cells.toArray 45)] (fun _=>True) w) (32) ?_ ?_
 ·refine⟨0,U,by omega,fun j ax=>absurd ax ae,E.lL [1,3] rfl,M⟩
 ·clear E M;rintro d fr w ⟨i,aT,hle,eB,E,M⟩;by_cases hi:i<32
  ·by_cases aJ:r.b3[i]'(by rw[ap.b3];exact hi)=0
   ·refine bA E<|bD 1 U U ae<|ah (v:=ai _ (36+i*1)) 4 U (dm (i:=i) U U U (rfl) (hi) T.iB T.bf)<|ah (v:=ag ((r.b3[i]'(by rw[ap.b3];exact hi)).toNat:Int)) 0 U (aE U U T.cq (M.row (i:=0) U) (by rw[Nat.mul_one];exact Rec.EJ ap hi))<|ch 0 U U (by simp[aJ])<|a1 (y:=((i+1:Nat):Int)) 2 U U ((br ae ae).trans ae)<|ct 1 U fun fr E=>?_;refine⟨32-(i+1),by omega,i+1,U,by omega,fun j ax hc=>?_,E.lL [1,3] rfl,M⟩;rcases Nat.lt_or_eq_of_le (Nat.le_of_lt_succ ax)with h|rfl
    ·exact eB j h hc
    ·exact aJ
   ·refine bA E<|bD 1 U U ae<|ah (v:=ai _ (36+i*1)) 4 U (dm (i:=i) U U U (rfl) (hi) T.iB T.bf)<|ah (v:=ag ((r.b3[i]'(by rw[ap.b3];exact hi)).toNat:Int)) 0 U (aE U U T.cq (M.row (i:=0) U) (by rw[Nat.mul_one];exact Rec.EJ ap hi))<|ei 0 U U (by simp;exact fun h=>aJ (UInt8.toNat_inj.1 h))<|aU 2 U fun fr E=>?_;refine bi E U U ?_;rw[decide_eq_false (fun h=>aJ (VU _ h))];exact bX M
  ·obtain rfl:i=32:=by omega
   refine bA E<|ch 1 U U (rfl)<|aU 2 U fun fr E=>?_;refine bi E U U ?_;rw[decide_eq_true (List.ext_getElem (by simp[ap.b3]) fun j aj an=>(eB j (by simpa using an) aj).trans (List.getElem_replicate ..).symm)];exact bX M
theorem wM{r:Rec}(ap:r.Ok)(w0:World):bH prog 121 [r.val] w0 (.bool (decide r.fA)):=by
 by_cases bG:fP r.bq
 ·by_cases aj:fP r.cd
  ·by_cases an:fP r.bF
   ·by_cases aB:gh r.c1 r.c5
    ·by_cases be:gh r.dw r.dB
     ·by_cases au:r.cx=0
      ·have e:decide r.fA=decide (r.b3=List.replicate 32 0):=decide_eq_decide.2 ⟨fun h=>h.2.1.elim And.right fun c=>by omega,fun h=>⟨⟨bG,aj,an⟩,.inl ⟨au,h⟩,aB,be⟩⟩;rw[e];exact ME ap bG aj an aB be au
      ·by_cases bZ:3<=r.cx
       ·have e:decide r.fA=decide (r.cx<4096):=decide_eq_decide.2 ⟨fun h=>h.2.1.elim (fun c=>absurd c.1 au) fun c=>by omega,fun h=>⟨⟨bG,aj,an⟩,.inr ⟨bZ,by omega⟩,aB,be⟩⟩;rw[e];exact MC ap bG aj an aB be au bZ
       ·rw[decide_eq_false (fun h=>h.2.1.elim (fun c=>au c.1) fun c=>bZ c.1)];exact MD ap bG aj an aB be au bZ
     ·rw[decide_eq_false (fun h=>be h.2.2.2)];exact MB ap bG aj an aB be
    ·rw[decide_eq_false (fun h=>aB h.2.2.1)];exact MA ap bG aj an aB
   ·rw[decide_eq_false (fun h=>an h.1.2.2)];exact Mz ap bG aj an
  ·rw[decide_eq_false (fun h=>aj h.1.2.1)];exact My ap bG aj
 ·rw[decide_eq_false (fun h=>bG h.1.1)];exact Mx ap bG
theorem MS{r:Rec}{w0:World}(ap:r.Ok)(hm:¬r.fA):bH prog 66 [r.val] w0 (.tuple #[.slice none 0 0,aa 7]):=by
 refine enter (n:=60) func66 U U U ?_;intro fr E;have M:=ht (Has.nil w0);refine aV E<|bh (ob:=.cells (r.cells.toArray) 45) (fun g=>ai g 0) M 0 U (cS (cs:=(r.cells.toArray)) U U) fun aZ w M=>ah (v:=.agg r.cells.toArray) 2 U (cW U U T.da (M.row (i:=0) U) (Rec.size ap))<|bo M 0 U (ar U U T.xp) (wM ap _) fun w M=>fun fr E=>?_;rw[decide_eq_false hm]at E;refine bN E<|ah (v:=.bool _) 0 U U<|aU 3 U fun fr E=>?_;refine fN E U U U ?_;exact bX M
theorem DO{r:Rec}{w0:World}(ap:r.Ok)(hm:r.fA):aY prog 66 [r.val] w0 [] (fun s:Value=>.tuple #[s,aa 0]) (fun s=>[.bytes 5 s r.bytes]) (fun _=>True):=by
 refine enter (n:=60) func66 U U U ?_;intro fr E;have M:=ht (Has.nil w0);refine aV E<|bh (ob:=.cells (r.cells.toArray) 45) (fun g=>ai g 0) M 0 U (cS (cs:=(r.cells.toArray)) U U) fun aZ w M=>ah (v:=.agg r.cells.toArray) 2 U (cW U U T.da (M.row (i:=0) U) (Rec.size ap))<|bo M 0 U (ar U U T.xp) (wM ap _) fun w M=>fun fr E=>?_;rw[decide_eq_true hm]at E;refine bN E<|ah (v:=.bool _) 0 U U<|ah (v:=aa _) 2 U (aE U U T.bc (M.row (i:=0) U) Rec.jv)<|cP M 0 U (ar U U T.qo) (p3 (l:=[]) r.bq (Bytes.nil _) (by simp[aO,ap.cD,ap.b3,ap.dt,ap.dI])) U fun s0 w _ M=>ah (v:=aa _) 3 U (aE U U T.bc (M.row (i:=1) U) Rec.h1)<|cP M 0 U (ar U U T.qo) (p3 (l:=[]++aO r.bq) r.cd (M.reads 0 U) (by simp[aO,ap.cD,ap.b3,ap.dt,ap.dI])) U fun s1 w _ M=>ah (v:=aa _) 3 U (aE U U T.bc (M.row (i:=2) U) Rec.ho)<|cP M 0 U (ar U U T.qo) (p3 (l:=[]++aO r.bq++aO r.cd) r.bF (M.reads 0 U) (by simp[aO,ap.cD,ap.b3,ap.dt,ap.dI])) U fun s2 w _ M=>ah (v:=.agg (ao r.cD).toArray) 3 U (gb (vs:=(ao r.cD).toArray) U U T.gJ (M.row (i:=3) U) (by simp[Rec.len ap]) (congrArg List.toArray (Rec.Hs ap)))<|cP M 0 U (ar U U T.xq) (wN (s:=r.cD) (l:=[]++aO r.bq++aO r.cd++aO r.bF) (M.reads 0 U) ap.cD (by simp[aO,ap.cD,ap.b3,ap.dt,ap.dI])) U fun I1 w _ M=>ah (v:=.agg (aW r.cx::ao r.b3).toArray) 3 U (gb (vs:=(aW r.cx::ao r.b3).toArray) U U T.jL (M.row (i:=4) U) (by simp[Rec.len ap]) (congrArg List.toArray (Rec.nO ap)))<|cP M 0 U (ar U U T.Qu) (M9 (a:=r.cx) (s:=r.b3) (l:=[]++aO r.bq++aO r.cd++aO r.bF++r.cD) (M.reads 0 U) ap.b3 (by simp[aO,ap.cD,ap.b3,ap.dt,ap.dI])) U fun sq w _ M=>ah (v:=aa _) 3 U (aE U U T.bc (M.row (i:=5) U) (Rec.PJ ap))<|ah (v:=aa _) 2 U (aE U U T.bc (M.row (i:=5) U) (Rec.PK ap))<|ah (v:=aa _) 2 U (aE U U T.bc (M.row (i:=5) U) (Rec.PL ap))<|ah (v:=aa _) 2 U (aE U U T.bc (M.row (i:=5) U) (Rec.PM ap))<|cv 0 U fun fr E=>?_;refine dM (sz:=1) (xs:=_) E M U U U U U (ev (us:=[_,_,_,_]) (vs:=[_,_,_,_]) U U U T.en T.c3 T.k7 U U U U U) (rfl) (Nat.le_refl _) aN (rfl) fun ym fr w M E=>?_;refine cw E<|bw 2 U fun fr E=>?_;refine cI (fun d fr w=>∃(i:Nat) (jR:Value),d=4-i/\i<=4/\Env [(6,aa i),(5,ym),(4,jR),(1,ai aZ 0)] 60 fr/\Mem w0 (aS []) [.bytes 5 jR ([]++aO r.bq++aO r.cd++aO r.bF++r.cD++aO r.cx++r.b3++cU ([r.c1,r.c5,r.dw,r.dB].take i)),.row 3 1 ym 4 (fg [r.c1,r.c5,r.dw,r.dB]),.bb aZ (.cells r.cells.toArray 45)] (fun _=>True) w) (4) ?_ ?_
 ·have M:=(M.sub (L':=[.row 3 1 ym 4 (fg [r.c1,r.c5,r.dw,r.dB]),.bytes 5 sq ([]++aO r.bq++aO r.cd++aO r.bF++r.cD++aO r.cx++r.b3),.bb aZ (.cells r.cells.toArray 45)]) (.cons_cons _ (.cons_cons _ (.cons _ (.cons _ (.cons _ (.cons _ (.refl _)))))))).perm (L':=[.bytes 5 sq ([]++aO r.bq++aO r.cd++aO r.bF++r.cD++aO r.cx++r.b3),.row 3 1 ym 4 (fg [r.c1,r.c5,r.dw,r.dB]),.bb aZ (.cells r.cells.toArray 45)]) (.swap _ _ _);refine⟨0,_,U,by omega,E.lL [1,4,5,6] rfl,M.as (by simp[cU])⟩
 ·clear E M;rintro d fr w ⟨i,jR,aT,hle,E,M⟩;by_cases hi:i<4
  ·refine bA E<|bD 1 U U ae<|ah 4 U (bL (i:=i) U (M.reads 1 U) U U (rfl) (hi) T.en T.c3)<|ah 0 U (b2 U (M.reads 1 U) U T.bc (by rw[Nat.mul_one];exact kU (l:=[r.c1,r.c5,r.dw,r.dB]) hi))<|cP M 0 U (ar U U T.qo) (p3 _ (M.reads 0 U:Bytes _ _ ([]++aO r.bq++aO r.cd++aO r.bF++r.cD++aO r.cx++r.b3++cU ([r.c1,r.c5,r.dw,r.dB].take i))) (by have:=Uc ([r.c1,r.c5,r.dw,r.dB].take i);rw[List.length_take]at this;simp only[List.length_append,this,eo,ap.cD,ap.b3,List.length_nil];have:=Nat.min_le_left i [r.c1,r.c5,r.dw,r.dB].length;omega)) U fun abB w _ M=>a1 (y:=((i+1:Nat):Int)) 2 U U ((br ae ae).trans ae)<|ct 1 U fun fr E=>?_;refine⟨4-(i+1),by omega,i+1,_,U,by omega,E.lL [1,4,5,6] rfl,(M.sub (L':=[_,_,_]) (.cons_cons _ (.cons _ (.refl _)))).as ?_⟩;rw[List.append_assoc,<-Ud (show i< [r.c1,r.c5,r.dw,r.dB].length from hi)]
  ·obtain rfl:i=4:=by omega
   refine bA E<|ch 1 U U (rfl)<|ah (v:=.agg (ao r.dt).toArray) 3 U (gb (vs:=(ao r.dt).toArray) U U T.gJ (M.row (i:=2) U) (by simp[Rec.len ap]) (congrArg List.toArray (Rec.Hr ap)))<|cP M 0 U (ar U U T.xq) (wN (l:=[]++aO r.bq++aO r.cd++aO r.bF++r.cD++aO r.cx++r.b3++cU ([r.c1,r.c5,r.dw,r.dB].take 4)) (s:=r.dt) (M.reads 0 U) ap.dt (by simp[cU,aO,ap.cD,ap.b3])) U fun cz w _ M=>ah (v:=.agg (ao r.dI).toArray) 3 U (gb (vs:=(ao r.dI).toArray) U U T.gJ (M.row (i:=3) U) (by simp[Rec.len ap]) (congrArg List.toArray (Rec.Ht ap)))<|cP M 0 U (ar U U T.xq) (wN (l:=[]++aO r.bq++aO r.cd++aO r.bF++r.cD++aO r.cx++r.b3++cU ([r.c1,r.c5,r.dw,r.dB].take 4)++r.dt) (s:=r.dI) (M.reads 0 U) ap.dI (by simp[cU,aO,ap.cD,ap.b3,ap.dt])) U fun c6 w _ M=>aU 2 U fun fr E=>?_;refine fN E U U U ?_;have M:=(M.sub (L':=[.bytes 5 c6 ([]++aO r.bq++aO r.cd++aO r.bF++r.cD++aO r.cx++r.b3++cU ([r.c1,r.c5,r.dw,r.dB].take 4)++r.dt++r.dI)]) (ni (i:=0) rfl)).as (L':=[.bytes 5 c6 r.bytes]) (by simp[cU,Rec.bytes,List.append_assoc]);exact⟨_,U,M.fin (.refl _) trivial⟩
end
section
open Go.RowKit Go.a2 Go.Proofs Go.Proofs.Tryz
def bK(l:List UInt8):Nat->List UInt8×Bool
 |0=>(l,false)
 |k+1=>eg (match k with|3=>32|4=>40|9=>32|10=>32|_=>8) (bK l k)
theorem Vu(n:Nat)(s:List UInt8×Bool):(eg n s).1.length<=s.1.length:=by unfold eg;split<;>simp
theorem gu(l:List UInt8):∀k,(bK l k).1.length<=l.length
 |0=>Nat.le_refl _
 |k+1=>Nat.le_trans (Vu _ _) (gu l k)
def Rec.j9(l:List UInt8):Rec:={Rec.zero with bq:=db (bK l 0),cd:=db (bK l 1),bF:=db (bK l 2),cD:=eD (bK l 3),cx:=(e8 (bK l 4)).1,b3:=(e8 (bK l 4)).2}
def Rec.q2(l:List UInt8):Rec:={Rec.j9 l with c1:=db (bK l 5),c5:=db (bK l 6)}
def Rec.sk(l:List UInt8):Rec:={Rec.q2 l with dw:=db (bK l 7),dB:=db (bK l 8)}
def Rec.sh(l:List UInt8):Rec:={Rec.sk l with dt:=eD (bK l 9)}
def Rec.read(l:List UInt8):Rec:={Rec.sh l with dI:=eD (bK l 10)}
theorem Rec.oG(l:List UInt8):(Rec.j9 l).Ok:=⟨gB _,h9 _,Rec.e0.dt,Rec.e0.dI⟩
theorem Rec.sj(l:List UInt8):(Rec.q2 l).Ok:=⟨gB _,h9 _,Rec.e0.dt,Rec.e0.dI⟩
theorem Rec.sl(l:List UInt8):(Rec.sk l).Ok:=⟨gB _,h9 _,Rec.e0.dt,Rec.e0.dI⟩
theorem Rec.si(l:List UInt8):(Rec.sh l).Ok:=⟨gB _,h9 _,gB _,Rec.e0.dI⟩
theorem Rec.ly(l:List UInt8):(Rec.read l).Ok:=⟨gB _,h9 _,gB _,gB _⟩
theorem BZ(l:List UInt8):([aW (db (bK l 0)),aW (db (bK l 1)),aW (db (bK l 2)),.agg (ao (eD (bK l 3))).toArray,.agg (aW (e8 (bK l 4)).1::ao (e8 (bK l 4)).2).toArray].map (·.cells.toList)).flatten++(aW 0::aW 0::aW 0::aW 0::(ao (List.replicate 32 0)++ao (List.replicate 32 0)))=(Rec.j9 l).cells:=by
 simp only[List.map_cons,List.map_nil,List.flatten_cons,List.flatten_nil,aW,Value.cells,Rec.j9,Rec.cells,Rec.zero,List.append_nil,List.append_assoc,List.cons_append,List.nil_append]
theorem Mh{b:Value}{l:List UInt8}{w0:World}(ak:Bytes w0 b l)(au:l.length<=35184372088832)(he:ka (bK l 11)≠0):bH prog 68 [b] w0 (.tuple #[Rec.zero.val,aa (ka (bK l 11))]):=by
 refine enter (n:=52) func68 U U U ?_;intro fr E;have M:=Mem.begin (Φ:=fun w'=>Bytes w' b l) (Has.nil w0) (fun w' h=>ak.bU h);refine aV E<|bh (ob:=.cells _ 45) (fun g=>ai g 0) M 0 U (bT U T.fu) fun aZ w M=>cP M 2 U (ar U U T.pc) (o0 M.fact au) U fun⟨g,k1⟩ w _ M=>bC (cr g k1 (bK l 0).1 (bK l 0).2) M 2 U (ar U U T.g0) U (fun H=>gY H (Nat.le_trans (gu l 0) au)) fun ke w _ M=>bC (cr g ke (bK l 1).1 (bK l 1).2) M 1 U (ar U U T.g0) U (fun H=>gY H (Nat.le_trans (gu l 1) au)) fun jF w _ M=>bC (cr g jF (bK l 2).1 (bK l 2).2) M 1 U (ar U U T.g0) U (fun H=>gY H (Nat.le_trans (gu l 2) au)) fun sp w _ M=>bC (cr g sp (bK l 3).1 (bK l 3).2) M 1 U (ar U U T.pd) U (fun H=>o1 H (Nat.le_trans (gu l 3) au)) fun tR w _ M=>bC (cr g tR (bK l 4).1 (bK l 4).2) M 1 U (ar U U T.Au) U (fun H=>zy H (Nat.le_trans (gu l 4) au)) fun wg w _ M=>ah (v:=.agg ((Rec.j9 l).cells).toArray) 0 U (dl (vs:=[aW (db (bK l 0)),aW (db (bK l 1)),aW (db (bK l 2)),.agg (ao (eD (bK l 3))).toArray,.agg (aW (e8 (bK l 4)).1::ao (e8 (bK l 4)).2).toArray]) (us:=(Rec.j9 l).cells) U U T.mL T.mN (by simp[aW,Value.cells,gB,h9]) U U (BZ l))<|bh (ob:=.cells _ 45) (fun g=>ai g 0) M 0 U (bT U T.fu) fun bQ w M=>bj (i:=0) (cs':=(Rec.j9 l).cells.toArray) M 0 U U (cB (vs:=(Rec.j9 l).cells.toArray) U U U T.dV (Rec.size (Rec.oG l)) (M.row (i:=0) U) (rfl) (by simpa using Rec.eX _)) U fun w M=>fun fr E=>?_;have M:=M.aH 2 rfl;have M:=M.aH 2 rfl;refine bN E<|bC (cr g wg (bK l 5).1 (bK l 5).2) M 1 U (ar U U T.g0) U (fun H=>gY H (Nat.le_trans (gu l 5) au)) fun wh w _ M=>bC (cr g wh (bK l 6).1 (bK l 6).2) M 1 U (ar U U T.g0) U (fun H=>gY H (Nat.le_trans (gu l 6) au)) fun wi w _ M=>ah (v:=.agg ([_,_]).toArray) 0 U (dl (vs:=[_,_]) (us:=[_,_]) U U T.ud T.uo U U U U)<|bj (i:=2) (cs':=(Rec.q2 l).cells.toArray) M 1 U U (dr (vs:= #[aW (db (bK l 5)),aW (db (bK l 6))]) U U U T.tZ U (M.row (i:=2) U) (by simp[Rec.len (Rec.oG l)]) U (congrArg List.toArray (Rec.Ck (Rec.oG l) _ _))) U fun w M=>bC (cr g wi (bK l 7).1 (bK l 7).2) M 1 U (ar U U T.g0) U (fun H=>gY H (Nat.le_trans (gu l 7) au)) fun wj w _ M=>bC (cr g wj (bK l 8).1 (bK l 8).2) M 1 U (ar U U T.g0) U (fun H=>gY H (Nat.le_trans (gu l 8) au)) fun wk w _ M=>ah (v:=.agg ([_,_]).toArray) 0 U (dl (vs:=[_,_]) (us:=[_,_]) U U T.ud T.uo U U U U)<|bj (i:=2) (cs':=(Rec.sk l).cells.toArray) M 1 U U (dr (vs:= #[aW (db (bK l 7)),aW (db (bK l 8))]) U U U T.tZ U (M.row (i:=2) U) (by simp[Rec.len (Rec.sj l)]) U (congrArg List.toArray (Rec.Cp (Rec.sj l) _ _))) U fun w M=>bC (cr g wk (bK l 9).1 (bK l 9).2) M 1 U (ar U U T.pd) U (fun H=>o1 H (Nat.le_trans (gu l 9) au)) fun wc w _ M=>bC (cr g wc (bK l 10).1 (bK l 10).2) M 1 U (ar U U T.pd) U (fun H=>o1 H (Nat.le_trans (gu l 10) au)) fun we w _ M=>bj (i:=2) (cs':=(Rec.sh l).cells.toArray) M 1 U U (dr (vs:=(ao (eD (bK l 9))).toArray) U U U T.fF (by simp[gB]) (M.row (i:=2) U) (by simp[Rec.len (Rec.sl l)]) (by simpa using c0 _) (congrArg List.toArray (Rec.tS (Rec.sl l) _))) U fun w M=>bj (i:=2) (cs':=(Rec.read l).cells.toArray) M 1 U U (dr (vs:=(ao (eD (bK l 10))).toArray) U U U T.fF (by simp[gB]) (M.row (i:=2) U) (by simp[Rec.len (Rec.si l)]) (by simpa using c0 _) (congrArg List.toArray (Rec.tT (Rec.si l) _))) U fun w M=>bC (cr g we (bK l 11).1 (bK l 11).2) M 1 U (ar U U T.Av) U (fun H=>zu H (Nat.le_trans (gu l 11) au)) fun _ w _ M=>bs 2 U U he<|ah (v:=.bool _) 4 U U<|ei 2 U U (by simp;exact he)<|ah (v:=.agg (Rec.zero.cells).toArray) 1 U (dl (vs:=[]) (us:=Rec.zero.cells) U U T.mL T.mN (rfl) U U (rfl))<|bj (i:=3) (cs':=Rec.zero.cells.toArray) M 1 U U (cB (vs:=Rec.zero.cells.toArray) U U U T.dV (Rec.size Rec.e0) (M.row (i:=3) U) (rfl) (by simpa using Rec.eX _)) U fun w M=>aU 1 U fun fr E=>?_;refine fW E U U U T.da (M.row (i:=3) U) (Rec.size (Rec.e0)) ?_;exact bX M
theorem Mj{b:Value}{l:List UInt8}{w0:World}(ak:Bytes w0 b l)(au:l.length<=35184372088832)(he:ka (bK l 11)=0)(hm:(Rec.read l).fA):bH prog 68 [b] w0 (.tuple #[(Rec.read l).val,aa 0]):=by
 refine enter (n:=52) func68 U U U ?_;intro fr E;have M:=Mem.begin (Φ:=fun w'=>Bytes w' b l) (Has.nil w0) (fun w' h=>ak.bU h);refine aV E<|bh (ob:=.cells _ 45) (fun g=>ai g 0) M 0 U (bT U T.fu) fun aZ w M=>cP M 2 U (ar U U T.pc) (o0 M.fact au) U fun⟨g,k1⟩ w _ M=>bC (cr g k1 (bK l 0).1 (bK l 0).2) M 2 U (ar U U T.g0) U (fun H=>gY H (Nat.le_trans (gu l 0) au)) fun ke w _ M=>bC (cr g ke (bK l 1).1 (bK l 1).2) M 1 U (ar U U T.g0) U (fun H=>gY H (Nat.le_trans (gu l 1) au)) fun jF w _ M=>bC (cr g jF (bK l 2).1 (bK l 2).2) M 1 U (ar U U T.g0) U (fun H=>gY H (Nat.le_trans (gu l 2) au)) fun sp w _ M=>bC (cr g sp (bK l 3).1 (bK l 3).2) M 1 U (ar U U T.pd) U (fun H=>o1 H (Nat.le_trans (gu l 3) au)) fun tR w _ M=>bC (cr g tR (bK l 4).1 (bK l 4).2) M 1 U (ar U U T.Au) U (fun H=>zy H (Nat.le_trans (gu l 4) au)) fun wg w _ M=>ah (v:=.agg ((Rec.j9 l).cells).toArray) 0 U (dl (vs:=[aW (db (bK l 0)),aW (db (bK l 1)),aW (db (bK l 2)),.agg (ao (eD (bK l 3))).toArray,.agg (aW (e8 (bK l 4)).1::ao (e8 (bK l 4)).2).toArray]) (us:=(Rec.j9 l).cells) U U T.mL T.mN (by simp[aW,Value.cells,gB,h9]) U U (BZ l))<|bh (ob:=.cells _ 45) (fun g=>ai g 0) M 0 U (bT U T.fu) fun bQ w M=>bj (i:=0) (cs':=(Rec.j9 l).cells.toArray) M 0 U U (cB (vs:=(Rec.j9 l).cells.toArray) U U U T.dV (Rec.size (Rec.oG l)) (M.row (i:=0) U) (rfl) (by simpa using Rec.eX _)) U fun w M=>fun fr E=>?_;have M:=M.aH 2 rfl;have M:=M.aH 2 rfl;refine bN E<|bC (cr g wg (bK l 5).1 (bK l 5).2) M 1 U (ar U U T.g0) U (fun H=>gY H (Nat.le_trans (gu l 5) au)) fun wh w _ M=>bC (cr g wh (bK l 6).1 (bK l 6).2) M 1 U (ar U U T.g0) U (fun H=>gY H (Nat.le_trans (gu l 6) au)) fun wi w _ M=>ah (v:=.agg ([_,_]).toArray) 0 U (dl (vs:=[_,_]) (us:=[_,_]) U U T.ud T.uo U U U U)<|bj (i:=2) (cs':=(Rec.q2 l).cells.toArray) M 1 U U (dr (vs:= #[aW (db (bK l 5)),aW (db (bK l 6))]) U U U T.tZ U (M.row (i:=2) U) (by simp[Rec.len (Rec.oG l)]) U (congrArg List.toArray (Rec.Ck (Rec.oG l) _ _))) U fun w M=>bC (cr g wi (bK l 7).1 (bK l 7).2) M 1 U (ar U U T.g0) U (fun H=>gY H (Nat.le_trans (gu l 7) au)) fun wj w _ M=>bC (cr g wj (bK l 8).1 (bK l 8).2) M 1 U (ar U U T.g0) U (fun H=>gY H (Nat.le_trans (gu l 8) au)) fun wk w _ M=>ah (v:=.agg ([_,_]).toArray) 0 U (dl (vs:=[_,_]) (us:=[_,_]) U U T.ud T.uo U U U U)<|bj (i:=2) (cs':=(Rec.sk l).cells.toArray) M 1 U U (dr (vs:= #[aW (db (bK l 7)),aW (db (bK l 8))]) U U U T.tZ U (M.row (i:=2) U) (by simp[Rec.len (Rec.sj l)]) U (congrArg List.toArray (Rec.Cp (Rec.sj l) _ _))) U fun w M=>bC (cr g wk (bK l 9).1 (bK l 9).2) M 1 U (ar U U T.pd) U (fun H=>o1 H (Nat.le_trans (gu l 9) au)) fun wc w _ M=>bC (cr g wc (bK l 10).1 (bK l 10).2) M 1 U (ar U U T.pd) U (fun H=>o1 H (Nat.le_trans (gu l 10) au)) fun we w _ M=>bj (i:=2) (cs':=(Rec.sh l).cells.toArray) M 1 U U (dr (vs:=(ao (eD (bK l 9))).toArray) U U U T.fF (by simp[gB]) (M.row (i:=2) U) (by simp[Rec.len (Rec.sl l)]) (by simpa using c0 _) (congrArg List.toArray (Rec.tS (Rec.sl l) _))) U fun w M=>bj (i:=2) (cs':=(Rec.read l).cells.toArray) M 1 U U (dr (vs:=(ao (eD (bK l 10))).toArray) U U U T.fF (by simp[gB]) (M.row (i:=2) U) (by simp[Rec.len (Rec.si l)]) (by simpa using c0 _) (congrArg List.toArray (Rec.tT (Rec.si l) _))) U fun w M=>bC (cr g we (bK l 11).1 (bK l 11).2) M 1 U (ar U U T.Av) U (fun H=>zu H (Nat.le_trans (gu l 11) au)) fun _ w _ M=>bD 2 U U he<|ah (v:=.agg (Rec.read l).cells.toArray) 1 U (cW U U T.da (M.row (i:=2) U) (Rec.size (Rec.ly l)))<|bo M 0 U (ar U U T.xw) (yd (Rec.ly l) _) fun w M=>fun fr E=>?_;rw[decide_eq_true hm]at E;refine bN E<|ah (v:=.bool _) 0 U U<|ah (v:=.bool _) 0 U U<|ch 2 U U (by simp;exact he)<|ah (v:=.agg (Rec.read l).cells.toArray) 1 U (cW U U T.da (M.row (i:=2) U) (Rec.size (Rec.ly l)))<|bj (i:=3) (cs':=(Rec.read l).cells.toArray) M 0 U U (cB (vs:=(Rec.read l).cells.toArray) U U U T.dV (Rec.size (Rec.ly l)) (M.row (i:=3) U) (rfl) (by simpa using Rec.eX _)) U fun w M=>aU 1 U fun fr E=>?_;refine fW E U U U T.da (M.row (i:=3) U) (Rec.size (Rec.ly l)) ?_;exact bX M
theorem Mi{b:Value}{l:List UInt8}{w0:World}(ak:Bytes w0 b l)(au:l.length<=35184372088832)(he:ka (bK l 11)=0)(hm:¬(Rec.read l).fA):bH prog 68 [b] w0 (.tuple #[Rec.zero.val,aa 7]):=by
 refine enter (n:=52) func68 U U U ?_;intro fr E;have M:=Mem.begin (Φ:=fun w'=>Bytes w' b l) (Has.nil w0) (fun w' h=>ak.bU h);refine aV E<|bh (ob:=.cells _ 45) (fun g=>ai g 0) M 0 U (bT U T.fu) fun aZ w M=>cP M 2 U (ar U U T.pc) (o0 M.fact au) U fun⟨g,k1⟩ w _ M=>bC (cr g k1 (bK l 0).1 (bK l 0).2) M 2 U (ar U U T.g0) U (fun H=>gY H (Nat.le_trans (gu l 0) au)) fun ke w _ M=>bC (cr g ke (bK l 1).1 (bK l 1).2) M 1 U (ar U U T.g0) U (fun H=>gY H (Nat.le_trans (gu l 1) au)) fun jF w _ M=>bC (cr g jF (bK l 2).1 (bK l 2).2) M 1 U (ar U U T.g0) U (fun H=>gY H (Nat.le_trans (gu l 2) au)) fun sp w _ M=>bC (cr g sp (bK l 3).1 (bK l 3).2) M 1 U (ar U U T.pd) U (fun H=>o1 H (Nat.le_trans (gu l 3) au)) fun tR w _ M=>bC (cr g tR (bK l 4).1 (bK l 4).2) M 1 U (ar U U T.Au) U (fun H=>zy H (Nat.le_trans (gu l 4) au)) fun wg w _ M=>ah (v:=.agg ((Rec.j9 l).cells).toArray) 0 U (dl (vs:=[aW (db (bK l 0)),aW (db (bK l 1)),aW (db (bK l 2)),.agg (ao (eD (bK l 3))).toArray,.agg (aW (e8 (bK l 4)).1::ao (e8 (bK l 4)).2).toArray]) (us:=(Rec.j9 l).cells) U U T.mL T.mN (by simp[aW,Value.cells,gB,h9]) U U (BZ l))<|bh (ob:=.cells _ 45) (fun g=>ai g 0) M 0 U (bT U T.fu) fun bQ w M=>bj (i:=0) (cs':=(Rec.j9 l).cells.toArray) M 0 U U (cB (vs:=(Rec.j9 l).cells.toArray) U U U T.dV (Rec.size (Rec.oG l)) (M.row (i:=0) U) (rfl) (by simpa using Rec.eX _)) U fun w M=>fun fr E=>?_;have M:=M.aH 2 rfl;have M:=M.aH 2 rfl;refine bN E<|bC (cr g wg (bK l 5).1 (bK l 5).2) M 1 U (ar U U T.g0) U (fun H=>gY H (Nat.le_trans (gu l 5) au)) fun wh w _ M=>bC (cr g wh (bK l 6).1 (bK l 6).2) M 1 U (ar U U T.g0) U (fun H=>gY H (Nat.le_trans (gu l 6) au)) fun wi w _ M=>ah (v:=.agg ([_,_]).toArray) 0 U (dl (vs:=[_,_]) (us:=[_,_]) U U T.ud T.uo U U U U)<|bj (i:=2) (cs':=(Rec.q2 l).cells.toArray) M 1 U U (dr (vs:= #[aW (db (bK l 5)),aW (db (bK l 6))]) U U U T.tZ U (M.row (i:=2) U) (by simp[Rec.len (Rec.oG l)]) U (congrArg List.toArray (Rec.Ck (Rec.oG l) _ _))) U fun w M=>bC (cr g wi (bK l 7).1 (bK l 7).2) M 1 U (ar U U T.g0) U (fun H=>gY H (Nat.le_trans (gu l 7) au)) fun wj w _ M=>bC (cr g wj (bK l 8).1 (bK l 8).2) M 1 U (ar U U T.g0) U (fun H=>gY H (Nat.le_trans (gu l 8) au)) fun wk w _ M=>ah (v:=.agg ([_,_]).toArray) 0 U (dl (vs:=[_,_]) (us:=[_,_]) U U T.ud T.uo U U U U)<|bj (i:=2) (cs':=(Rec.sk l).cells.toArray) M 1 U U (dr (vs:= #[aW (db (bK l 7)),aW (db (bK l 8))]) U U U T.tZ U (M.row (i:=2) U) (by simp[Rec.len (Rec.sj l)]) U (congrArg List.toArray (Rec.Cp (Rec.sj l) _ _))) U fun w M=>bC (cr g wk (bK l 9).1 (bK l 9).2) M 1 U (ar U U T.pd) U (fun H=>o1 H (Nat.le_trans (gu l 9) au)) fun wc w _ M=>bC (cr g wc (bK l 10).1 (bK l 10).2) M 1 U (ar U U T.pd) U (fun H=>o1 H (Nat.le_trans (gu l 10) au)) fun we w _ M=>bj (i:=2) (cs':=(Rec.sh l).cells.toArray) M 1 U U (dr (vs:=(ao (eD (bK l 9))).toArray) U U U T.fF (by simp[gB]) (M.row (i:=2) U) (by simp[Rec.len (Rec.sl l)]) (by simpa using c0 _) (congrArg List.toArray (Rec.tS (Rec.sl l) _))) U fun w M=>bj (i:=2) (cs':=(Rec.read l).cells.toArray) M 1 U U (dr (vs:=(ao (eD (bK l 10))).toArray) U U U T.fF (by simp[gB]) (M.row (i:=2) U) (by simp[Rec.len (Rec.si l)]) (by simpa using c0 _) (congrArg List.toArray (Rec.tT (Rec.si l) _))) U fun w M=>bC (cr g we (bK l 11).1 (bK l 11).2) M 1 U (ar U U T.Av) U (fun H=>zu H (Nat.le_trans (gu l 11) au)) fun _ w _ M=>bD 2 U U he<|ah (v:=.agg (Rec.read l).cells.toArray) 1 U (cW U U T.da (M.row (i:=2) U) (Rec.size (Rec.ly l)))<|bo M 0 U (ar U U T.xw) (yd (Rec.ly l) _) fun w M=>fun fr E=>?_;rw[decide_eq_false hm]at E;refine bN E<|ah (v:=.bool _) 0 U U<|ah (v:=.bool _) 0 U U<|ah (v:=.bool _) 3 U U<|ah (v:=.agg (Rec.zero.cells).toArray) 1 U (dl (vs:=[]) (us:=Rec.zero.cells) U U T.mL T.mN (rfl) U U (rfl))<|bj (i:=3) (cs':=Rec.zero.cells.toArray) M 1 U U (cB (vs:=Rec.zero.cells.toArray) U U U T.dV (Rec.size Rec.e0) (M.row (i:=3) U) (rfl) (by simpa using Rec.eX _)) U fun w M=>aU 1 U fun fr E=>?_;refine fW E U U U T.da (M.row (i:=3) U) (Rec.size (Rec.e0)) ?_;exact bX M
end
section
open Go.RowKit Go.a2 Go.Proofs Go.Proofs.Tryz
theorem Bytes.yg{w:World}{v:Value}{l:List UInt8}{at_ n:Nat}(h:Bytes w v l)(a6:at_+n<=l.length):Bytes w (e2 1 v at_ (at_+n)) ((l.drop at_).take n):=by
 have:=Bytes.cut at_ (at_+n) h (Nat.le_add_right _ _) a6
 rwa [Nat.add_sub_cancel_left]at this
theorem Xb{s:List UInt8}{i:Nat}(hi:i<32)(aP:s.length=32):(ao (s.take i++List.replicate (32-i) 0)).set (0+i*1) (ag ((s[i]'ae).toNat:Int))=ao (s.take (i+1)++List.replicate (32-(i+1)) 0):=by
 have e:32-i=(32-(i+1))+1:=by omega
 rw[Nat.zero_add,Nat.mul_one,List.take_succ_eq_append_getElem ae,e,List.replicate_succ];simp only[ao,List.map_append,List.map_cons,List.append_assoc];rw[List.set_append_right _ _ (by simp;omega)];have c6:i-((s.take i).map fun b=>Value.int .u8 (b.toNat:Int)).length=0:=by simp;omega
 rw[c6,List.set_cons_zero];rfl
abbrev b8(g:Nat)(bv:Value)(l:List UInt8)(at_:Nat)(bad:Bool):List az:=[.bb g (.cells #[bv,aa (at_:Int),.bool bad] 212 (0,0)),.sub bv l]
theorem DK{g:Nat}{bv:Value}{l:List UInt8}{at_:Nat}{bad:Bool}{w0:World}(H:Has w0 (b8 g bv l at_ bad))(au:l.length<=35184372088832)(fe:at_<=l.length)(ak:bad=true):aY prog 170 [ai g 0] w0 (b8 g bv l at_ bad) (fun _:Unit=>aa 0) (fun _=>b8 g bv l at_ bad) (fun _=>True):=by
 refine enter (n:=17) func170 U U U ?_;intro fr E;obtain⟨kZ,k0,rfl⟩:=Reads.slice (H.gi _ (List.mem_cons_of_mem _ (List.mem_singleton.2 rfl)):Reads 1 w0 bv _ _);have M:=ht H;subst ak;refine aV E<|ah (v:=.bool _) 4 U (aE U U T.fZ (M.row (i:=0) U) U)<|aU 2 U fun fr E=>?_;refine bi E U U ?_;exact⟨(),U,M.fin (List.Sublist.refl _) trivial⟩
theorem sM{g:Nat}{bv:Value}{l:List UInt8}{at_:Nat}{bad:Bool}{w0:World}(H:Has w0 (b8 g bv l at_ bad))(au:l.length<=35184372088832)(fe:at_<=l.length)(ak:bad=false):aY prog 170 [ai g 0] w0 (b8 g bv l at_ bad) (fun _:Unit=>aa ((l.length-at_:Nat):Int)) (fun _=>b8 g bv l at_ bad) (fun _=>True):=by
 refine enter (n:=17) func170 U U U ?_;intro fr E;obtain⟨kZ,k0,rfl⟩:=Reads.slice (H.gi _ (List.mem_cons_of_mem _ (List.mem_singleton.2 rfl)):Reads 1 w0 bv _ _);have M:=ht H;subst ak;refine aV E<|ah (v:=.bool _) 4 U (aE U U T.fZ (M.row (i:=0) U) U)<|bw 1 U fun fr E=>?_;refine(dR (B:=T.JK) (Vs:=(.af (ai g 0):: .af (ai g 0):: .af (ai g 0):: .af (.slice kZ l.length k0):: .af (aa _):: .af (ai g 0):: .af (ai g 0):: .af (ai g 1):: .af (aa (at_:Int)):: .af (.int _ (((l.length-at_:Nat):Int))):: .af (aa ((l.length-at_:Nat):Int))::[])) T.XX E T.mixed T.XW U (ej.e6 U) ⟨aw U U,
   aw U U,
   aw U U,
   aC U U (fun x w ad ab=>aE U U T.ec ((M.aQ ad).row (i:=0) U) U),
   aC U U (fun x w ad ab=>bx U U U U T.aG ((M.aQ ad).gv 1 U)),
   aw U U,
   aw U U,
   aw U U,
   aC U U (fun x w ad ab=>aE U U T.bc ((M.aQ ad).row (i:=0) U) U),
   aC U U (fun x w ad ab=>num U ((br ae ae).trans ae)),
   aw U U,ay⟩ ?_)
 intro x fr w ad ab E;have M:=M.ext ad;refine cm E<|aU 0 U fun fr E=>?_;refine bi E U U ?_;exact⟨(),U,M.fin (List.Sublist.refl _) trivial⟩
theorem HM{g:Nat}{bv:Value}{l:List UInt8}{at_:Nat}{bad:Bool}{w0:World}(H:Has w0 (b8 g bv l at_ bad))(au:l.length<=35184372088832)(fe:at_<=l.length){n:Nat}(ak:bad=true)(a6:0<n)(xW:n<=1000000):aY prog 167 [ai g 0,aa (n:Int)] w0 (b8 g bv l at_ bad) (fun _:Unit=>.tuple #[.slice none 0 0,.bool false]) (fun _=>b8 g bv l at_ true) (fun _=>True):=by
 refine enter (n:=37) func167 U U U ?_;intro fr E;obtain⟨kZ,k0,rfl⟩:=Reads.slice (H.gi _ (List.mem_cons_of_mem _ (List.mem_singleton.2 rfl)):Reads 1 w0 bv _ _);have M:=ht H;subst ak;refine aV E<|bC (b8 g _ l at_ true) M 3 U (ar U U T.qu) U (fun H=>DK H au fe U) fun _ w _ M=>bD 1 U U ae<|bj (i:=0) (cs':= #[_,_,_]) M 4 U U (cy (v:=_) U U U T.kf (M.row (i:=0) U) (rfl) (rfl) (rfl)) U fun w M=>aU 2 U fun fr E=>?_;refine fN E U U U ?_;exact⟨(),U,M.fin (List.Sublist.refl _) trivial⟩
theorem HO{g:Nat}{bv:Value}{l:List UInt8}{at_:Nat}{bad:Bool}{w0:World}(H:Has w0 (b8 g bv l at_ bad))(au:l.length<=35184372088832)(fe:at_<=l.length){n:Nat}(ak:bad=false)(a6:l.length-at_<n)(xW:n<=1000000):aY prog 167 [ai g 0,aa (n:Int)] w0 (b8 g bv l at_ bad) (fun _:Unit=>.tuple #[.slice none 0 0,.bool false]) (fun _=>b8 g bv l at_ true) (fun _=>True):=by
 refine enter (n:=37) func167 U U U ?_;intro fr E;obtain⟨kZ,k0,rfl⟩:=Reads.slice (H.gi _ (List.mem_cons_of_mem _ (List.mem_singleton.2 rfl)):Reads 1 w0 bv _ _);have M:=ht H;subst ak;refine aV E<|bC (b8 g _ l at_ false) M 3 U (ar U U T.qu) U (fun H=>sM H au fe U) fun _ w _ M=>bD 1 U U ae<|bj (i:=0) (cs':= #[_,_,_]) M 4 U U (cy (v:=_) U U U T.kf (M.row (i:=0) U) (rfl) (rfl) (rfl)) U fun w M=>aU 2 U fun fr E=>?_;refine fN E U U U ?_;exact⟨(),U,M.fin (List.Sublist.refl _) trivial⟩
theorem HN{g:Nat}{bv:Value}{l:List UInt8}{at_:Nat}{bad:Bool}{w0:World}(H:Has w0 (b8 g bv l at_ bad))(au:l.length<=35184372088832)(fe:at_<=l.length){n:Nat}(ak:bad=false)(a6:at_+n<=l.length)(xW:n<=1000000):aY prog 167 [ai g 0,aa (n:Int)] w0 (b8 g bv l at_ bad) (fun _:Unit=>.tuple #[e2 1 bv at_ (at_+n),.bool true]) (fun _=>b8 g bv l (at_+n) false) (fun _=>True):=by
 refine enter (n:=37) func167 U U U ?_;intro fr E;obtain⟨kZ,k0,rfl⟩:=Reads.slice (H.gi _ (List.mem_cons_of_mem _ (List.mem_singleton.2 rfl)):Reads 1 w0 bv _ _);have M:=ht H;subst ak;refine aV E<|bC (b8 g _ l at_ false) M 3 U (ar U U T.qu) U (fun H=>sM H au fe U) fun _ w _ M=>bs 1 U U ae<|ah (v:=aa _) 5 U (aE U U T.bc (M.row (i:=0) U) U)<|a1 (y:=((at_+n:Nat):Int)) 1 U U ((br ae ae).trans ae)<|bj (i:=0) (cs':= #[_,_,_]) M 2 U U (cy (v:=_) U U U T.c3 (M.row (i:=0) U) (rfl) (rfl) (rfl)) U fun w M=>bw 0 U fun fr E=>?_;refine(dR (B:=T.JG) (Vs:=(.af (ai g 0):: .af (ai g 0):: .af (ai g 0):: .af (.slice kZ l.length k0):: .af (ai g 0):: .af (ai g 0):: .af (ai g 1):: .af (aa ((at_+n:Nat):Int)):: .af (aa (n:Int)):: .af (.int _ ((at_:Int))):: .af (ai g 0):: .af (ai g 0):: .af (ai g 1):: .af (aa ((at_+n:Nat):Int)):: .af (e2 1 (.slice kZ l.length k0) at_ (at_+n)):: .af (e2 1 (.slice kZ l.length k0) at_ (at_+n)):: .af _::[])) T.XT E T.mixed T.XS U (ej.e6 U) ⟨aw U U,
   aw U U,
   aw U U,
   aC U U (fun x w ad ab=>aE U U T.ec ((M.aQ ad).row (i:=0) U) U),
   aw U U,
   aw U U,
   aw U U,
   aC U U (fun x w ad ab=>aE U U T.bc ((M.aQ ad).row (i:=0) U) U),
   aw U U,
   aC U U (fun x w ad ab=>num U ((br ae ae).trans ae)),
   aw U U,
   aw U U,
   aw U U,
   aC U U (fun x w ad ab=>aE U U T.bc ((M.aQ ad).row (i:=0) U) U),
   aC U U (fun x w ad ab=>ew (lo:=at_) (hi:=at_+n) U ((M.aQ ad).gv 1 U) U T.aG T.bf (⟨_,_,U,U⟩) (⟨_,_,U,U⟩) (Nat.le_add_right _ _) (a6)),
   aw U U,
   aw U U,ay⟩ ?_)
 intro x fr w ad ab E;have M:=M.ext ad;refine cm E<|aU 0 U fun fr E=>?_;refine fN E U U U ?_;exact⟨(),U,M.fin (List.Sublist.refl _) trivial⟩
theorem MU{g:Nat}{bv:Value}{l:List UInt8}{at_:Nat}{bad:Bool}{w0:World}(H:Has w0 (b8 g bv l at_ bad))(au:l.length<=35184372088832)(fe:at_<=l.length)(ak:bad=true):aY prog 113 [ai g 0] w0 (b8 g bv l at_ bad) (fun _:Unit=>aa 0) (fun _=>b8 g bv l at_ true) (fun _=>True):=by
 refine enter (n:=28) func113 U U U ?_;intro fr E;have M:=ht H;subst ak;refine aV E<|bC (b8 g bv l at_ true) M 2 U (ar U U T.tc) U (fun H=>HM (n:=8) H au fe U aN aN) fun _ w _ M=>ah (v:=.bool _) 6 U U<|aU 2 U fun fr E=>?_;refine bi E U U ?_;exact⟨(),U,M.fin (List.Sublist.refl _) trivial⟩
theorem MV{g:Nat}{bv:Value}{l:List UInt8}{at_:Nat}{bad:Bool}{w0:World}(H:Has w0 (b8 g bv l at_ bad))(au:l.length<=35184372088832)(fe:at_<=l.length)(ak:bad=false)(a6:l.length-at_<8):aY prog 113 [ai g 0] w0 (b8 g bv l at_ bad) (fun _:Unit=>aa 0) (fun _=>b8 g bv l at_ true) (fun _=>True):=by
 refine enter (n:=28) func113 U U U ?_;intro fr E;have M:=ht H;subst ak;refine aV E<|bC (b8 g bv l at_ false) M 2 U (ar U U T.tc) U (fun H=>HO (n:=8) H au fe U a6 aN) fun _ w _ M=>ah (v:=.bool _) 6 U U<|aU 2 U fun fr E=>?_;refine bi E U U ?_;exact⟨(),U,M.fin (List.Sublist.refl _) trivial⟩
theorem DR{g:Nat}{bv:Value}{l:List UInt8}{at_:Nat}{bad:Bool}{w0:World}(H:Has w0 (b8 g bv l at_ bad))(au:l.length<=35184372088832)(fe:at_<=l.length)(ak:bad=false)(a6:at_+8<=l.length):aY prog 113 [ai g 0] w0 (b8 g bv l at_ bad) (fun _:Unit=>aa (iG ((l.drop at_).take 8))) (fun _=>b8 g bv l (at_+8) false) (fun _=>True):=by
 refine enter (n:=28) func113 U U U ?_;intro fr E;have M:=ht H;subst ak;refine aV E<|bC (b8 g bv l at_ false) M 2 U (ar U U T.tc) U (fun H=>HN (n:=8) H au fe U a6 aN) fun _ w _ M=>ah (v:=.bool _) 6 U U<|bw 3 U fun fr E=>?_;refine cI (fun d fr w=>∃i:Nat,d=8-i/\i<=8/\Env [(6,aa i),(5,ab0 (ou (((l.drop at_).take 8).take i))),(3,e2 1 bv at_ (at_+8))] 28 fr/\Mem w0 (aS (b8 g bv l at_ false)) (b8 g bv l (at_+8) false) (fun _=>True) w) (8) ?_ ?_
 ·refine⟨0,U,by omega,E.lL [3,5,6] rfl,M⟩
 ·clear E M;rintro d fr w ⟨i,aT,hle,E,M⟩;have aP:((l.drop at_).take 8).length=8:=by rw[List.length_take,List.length_drop];omega
  by_cases hi:i<8
  ·refine bA E<|bD 1 U U ae<|ah (v:=ab0 _) 2 U U<|ah 2 U (bL (i:=i) U (Bytes.yg (M.gv 1 U) (n:=8) a6) U U (rfl) (ae) T.aG T.bf)<|ah (v:=ag ((((l.drop at_).take 8)[i]'ae).toNat:Int)) 0 U (b2 U (Bytes.yg (M.gv 1 U) (n:=8) a6) U T.cq (by rw[Nat.mul_one];exact gx ae))<|ah (v:=ab0 _) 0 U U<|a1 (y:=ou (((l.drop at_).take 8).take (i+1))) 0 U U ((Ob _ _ (((l.drop at_).take 8)[i]'ae).toNat_lt).trans (congrArg _ (F4 ae).symm))<|a1 (y:=((i+1:Nat):Int)) 2 U U ((br ae ae).trans ae)<|ct 1 U fun fr E=>?_;refine⟨8-(i+1),by omega,i+1,U,by omega,E.lL [3,5,6] rfl,M⟩
  ·obtain rfl:i=8:=by omega
   rw[List.take_of_length_le (i:=8) (l:=((l.drop at_).take 8)) (Nat.le_of_eq aP)]at E;refine bA E<|ch 1 U U (rfl)<|a1 (y:=iG ((l.drop at_).take 8)) 2 U U (rfl)<|aU 1 U fun fr E=>?_;refine bi E U U ?_;exact⟨(),U,M.fin (List.Sublist.refl _) trivial⟩
theorem MZ{g:Nat}{bv:Value}{l:List UInt8}{at_:Nat}{bad:Bool}{w0:World}(H:Has w0 (b8 g bv l at_ bad))(au:l.length<=35184372088832)(fe:at_<=l.length)(ak:bad=true):aY prog 118 [ai g 0] w0 (b8 g bv l at_ bad) (fun _:Unit=>.agg (ao (List.replicate 32 0)).toArray) (fun _=>b8 g bv l at_ true) (fun _=>True):=by
 refine enter (n:=26) func118 U U U ?_;intro fr E;have M:=ht H;subst ak;refine aV E<|bh (ob:=.cells _ 39) (fun g=>ai g 0) M 0 U (bT U T.gH) fun aZ w M=>bh (ob:=.cells _ 39) (fun g=>ai g 0) M 0 U (bT U T.gH) fun bQ w M=>fun fr E=>?_;have M:=M.aH 3 rfl;have M:=M.aH 3 rfl;refine bN E<|bC (b8 g bv l at_ true) M 1 U (ar U U T.tc) U (fun H=>HM (n:=32) H au fe U aN aN) fun _ w _ M=>bw 6 U fun fr E=>?_;refine cI (fun d fr w=>∃i:Nat,d=32-i/\i<=32/\Env [(6,aa i),(5,.bool false),(4,.slice none 0 0),(3,ai bQ 0),(2,ai aZ 0)] 26 fr/\Mem w0 (aS (b8 g bv l at_ true)) (b8 g bv l at_ true++[.bb bQ (.cells (ao (List.replicate 32 0)).toArray 39),.bb aZ (.cells (ao (List.replicate 32 0)).toArray 39)]) (fun _=>True) w) (32) ?_ ?_
 ·refine⟨0,U,by omega,E.lL [2,3,4,5,6] rfl,M⟩
 ·clear E M;rintro d fr w ⟨i,aT,hle,E,M⟩;refine bA E<|ah (v:=.bool _) 4 U U<|ah (v:=.agg (ao (List.replicate 32 0)).toArray) 1 U (cW U U T.gJ (M.row (i:=2) U) (by simp))<|bj (i:=3) (cs':=(ao (List.replicate 32 0)).toArray) M 0 U U (cB (vs:=(ao (List.replicate 32 0)).toArray) U U U T.fF (by simp) (M.row (i:=3) U) (rfl) (fun v aD=>c0 _ v aD)) U fun w M=>aU 0 U fun fr E=>?_;refine gC E U U T.gJ (M.row (i:=3) U) (by simp) ?_;exact⟨(),U,M.fin (.cons_cons _ (.cons_cons _ (.cons _ (.cons _ .slnil)))) trivial⟩
theorem M0{g:Nat}{bv:Value}{l:List UInt8}{at_:Nat}{bad:Bool}{w0:World}(H:Has w0 (b8 g bv l at_ bad))(au:l.length<=35184372088832)(fe:at_<=l.length)(ak:bad=false)(a6:l.length-at_<32):aY prog 118 [ai g 0] w0 (b8 g bv l at_ bad) (fun _:Unit=>.agg (ao (List.replicate 32 0)).toArray) (fun _=>b8 g bv l at_ true) (fun _=>True):=by
 refine enter (n:=26) func118 U U U ?_;intro fr E;have M:=ht H;subst ak;refine aV E<|bh (ob:=.cells _ 39) (fun g=>ai g 0) M 0 U (bT U T.gH) fun aZ w M=>bh (ob:=.cells _ 39) (fun g=>ai g 0) M 0 U (bT U T.gH) fun bQ w M=>fun fr E=>?_;have M:=M.aH 3 rfl;have M:=M.aH 3 rfl;refine bN E<|bC (b8 g bv l at_ false) M 1 U (ar U U T.tc) U (fun H=>HO (n:=32) H au fe U a6 aN) fun _ w _ M=>bw 6 U fun fr E=>?_;refine cI (fun d fr w=>∃i:Nat,d=32-i/\i<=32/\Env [(6,aa i),(5,.bool false),(4,.slice none 0 0),(3,ai bQ 0),(2,ai aZ 0)] 26 fr/\Mem w0 (aS (b8 g bv l at_ false)) (b8 g bv l at_ true++[.bb bQ (.cells (ao (List.replicate 32 0)).toArray 39),.bb aZ (.cells (ao (List.replicate 32 0)).toArray 39)]) (fun _=>True) w) (32) ?_ ?_
 ·refine⟨0,U,by omega,E.lL [2,3,4,5,6] rfl,M⟩
 ·clear E M;rintro d fr w ⟨i,aT,hle,E,M⟩;refine bA E<|ah (v:=.bool _) 4 U U<|ah (v:=.agg (ao (List.replicate 32 0)).toArray) 1 U (cW U U T.gJ (M.row (i:=2) U) (by simp))<|bj (i:=3) (cs':=(ao (List.replicate 32 0)).toArray) M 0 U U (cB (vs:=(ao (List.replicate 32 0)).toArray) U U U T.fF (by simp) (M.row (i:=3) U) (rfl) (fun v aD=>c0 _ v aD)) U fun w M=>aU 0 U fun fr E=>?_;refine gC E U U T.gJ (M.row (i:=3) U) (by simp) ?_;exact⟨(),U,M.fin (.cons_cons _ (.cons_cons _ (.cons _ (.cons _ .slnil)))) trivial⟩
theorem DS{g:Nat}{bv:Value}{l:List UInt8}{at_:Nat}{bad:Bool}{w0:World}(H:Has w0 (b8 g bv l at_ bad))(au:l.length<=35184372088832)(fe:at_<=l.length)(ak:bad=false)(a6:at_+32<=l.length):aY prog 118 [ai g 0] w0 (b8 g bv l at_ bad) (fun _:Unit=>.agg (ao ((l.drop at_).take 32)).toArray) (fun _=>b8 g bv l (at_+32) false) (fun _=>True):=by
 refine enter (n:=26) func118 U U U ?_;intro fr E;have M:=ht H;subst ak;refine aV E<|bh (ob:=.cells _ 39) (fun g=>ai g 0) M 0 U (bT U T.gH) fun aZ w M=>bh (ob:=.cells _ 39) (fun g=>ai g 0) M 0 U (bT U T.gH) fun bQ w M=>fun fr E=>?_;have M:=M.aH 3 rfl;have M:=M.aH 3 rfl;refine bN E<|bC (b8 g bv l at_ false) M 1 U (ar U U T.tc) U (fun H=>HN (n:=32) H au fe U a6 aN) fun _ w _ M=>bw 6 U fun fr E=>?_;refine cI (fun d fr w=>∃i:Nat,d=32-i/\i<=32/\Env [(6,aa i),(5,.bool true),(4,e2 1 bv at_ (at_+32)),(3,ai bQ 0),(2,ai aZ 0)] 26 fr/\Mem w0 (aS (b8 g bv l at_ false)) (b8 g bv l (at_+32) false++[.bb bQ (.cells (ao (((l.drop at_).take 32).take i++List.replicate (32-i) 0)).toArray 39),.bb aZ (.cells (ao (List.replicate 32 0)).toArray 39)]) (fun _=>True) w) (32) ?_ ?_
 ·refine⟨0,U,by omega,E.lL [2,3,4,5,6] rfl,M⟩
 ·clear E M;rintro d fr w ⟨i,aT,hle,E,M⟩;have aP:((l.drop at_).take 32).length=32:=by rw[List.length_take,List.length_drop];omega
  by_cases hi:i<32
  ·refine bA E<|bD 3 U U ae<|ei 0 U U (rfl)<|ah 4 U (bL (i:=i) U (Bytes.yg (M.gv 1 U) (n:=32) a6) U U (rfl) (ae) T.aG T.bf)<|ah (v:=ag ((((l.drop at_).take 32)[i]'ae).toNat:Int)) 0 U (b2 U (Bytes.yg (M.gv 1 U) (n:=32) a6) U T.cq (by rw[Nat.mul_one];exact gx ae))<|ah (v:=ai _ (0+i*1)) 0 U (dm (i:=i) U U U (rfl) (ae) T.iB T.bf)<|bj (i:=2) (cs':=(ao (((l.drop at_).take 32).take (i+1)++List.replicate (32-(i+1)) 0)).toArray) M 0 U U (cy (v:=_) U U U T.bf (M.row (i:=2) U) (by simp[aP];omega) (rfl) (congrArg List.toArray (Xb hi aP))) U fun w M=>a1 (y:=((i+1:Nat):Int)) 1 U U ((br ae ae).trans ae)<|ct 1 U fun fr E=>?_;refine⟨32-(i+1),by omega,i+1,U,by omega,E.lL [2,3,4,5,6] rfl,M⟩
  ·obtain rfl:i=32:=by omega
   have M:=M.as (L':=b8 g bv l (at_+32) false++[.bb bQ (.cells (ao ((l.drop at_).take 32)).toArray 39),.bb aZ (.cells (ao (List.replicate 32 0)).toArray 39)]) (by rw[List.take_of_length_le (i:=32) (l:=((l.drop at_).take 32)) (Nat.le_of_eq aP)];simp);refine bA E<|ch 3 U U (rfl)<|ch 0 U U (rfl)<|ah (v:=.agg (ao ((l.drop at_).take 32)).toArray) 1 U (cW U U T.gJ (M.row (i:=2) U) (by simp[aP]))<|bj (i:=3) (cs':=(ao ((l.drop at_).take 32)).toArray) M 0 U U (cB (vs:=(ao ((l.drop at_).take 32)).toArray) U U U T.fF (by simp[aP]) (M.row (i:=3) U) (rfl) (fun v aD=>c0 _ v aD)) U fun w M=>aU 0 U fun fr E=>?_;refine gC E U U T.gJ (M.row (i:=3) U) (by simp[aP]) ?_;exact⟨(),U,M.fin (.cons_cons _ (.cons_cons _ (.cons _ (.cons _ .slnil)))) trivial⟩
end
end Go.Proofs.YtckdfgknodedoaaGreatDoor.K
