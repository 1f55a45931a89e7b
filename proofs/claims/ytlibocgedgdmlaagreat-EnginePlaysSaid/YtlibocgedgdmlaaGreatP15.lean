/- Part of the proof of enginePlays_holds: the whole is true of every input. Conditions: none. -/
import Derived.Test.YtlibocgedgdmlaaGreatP14
import Derived.Test.YtlibocgedgdmlaaGreatRows
import Derived.OpenShut
import Derived.SizedLaws
set_option linter.all false
section
set_option maxRecDepth 100000
namespace Go.Proofs.YtlibocgedgdmlaaGreat.R
open Go.Vc
abbrev EF:Nat:=3
abbrev DW:Nat:=5
abbrev B1:Nat:=6
abbrev DJ:Nat:=7
abbrev Da:Nat:=8
abbrev Gy:Nat:=15
abbrev DB:Nat:=16
abbrev Br:Nat:=17
abbrev D9:Nat:=18
abbrev B_:Nat:=19
abbrev B9:Nat:=20
abbrev Jh:Nat:=22
abbrev Dw:Nat:=23
abbrev Ge:Nat:=24
abbrev Bv:Nat:=25
abbrev CX:Nat:=26
abbrev Cs:Nat:=27
abbrev CM:Nat:=28
abbrev CN:Nat:=29
abbrev CL:Nat:=30
abbrev Cp:Nat:=31
abbrev B3:Nat:=32
abbrev Co:Nat:=33
abbrev DS:Nat:=34
abbrev CU:Nat:=35
abbrev Cx:Nat:=36
abbrev FC:Nat:=37
abbrev D4:Nat:=38
abbrev Db:Nat:=39
abbrev ET:Nat:=40
abbrev CS:Nat:=42
abbrev Dc:Nat:=45
abbrev Ah:Nat:=47
abbrev CA:Nat:=48
abbrev Bq:Nat:=49
abbrev Bp:Nat:=50
abbrev Bu:Nat:=51
abbrev CY:Nat:=52
abbrev CO:Nat:=53
abbrev Fq:Nat:=54
abbrev Bb:Nat:=55
abbrev DD:Nat:=56
abbrev Df:Nat:=57
abbrev CB:Nat:=58
abbrev BM:Nat:=59
abbrev Ai:Nat:=60
abbrev C2:Nat:=61
abbrev D3:Nat:=62
abbrev C1:Nat:=63
abbrev Gf:Nat:=64
abbrev B0:Nat:=65
abbrev BN:Nat:=68
abbrev CK:Nat:=69
abbrev Bf:Nat:=70
abbrev FB:Nat:=71
abbrev A_:Nat:=72
abbrev BT:Nat:=73
abbrev BU:Nat:=74
abbrev A9:Nat:=75
abbrev BI:Nat:=76
abbrev BQ:Nat:=77
abbrev Cy:Nat:=78
abbrev Ae:Nat:=79
abbrev FA:Nat:=80
abbrev EV:Nat:=81
abbrev FX:Nat:=82
abbrev BB:Nat:=83
abbrev B8:Nat:=86
abbrev CZ:Nat:=87
abbrev E6:Nat:=89
abbrev Cv:Nat:=90
abbrev CE:Nat:=95
abbrev Aw:Nat:=96
abbrev EG:Nat:=97
abbrev E5:Nat:=98
abbrev C8:Nat:=99
abbrev Ch:Nat:=113
abbrev Ho:Nat:=115
abbrev A8:Nat:=116
abbrev Dg:Nat:=118
abbrev Az:Nat:=119
abbrev Dv:Nat:=120
abbrev QR:Ag:=(sq [oV 4 (.c .AL),oV 5 (.c .AL),oV 6 (.c .AL),oC 7 0] [0,1] (.seq (sq [oM 32 0,oT 33 32,oJ 34 .gtr 33 600,gb 35 (.CD (.t 34)),gq 36 (.CD (.t 1)) 35 false,gq 37 (.len false (.t 36)) 35 false,gq 38 (.bin .none .gtr (.t 37) (ci 80)) 35 false,gp 39 (.pick (.t 35) (.c (.bool true)) (.t 38))] [0,1,39] (.cond (.t 39) (sq [oV 4 (.c .AL),oV 5 (.c .AL),oV 6 (.c .AL),oC 7 1] [4,5,6,7] .ret) .skip)) (sq [gp 8 (.DE 4)] [0,1,8] (sq [gp 9 (.alloc 1 [(.str []),(.str []),(.str []),(.str [])])] [0,1,8,9] (sq [gp 10 (.alloc 1 [(.bool false),(.bool false),(.bool false),(.bool false)])] [0,1,8,9,10] (sq [oM 40 0,oM 11 40] [0,1,8,9,10,11] (sq [gp 12 (.alloc 1 [(.int .i64 0),(.int .i64 0)])] [0,1,8,9,10,11,12] (sq [gp 13 (.DE 5)] [0,1,8,9,10,11,12,13] (sq [gp 14 (.DE 1)] [0,1,8,9,10,11,12,13,14] (sq [gp 15 (.DE 1)] [0,1,8,9,10,11,12,13,14,15] (.seq (sq [oM 41 1,oN 42 41,oC 43 0] [0,8,9,10,11,12,13,14,15,41,42,43] (.block 0 (.loop [0,9,10,12,41,42] [8,11,13,14,15,43] 7 (sq [oB 44 .lss 43 42] [0,8,9,10,11,12,13,14,15,41,42,43,44] (.seq (.cond (.t 44) .skip (.exit 0)) (.seq (.block 1 (sq [oI 45 8 41 43,oA 46 8 45,gp 17 (.alloc 0 [(.int .i64 0),(.int .i64 0),(.int .i64 0),(.int .i64 0),(.str []),(.int .i64 0),(.int .i64 0),(.str [])]),oS 8 17 46] [0,8,9,10,11,12,13,14,15,17,41,42,43] (sq [gp 18 (.alloc 0 [(.int .i64 0),(.int .i64 0),(.int .i64 0),.AL,(.str [])])] [0,8,9,10,11,12,13,14,15,17,18,41,42,43] (.join [0,9,10,12,13,14,15,18,41,42,43] [8,11] 10 (sq [oF 47 0 17,oL 48 47] [0,8,9,10,11,12,13,14,15,17,18,41,42,43,48] (.block 2 (sq [oJ 51 .eql 48 1,oM 50 51] [0,8,9,10,11,12,13,14,15,17,18,41,42,43,48,50] (.cond (.t 50) (sq [oM 53 0,oM 54 8,oF 55 1 17,oA 56 4 55,gp 57 (.Ax true 1 4 [(.int .i64 0),(.int .i64 0),(.int .i64 0),(.str [])] [(0,4,(.t 56))]),gp 58 (.XQ 4 40 (.t 54) (.t 57)),oG 59 Br [(.t 53),(.t 58)],oM 52 59,oX 60 52 0,oX 61 52 1,oX 62 52 2,oX 63 52 3,oX 64 52 4,oM 19 60,oM 20 61,oM 21 62,oM 22 63,oM 23 64] [0,8,9,10,11,12,13,14,15,17,18,19,20,41,42,43] (sq [oM 65 20,oN 66 65,oJ 67 .sub 66 1,oM 24 67] [0,8,9,10,11,12,13,14,15,17,18,19,20,24,41,42,43] (sq [oM 68 20,oM 69 24,oI 70 1 68 69,oL 71 70,oF 72 0 18,oS 1 72 71] [0,8,9,10,11,12,13,14,15,17,18,19,24,41,42,43] (sq [oF 73 0 18,oL 74 73,oJ 75 .eql 74 0] [0,8,9,10,11,12,13,14,15,17,18,19,24,41,42,43,75] (.cond (.t 75) (sq [oM 76 8,oF 77 1 17,oA 78 4 77,gp 79 (.Ax true 1 4 [(.int .i64 0),(.int .i64 0),(.int .i64 0),(.str [])] [(0,4,(.t 78))]),oP 80 4 40 76 79,oM 8 80] [0,8,9,10,12,13,14,15,18,19,24,41,42,43] (sq [oM 81 19,oM 82 24,oI 83 1 81 82,oL 84 83,oM 11 84] [0,8,9,10,11,12,13,14,15,18,41,42,43] (.ops [gp 85 (.build [(.int .i64 0),(.int .i64 0)] []),oS 2 12 85] none [0,8,9,10,11,12,13,14,15,18,41,42,43]))) .skip))))) (sq [oJ 87 .eql 48 2,oM 86 87] [0,8,9,10,11,12,13,14,15,17,18,41,42,43,48,86] (.cond (.t 86) (sq [oF 88 5 17,oL 89 88,oJ 90 .neq 89 0,gb 91 (.CD (.t 90)),gq 92 (.Bo 5 (.t 17)) 91 true,gq 93 (.load 1 false (.t 92)) 91 true,gq 94 (.bin .none .neq (.t 93) (ci 1)) 91 true,gp 95 (.pick (.t 91) (.t 94) (.c (.bool false))),gb 96 (.CD (.t 95)),gq 97 (.Bo 6 (.t 17)) 96 false,gq 98 (.load 1 false (.t 97)) 96 false,gq 99 (.bin .none .lss (.t 98) (ci 1)) 96 false,gp 100 (.pick (.t 96) (.c (.bool true)) (.t 99)),gb 101 (.CD (.t 100)),gq 102 (.Bo 6 (.t 17)) 101 false,gq 103 (.load 1 false (.t 102)) 101 false,gq 104 (.bin .none .gtr (.t 103) (ci 50)) 101 false,gp 105 (.pick (.t 101) (.c (.bool true)) (.t 104))] [0,8,9,10,11,12,13,14,15,17,18,41,42,43,105] (.cond (.t 105) (.ops [oF 106 0 18,gn (.store 1 (.t 106) (ci 2))] none [0,8,9,10,11,12,13,14,15,18,41,42,43]) (.ops [oF 107 5 17,oL 108 107,gp 109 (.DT 1 (some 2) (.t 12) (.t 108)),oL 110 109,oJ 111 .add 110 1,gp 112 (.DT 1 (some 2) (.t 12) (.t 108)),oS 1 112 111] none [0,8,9,10,11,12,13,14,15,18,41,42,43]))) (sq [oJ 114 .eql 48 3,oM 113 114] [0,8,9,10,11,12,13,14,15,17,18,41,42,43,48,113] (.cond (.t 113) (sq [oM 116 11,oF 117 5 17,oL 118 117,oG 119 D9 [(.t 116),(.t 118)],oM 115 119,oX 120 115 0,oX 121 115 1,gp 25 (.alloc 0 [(.int .i64 0),(.int .i64 0),(.int .i64 0)]),oS 3 25 120,oM 26 121] [0,8,9,10,11,12,13,14,15,18,25,26,41,42,43] (.ops [oM 122 26,oF 123 1 25,oL 124 123,oF 125 2 25,oL 126 125,gp 127 (.build [(.int .i64 0),(.int .i64 0),(.int .i64 0),.AL,(.str [])] [(0,1,(.t 122)),(1,1,(.t 124)),(2,1,(.t 126))]),oS 5 18 127] none [0,8,9,10,11,12,13,14,15,18,41,42,43])) (sq [oJ 129 .eql 48 4,oM 128 129] [0,8,9,10,11,12,13,14,15,17,18,41,42,43,48,128] (.cond (.t 128) (sq [oM 131 11,oF 132 7 17,oL 133 132,oG 134 B_ [(.t 131),(.t 133)],oM 130 134,oX 135 130 0,oX 136 130 1,oM 27 135,oM 28 136] [0,8,9,10,11,12,13,14,15,18,27,28,41,42,43] (.ops [oM 137 28,oM 138 27,gp 139 (.build [(.int .i64 0),(.int .i64 0),(.int .i64 0),.AL,(.str [])] [(0,1,(.t 137)),(3,1,(.t 138))]),oS 5 18 139] none [0,8,9,10,11,12,13,14,15,18,41,42,43])) (sq [oJ 141 .eql 48 5,oM 140 141] [0,8,9,10,11,12,13,14,15,17,18,41,42,43,48,140] (.cond (.t 140) (sq [oM 143 11,oG 144 B9 [(.t 143)],oM 142 144,oX 145 142 0,oX 146 142 1,oM 29 145,oM 30 146] [0,8,9,10,11,12,13,14,15,17,18,29,41,42,43] (sq [oF 147 5 17,oL 148 147,oJ 149 .lss 148 0,gb 150 (.CD (.t 149)),gq 151 (.Bo 5 (.t 17)) 150 false,gq 152 (.load 1 false (.t 151)) 150 false,gq 153 (.CD (.t 29)) 150 false,gq 154 (.len false (.t 153)) 150 false,gq 155 (.bin .none .geq (.t 152) (.t 154)) 150 false,gp 156 (.pick (.t 150) (.c (.bool true)) (.t 155))] [0,8,9,10,11,12,13,14,15,17,18,29,41,42,43,156] (.cond (.t 156) (.ops [oF 157 0 18,gn (.store 1 (.t 157) (ci 2))] none [0,8,9,10,11,12,13,14,15,18,41,42,43]) (.ops [oM 158 29,oF 159 5 17,oL 160 159,oI 161 1 158 160,oL 162 161,oF 163 1 18,oS 1 163 162] none [0,8,9,10,11,12,13,14,15,18,41,42,43])))) (sq [oJ 165 .eql 48 6,oM 164 165] [0,8,9,10,11,12,13,14,15,17,18,41,42,43,48,164] (.cond (.t 164) (sq [oC 31 0] [0,8,9,10,11,12,13,14,15,18,31,41,42,43] (.seq (.block 3 (.loop [0,8,9,10,11,12,13,14,15,18,41,42,43] [31] 9 (.seq (sq [oM 166 31,oJ 167 .lss 166 4,gb 168 (.CD (.t 167)),gq 169 (.CD (.t 31)) 168 true,gq 170 (.DT 1 (some 4) (.t 10) (.t 169)) 168 true,gq 171 (.load 1 false (.t 170)) 168 true,gp 172 (.pick (.t 168) (.t 171) (.c (.bool false)))] [0,8,9,10,11,12,13,14,15,18,31,41,42,43,172] (.cond (.t 172) .skip (.exit 3))) (.block 4 (.ops [oM 173 31,oJ 174 .add 173 1,oM 31 174] none [0,8,9,10,11,12,13,14,15,18,31,41,42,43]))))) (sq [oM 175 31,oJ 176 .geq 175 4] [0,8,9,10,11,12,13,14,15,18,31,41,42,43,176] (.cond (.t 176) (.ops [oF 177 0 18,gn (.store 1 (.t 177) (ci 8))] none [0,8,9,10,11,12,13,14,15,18,41,42,43]) (sq [oM 178 31,oM 179 11,gp 180 (.DT 1 (some 4) (.t 9) (.t 178)),oS 1 180 179] [0,8,9,10,11,12,13,14,15,18,31,41,42,43] (sq [oM 181 31,gp 182 (.DT 1 (some 4) (.t 10) (.t 181)),gn (.store 1 (.t 182) (.c (.bool true)))] [0,8,9,10,11,12,13,14,15,18,31,41,42,43] (.ops [oM 183 31,oF 184 1 18,oS 1 184 183] none [0,8,9,10,11,12,13,14,15,18,41,42,43]))))))) (.join [0,8,9,10,11,12,13,14,15,17,18,41,42,43,48] [185] 9 (sq [oJ 186 .eql 48 7,oM 185 186] [0,8,9,10,11,12,13,14,15,17,18,41,42,43,48,185] (.cond (.t 185) .skip (.ops [oJ 187 .eql 48 8,oM 185 187] none [0,8,9,10,11,12,13,14,15,17,18,41,42,43,48,185]))) (.cond (.t 185) (.block 5 (sq [oF 192 5 17,oL 193 192,oJ 194 .lss 193 0,gb 195 (.CD (.t 194)),gq 196 (.Bo 5 (.t 17)) 195 false,gq 197 (.load 1 false (.t 196)) 195 false,gq 198 (.bin .none .gtr (.t 197) (ci 3)) 195 false,gp 199 (.pick (.t 195) (.c (.bool true)) (.t 198)),gb 200 (.CD (.t 199)),gq 201 (.Bo 5 (.t 17)) 200 false,gq 202 (.load 1 false (.t 201)) 200 false,gq 203 (.DT 1 (some 4) (.t 10) (.t 202)) 200 false,gq 204 (.load 1 false (.t 203)) 200 false,gq 205 (.not (.t 204)) 200 false,gp 206 (.pick (.t 200) (.c (.bool true)) (.t 205)),oM 191 206] [0,8,9,10,11,12,13,14,15,17,18,41,42,43,191] (.cond (.t 191) (.ops [oF 207 0 18,gn (.store 1 (.t 207) (ci 7))] none [0,8,9,10,11,12,13,14,15,18,41,42,43]) (sq [oF 209 0 17,oL 210 209,oJ 211 .eql 210 8,oM 208 211] [0,8,9,10,11,12,13,14,15,17,18,41,42,43,208] (.cond (.t 208) (.ops [oF 212 5 17,oL 213 212,gp 214 (.DT 1 (some 4) (.t 9) (.t 213)),oL 215 214,oF 216 4 18,oS 1 216 215] none [0,8,9,10,11,12,13,14,15,18,41,42,43]) (.ops [oF 188 5 17,oL 189 188,gp 190 (.DT 1 (some 4) (.t 10) (.t 189)),gn (.store 1 (.t 190) (.c (.bool false)))] none [0,8,9,10,11,12,13,14,15,18,41,42,43])))))) (sq [oJ 218 .eql 48 9,oM 217 218] [0,8,9,10,11,12,13,14,15,18,41,42,43,217] (.cond (.t 217) (.ops [oF 219 1 18,gn (.store 1 (.t 219) (.c (.int .i64 (-1))))] none [0,8,9,10,11,12,13,14,15,18,41,42,43]) (.ops [oF 49 0 18,gn (.store 1 (.t 49) (ci 3))] none [0,8,9,10,11,12,13,14,15,18,41,42,43]))))))))))))))))))) (sq [oM 220 13,oA 221 5 18,gp 222 (.Ax true 1 5 [(.int .i64 0),(.int .i64 0),(.int .i64 0),.AL,(.str [])] [(0,5,(.t 221))]),oP 223 5 64 220 222,oM 13 223] [0,8,9,10,11,12,13,14,15,41,42,43] (sq [oM 224 14,oM 225 11,gp 226 (.Ax true 1 1 [(.str [])] [(0,1,(.t 225))]),oP 227 1 16 224 226,oM 14 227] [0,8,9,10,11,12,13,14,15,41,42,43] (.ops [oM 228 15,gp 229 (.DT 1 (some 2) (.t 12) (ci 0)),oL 230 229,oM 231 11,oT 232 231,oB 233 .gtr 230 232,gb 234 (.CD (.t 233)),gq 235 (.DT 1 (some 2) (.t 12) (ci 1)) 234 true,gq 236 (.load 1 false (.t 235)) 234 true,gq 237 (.CD (.t 11)) 234 true,gq 238 (.len true (.t 237)) 234 true,gq 239 (.bin .none .gtr (.t 236) (.t 238)) 234 true,gp 240 (.pick (.t 234) (.t 239) (.c (.bool false))),gp 241 (.Ax true 1 1 [(.bool false)] [(0,1,(.t 240))]),oP 242 1 1 228 241,oM 15 242] none [0,8,9,10,11,12,13,14,15,41,42,43]))))))) (.ops [oJ 243 .add 43 1,oM 43 243] none [0,8,9,10,11,12,13,14,15,41,42,43]))))))) (sq [oM 244 13,oM 245 14,oM 246 15,oM 4 244,oM 5 245,oM 6 246,oC 7 0] [4,5,6,7] .ret))))))))))))
theorem KB:Mn Tryz.prog B1 247 QR [.tmp 4,.tmp 5,.tmp 6,.tmp 7]:=okW Tryz.func6
abbrev TM:Ag:=(sq [oV 4 (.c .AL),oV 5 (.c .AL),oC 6 0,oC 7 0,oC 8 0] [0,1] (.seq (sq [oM 19 0,oT 20 19,oJ 21 .gtr 20 600,gb 22 (.CD (.t 21)),gq 23 (.CD (.t 1)) 22 false,gq 24 (.len false (.t 23)) 22 false,gq 25 (.bin .none .gtr (.t 24) (ci 80)) 22 false,gp 26 (.pick (.t 22) (.c (.bool true)) (.t 25))] [0,1,26] (.cond (.t 26) (sq [oV 4 (.c .AL),oV 5 (.c .AL),oC 6 0,oC 7 0,oC 8 1] [4,5,6,7,8] .ret) .skip)) (sq [oM 27 0,gp 28 (.Ax false 1 1 [(.str [])] [(0,1,(.t 27))]),oM 9 28] [1,9] (sq [oC 10 0] [1,9,10] (sq [oV 11 (.c (.bool false))] [1,9,10,11] (sq [gp 12 (.DE 1)] [1,9,10,11,12] (sq [gp 13 (.DE 1)] [1,9,10,11,12,13] (.seq (sq [oM 29 1,oN 30 29,oC 31 0] [9,10,11,12,13,29,30,31] (.block 0 (.loop [29,30] [9,10,11,12,13,31] 3 (sq [oB 32 .lss 31 30] [9,10,11,12,13,29,30,31,32] (.seq (.cond (.t 32) .skip (.exit 0)) (.seq (.block 1 (sq [oI 33 4 29 31,oA 34 4 33,gp 15 (.alloc 0 [(.int .i64 0),(.int .i64 0),(.int .i64 0),(.str [])]),oS 4 15 34] [9,10,11,12,13,15,29,30,31] (sq [oC 16 0] [9,10,11,12,13,15,16,29,30,31] (sq [oM 35 9,oM 36 10,oI 37 1 35 36,oL 38 37,oM 17 38] [9,10,11,12,13,15,16,17,29,30,31] (.join [12,13,29,30,31] [9,10,11,16] 5 (sq [oF 39 0 15,oL 40 39] [9,10,11,12,13,15,16,17,29,30,31,40] (.block 2 (sq [oJ 42 .eql 40 1,oM 41 42] [9,10,11,12,13,15,16,17,29,30,31,40,41] (.cond (.t 41) (.seq (sq [oM 43 17,oT 44 43,oF 45 1 15,oA 46 3 45,oG 47 CU [(.t 44),(.t 46)],oM 16 47] [9,10,11,12,13,15,16,17,29,30,31] (sq [oM 48 16,oJ 49 .neq 48 0] [9,10,11,12,13,15,16,17,29,30,31,49] (.cond (.t 49) (.exit 2) .skip))) (sq [oM 50 9,oM 51 10,oJ 52 .add 51 1,gp 53 (.slice 1 (.t 50) none (some (.t 52))),oM 9 53] [9,10,11,12,13,15,16,17,29,30,31] (sq [oM 54 17,oF 55 1 15,oA 56 3 55,oG 57 Cx [(.t 54),(.t 56)],oM 18 57] [9,10,11,12,13,16,18,29,30,31] (.seq (sq [oM 58 11] [9,10,11,12,13,16,18,29,30,31,58] (.cond (.t 58) (sq [oM 59 9,oM 60 10,oM 61 18,oI 62 1 59 60,oS 1 62 61] [9,10,11,12,13,16,29,30,31] (.exit 2)) .skip)) (sq [oM 63 9,gp 64 (.append 1 16 (.c .AL) (.t 63)),oM 65 18,gp 66 (.Ax true 1 1 [(.str [])] [(0,1,(.t 65))]),oP 67 1 16 64 66,oM 9 67] [9,10,12,13,16,29,30,31] (sq [oM 68 10,oJ 69 .add 68 1,oM 10 69] [9,10,12,13,16,29,30,31] (sq [oV 11 (.c (.bool true))] [9,10,11,12,13,16,29,30,31] (sq [oM 70 10,oJ 71 .gtr 70 20] [9,10,11,12,13,16,29,30,31,71] (.cond (.t 71) (sq [oM 72 9,gp 73 (.slice 1 (.t 72) (some (ci 1)) none),oM 9 73] [9,10,11,12,13,16,29,30,31] (.ops [oM 74 10,oJ 75 .sub 74 1,oM 10 75] none [9,10,11,12,13,16,29,30,31])) .skip))))))))) (sq [oJ 77 .eql 40 2,oM 76 77] [9,10,11,12,13,16,29,30,31,40,76] (.cond (.t 76) (.ops [oV 11 (.c (.bool false))] none [9,10,11,12,13,16,29,30,31]) (sq [oJ 79 .eql 40 3,oM 78 79] [9,10,11,12,13,16,29,30,31,40,78] (.cond (.t 78) (.seq (sq [oM 80 10,oJ 81 .eql 80 0] [9,10,11,12,13,16,29,30,31,81] (.cond (.t 81) (sq [oC 16 7] [9,10,11,12,13,16,29,30,31] (.exit 2)) .skip)) (sq [oM 82 10,oJ 83 .sub 82 1,oM 10 83] [9,10,12,13,16,29,30,31] (.ops [oV 11 (.c (.bool false))] none [9,10,11,12,13,16,29,30,31]))) (sq [oJ 85 .eql 40 4,oM 84 85] [9,10,11,12,13,16,29,30,31,84] (.cond (.t 84) (.seq (sq [oM 86 10,oJ 87 .add 86 1,oM 88 9,oN 89 88,oB 90 .eql 87 89] [9,10,11,12,13,16,29,30,31,90] (.cond (.t 90) (sq [oC 16 7] [9,10,11,12,13,16,29,30,31] (.exit 2)) .skip)) (sq [oM 91 10,oJ 92 .add 91 1,oM 10 92] [9,10,12,13,16,29,30,31] (.ops [oV 11 (.c (.bool false))] none [9,10,11,12,13,16,29,30,31]))) (.ops [oC 16 3] none [9,10,11,12,13,16,29,30,31]))))))))))) (sq [oM 93 12,oM 94 9,oM 95 10,oI 96 1 94 95,oL 97 96,gp 98 (.Ax true 1 1 [(.str [])] [(0,1,(.t 97))]),oP 99 1 16 93 98,oM 12 99] [9,10,11,12,13,16,29,30,31] (.ops [oM 100 13,oM 101 16,gp 102 (.Ax true 1 1 [(.int .i64 0)] [(0,1,(.t 101))]),oP 103 1 8 100 102,oM 13 103] none [9,10,11,12,13,29,30,31]))))))) (.ops [oJ 104 .add 31 1,oM 31 104] none [9,10,11,12,13,29,30,31]))))))) (sq [oM 105 12,oM 106 13,oM 107 10,oM 108 9,oN 109 108,oJ 110 .sub 109 1,oM 111 10,oB 112 .sub 110 111,oM 4 105,oM 5 106,oM 6 107,oM 7 112,oC 8 0] [4,5,6,7,8] .ret)))))))))
theorem LP:Mn Tryz.prog Br 113 TM [.tmp 4,.tmp 5,.tmp 6,.tmp 7,.tmp 8]:=okW Tryz.func17
end Go.Proofs.YtlibocgedgdmlaaGreat.R
end
section
set_option maxRecDepth 100000
namespace Go.Proofs.YtlibocgedgdmlaaGreat.H
open Go.Vc Go.Fu
def iI (d:FQ):List AA:=[.int .i64 d.1,.int .i64 d.2.1,.int .i64 d.2.2.1,.str d.2.2.2]
theorem ck: ∀l:List FQ,(l.flatMap iI).length=l.length*4
 | []=>rfl
 | e::l=>by simp only [List.flatMap_cons,List.length_append,List.length_cons];rw [ck l];simp [iI];omega
theorem VL: ∀ {l:List FQ} {j:Nat} {d:FQ},l[j]?=some d->takeN 4 ((l.flatMap iI).drop (j*4))=some [.int .i64 d.1,.int .i64 d.2.1,.int .i64 d.2.2.1,.str d.2.2.2]
 | [],j,d,h=>by simp at h
 | a::l,0,d,h=>by simp at h;subst h;rfl
 | a::l,j+1,d,h=>by
  have:=VL (l:=l) (j:=j) (d:=d) (by simpa using h);rw [show (j+1)*4=j*4+4 by omega,List.flatMap_cons,show iI a=[.int .i64 a.1,.int .i64 a.2.1,.int .i64 a.2.2.1,.str a.2.2.2] from rfl,List.drop_append];simpa using this
theorem WV (s:Bytes):HC Tryz.prog Ge [.str s] HM.nil fun r m'=> ∃lh vh,r= .ptr lh vh 0/\KQ (BZ s) lh vh m':=by
 intro S mf hS;refine JU UB ?_;refine Nn fun v5 l5 S hS=>?_;refine Z7 ?_;exact ⟨pt l5 (.row v5 0 [.str s,.AL,.AL,.bool false])+(HM.nil+(HM.nil+(HM.nil+HM.nil))),⟨l5,v5,rfl,.AL,.AL,[],[],HM.nil,HM.nil,HM.nil,HM.nil,rfl,Ed.nil,⟨rfl,rfl⟩,Ed.nil,⟨rfl,rfl⟩⟩,hS.eq (by ac_rfl)⟩
def vz (s:Bytes) (l:List FQ) (r:AA) (m':HM):Prop:=
 (EI s l/\r= .DH [.B4,.AL,.AL,.int .i64 1])\/(¬EI s l/\ ∃lh vh p1 v1 p2 v2 mh,r= .DH [.ptr lh vh 0,.sl p1 v1 0 l.length,.sl p2 v2 0 l.length,.int .i64 0]/\KQ (Fm (BZ s) l) lh vh mh/\
  m'=pt p1 (.row v1 1 ((DO (BZ s) l).map .str))+(pt p2 (.row v2 1 ((DN (BZ s) l).map (.int .i64)))+mh))
theorem Y4 (hCk:BV Tryz.prog B8 C0) (hMd:BV Tryz.prog BU CR) (hUn:BV Tryz.prog CZ DZ) (s:Bytes) (l:List FQ) (hp:RP s l):
  HC Tryz.prog Jh [.str s,.Ez l.length (l.flatMap iI)] HM.nil (vz s l):=by
 obtain ⟨hs,hl,hd⟩:=hp;have hs:s.length<=140737488351232:=hs;have hl:l.length<=140737488351232:=hl;intro S mf hS;have hS:=hS.right;refine JU aG ?_;refine gJ ?_;refine AX (Am (BF (fun hg=>?_) (fun hg=>?_)));all_goals refine Z5 ?_
 ·refine Z1 ?_;refine BS rfl (fun _=>?_) (fun hb=>by cases hb);refine YI ?_;exact ⟨HM.nil,.inl ⟨.inl (by omega),rfl⟩,hS.eq (by ac_rfl)⟩
 refine Z1 ?_;refine Av rfl (fun hc=>?_) (fun hc=>?_)
 ·refine YI ?_;exact ⟨HM.nil,.inl ⟨.inr (by omega),rfl⟩,hS.eq (by ac_rfl)⟩
 have hbig: ¬EI s l:=by unfold EI;omega
 refine Z6 ?_;refine HC.use (WV s) (hS.eq (m':=HM.nil+mf) (by ac_rfl)) ?_;rintro r m' S ⟨lh,vh,rfl,hm⟩ hS;refine Z7 fun v9 l9 S hS=>?_;refine Z5 fun v10 l10 S hS=>?_;refine SI ?_;refine GY (fun n xs S=> ∃(j p1 v1 p2 v2:Nat) (mh:HM),xs=[.sl p1 v1 0 j,.sl p2 v2 0 j,.int .i64 (j:Int)]/\j<=l.length/\n=l.length-j/\KQ (Fm (BZ s) (l.take j)) lh vh mh/\
  Has S (pt p1 (.row v1 1 ((DO (BZ s) (l.take j)).map .str))+(pt p2 (.row v2 1 ((DN (BZ s) (l.take j)).map (.int .i64)))+(mh+mf)))) l.length ⟨0,l9,v9,l10,v10,m',rfl,Nat.zero_le _,rfl,hm,hS.eq (by show _=pt l9 (.row v9 1 [])+(pt l10 (.row v10 1 [])+(m'+mf));ac_rfl)⟩ ?_
 clear hS hm;rintro n xs S hl' ⟨j,p1,v1,p2,v2,mh,rfl,hj,rfl,hm,hS⟩;dsimp only [Er,List.map,Frame.get];refine Z6 ?_;refine Av rfl (fun hlt=>?_) (fun hlt=>?_)
 ·obtain ⟨d,hdj⟩: ∃d,l[j]?=some d:=⟨_,List.getElem?_eq_getElem (by omega)⟩
  have ht:=VL hdj;have e1:l.take (j+1)=l.take j++[d]:=by rw [List.take_add_one,hdj];rfl
  have ic:=F4.run (s:=s) (by unfold EI at hbig;omega) (l.take j);have lt:(l.take j).length=j:=by rw [List.length_take];omega
  rw [lt] at ic;have hfit:E_ d.2:=hd d (List.mem_of_getElem? hdj);have h80:l.length<=80:=by unfold EI at hbig;omega
  refine Z9 fun v12 l12 S hS=>?_;refine Z1 fun S hS=>?_;refine Z7 ?_;refine HC.use (SR hCk hMd hUn hm ic (by omega) hfit) hS ?_;rintro r m' S ⟨y,a,R,mh',X,rfl,sy,-,rfl,hm'⟩ hS;refine Z8 ?_;obtain ⟨xu,xr,cu,cr,mu,gu,mr,gr,rfl,q1,q2,q3,q4⟩:=hm';have hS:=(hS.right.eq (m':=(pt p1 (.row v1 1 ((DO (BZ s) (l.take j)).map .str))+(pt p2 (.row v2 1 ((DN (BZ s) (l.take j)).map (.int .i64)))+(pt lh (.row vh 0 [.str (Bh (Fm (BZ s) (l.take j)) d).1.text,xu,xr,.bool (Bh (Fm (BZ s) (l.take j)) d).1.O5])+(mu+(gu+(mr+gr)))+mf)))+X) (by ac_rfl)).left;refine Z7 ?_;refine AX ?_;refine EX hS rfl (DL.one rfl) rfl (by simp [JD,lt]) (by omega) fun v1' S hS=>?_;refine Z4 ?_;refine AX ?_;refine EX hS rfl (DL.one rfl) rfl (by simp [JC,lt]) (by omega) fun v2' S hS=>?_;refine SI ?_;refine ⟨l.length-(j+1),by omega,j+1,p1,v1',p2,v2',_,rfl,by omega,rfl,⟨xu,xr,cu,cr,mu,gu,mr,gr,rfl,?_,?_,?_,?_⟩,?_⟩
  ·rw [e1,G0];exact q1
  ·rw [e1,G0];exact q2
  ·rw [e1,G0];exact q3
  ·rw [e1,G0];exact q4
  ·rw [e1,LG,LF,List.map_append,List.map_append,G0];exact hS
 ·obtain rfl:j=l.length:=by omega
  rw [List.take_of_length_le (Nat.le_refl _)] at hS hm;refine x9 ?_;exact ⟨_,.inr ⟨hbig,lh,vh,p1,v1,p2,v2,mh,rfl,hm,rfl⟩,hS.eq (by ac_rfl)⟩
theorem QO {s:Bytes} {l:List FQ} (h: ¬EI s l):Dr s l=(DO (BZ s) l,DN (BZ s) l,0)/\Cc s l=(((Fm (BZ s) l).As.length:Int),((Fm (BZ s) l).DF.length:Int),(0:Int)):=by
 constructor
 ·unfold Dr H6;rw [if_neg h]
 ·unfold Cc H6;rw [if_neg h]
theorem Wf {s:Bytes} {l:List FQ} (h:EI s l):Dr s l=([],[],1)/\Cc s l=(0,0,1):=by
 constructor
 ·unfold Dr H6;rw [if_pos h]
 ·unfold Cc H6;rw [if_pos h]
theorem kW: ∀l:List Bytes,l.map AA.str=l.flatMap (BP .str)
 | []=>rfl
 | a::l=>by show AA.str a::l.map AA.str=AA.str a::l.flatMap (BP .str);rw [kW l]
theorem kV: ∀l:List Int,l.map (AA.int .i64)=l.flatMap (BP tI)
 | []=>rfl
 | a::l=>by show AA.int .i64 a::l.map (AA.int .i64)=AA.int .i64 a::l.flatMap (BP tI);rw [kV l]
end Go.Proofs.YtlibocgedgdmlaaGreat.H
end
section
set_option maxRecDepth 100000
set_option maxHeartbeats 2000000
namespace Go.Proofs.YtlibocgedgdmlaaGreat.R
open Go.Vc Go.Fu
open H (iI ck VL Zn Ou pB Zo VJ Zp VK Zq QO Wf)
theorem gh (hC:BV Tryz.prog CU EZ) {size:Int} {e:Bn} {S:AB} {K:AA->AB->Prop} (hs:AQ size/\E_ e) (h:K (.int .i64 (BX size e)) S):AV Tryz.prog CU [.int .i64 size,.agg [.int .i64 e.1,.int .i64 e.2.1,.str e.2.2]] S K:=hC.plain (size,e) hs rfl h
theorem Rc (hC:BV Tryz.prog Cx E8) {s:Bytes} {e:Bn} {S:AB} {K:AA->AB->Prop} (hs:Bg s.length e) (h:K (.str (AY s e)) S):AV Tryz.prog Cx [.str s,.agg [.int .i64 e.1,.int .i64 e.2.1,.str e.2.2]] S K:=hC.plain (s,e) hs rfl h
def jt (cs:List AA) (off:Nat) (L:List Bytes):Prop:=off+L.length<=cs.length/\A6 cs off L.length=L.map .str
theorem jt.get {cs:List AA} {off:Nat} {L:List Bytes} (h:jt cs off L) {i:Nat} {t:Bytes} (hi:L[i]?=some t):takeN 1 (cs.drop (off+i))=some [.str t]:=by
 have hlt:=(List.getElem?_eq_some_iff.1 hi).1;have h1:=h.1;have e:cs[off+i]?=some (.str t):=by
  have:(A6 cs off L.length)[i]?=some (.str t):=by rw [h.2,List.getElem?_map,hi];rfl
  unfold A6 at this;rw [List.getElem?_take,if_pos hlt,List.getElem?_drop] at this;exact this
 rw [FJ _ _ (by rw [List.length_drop];omega)];have:cs.drop (off+i)= .str t::cs.drop (off+i+1):=by
  obtain ⟨hl,he⟩:=List.getElem?_eq_some_iff.1 e;rw [List.drop_eq_getElem_cons hl,he]
 rw [this];rfl
theorem jt.head {cs:List AA} {off:Nat} {L:List Bytes} (h:jt cs off L) {n:Nat} (hn:n<=L.length):jt cs off (L.take n):=by
 have hl:(L.take n).length=n:=by rw [List.length_take];omega
 refine ⟨by rw [hl];have:=h.1;omega,?_⟩;rw [hl,List.map_take,<-h.2];unfold A6;rw [List.take_take,Nat.min_eq_left hn]
theorem jt.tail {cs:List AA} {off:Nat} {L:List Bytes} (h:jt cs off L) {n:Nat} (hn:n<=L.length):jt cs (off+n) (L.drop n):=by
 have h1:=h.1;refine ⟨by rw [List.length_drop];omega,?_⟩;rw [List.map_drop,<-h.2,List.length_drop];unfold A6;rw [List.drop_take,List.drop_drop]
theorem jt.set {cs:List AA} {off:Nat} {L:List Bytes} {t:Bytes} (h:jt cs off (L++[t])) (t':Bytes):jt (setCells cs (off+L.length) [.str t']) off (L++[t']):=by
 have h1:=h.1;simp only [List.length_append,List.length_singleton] at h1;have hl:(setCells cs (off+L.length) [.str t']).length=cs.length:=GC _ _ _;refine ⟨by rw [hl];simp;omega,?_⟩;apply List.ext_getElem?
 intro i;have g: ∀j,(setCells cs (off+L.length) [AA.str t'])[j]?=if off+L.length<=j/\j<off+L.length+1 then [AA.str t'][j-(off+L.length)]? else cs[j]?:=fun j=>KK cs _ _ j (by simp;omega)
 have e:=h.2;unfold A6 at*;rw [List.getElem?_take,List.getElem?_map];simp only [List.length_append,List.length_singleton] at e |-;by_cases hi:i<L.length+1
 ·rw [if_pos hi,List.getElem?_drop,g];by_cases hi2:i=L.length
  ·subst hi2;rw [if_pos (by omega),Nat.sub_self,List.getElem?_append_right (Nat.le_refl _),Nat.sub_self];rfl
  ·rw [if_neg (by omega),List.getElem?_append_left (by omega)];have:=congrArg (fun l=>l[i]?) e;simp only [List.getElem?_take,if_pos hi,List.getElem?_drop,List.getElem?_map,List.getElem?_append_left (show i<L.length by omega)] at this;exact this
 ·rw [if_neg hi,List.getElem?_eq_none (by simp;omega)];rfl
theorem Yn (h:Bz):(FM h)[h.As.length]?=some h.text:=by
 unfold FM;rw [List.getElem?_append_right (by rw [KP];exact Nat.le_refl _),KP,Nat.sub_self];rfl
theorem mg (h:Bz):(FM h).take (h.As.length+1)=GR h++[h.text]:=by
 unfold FM;rw [List.take_append,KP,List.take_of_length_le (by rw [KP];omega),show h.As.length+1-h.As.length=1 by omega];rfl
theorem mn {n:Nat} {h:Bz} {x:Bn} (i:F4 n h) (hx:Bg h.text.length x) (ho:h.O5=true):FM (Dq h x)=GR h++[AY h.text x]/\(Dq h x).As.length=h.As.length:=by
 have:=(S8 i hx).1 ho;refine ⟨?_,this.2.2⟩;rw [Sw i hx,this.2.1]
theorem mq {n:Nat} {h:Bz} {x:Bn} (i:F4 n h) (hx:Bg h.text.length x) (ho:h.O5=false):
  (20<h.As.length+1->FM (Dq h x)=(GR h++[h.text]++[AY h.text x]).drop 1/\(Dq h x).As.length=h.As.length)/\(¬20<h.As.length+1->FM (Dq h x)=GR h++[h.text]++[AY h.text x]/\(Dq h x).As.length=h.As.length+1):=by
 have:=(S8 i hx).2 ho;constructor
 ·intro hc;rw [if_pos hc,if_pos hc] at this;refine ⟨?_,this.2.2⟩;rw [Sw i hx,this.2.1];exact (List.drop_append_of_le_length (by simp)).symm
 ·intro hc;rw [if_neg hc,if_neg hc] at this;refine ⟨?_,this.2.2⟩;rw [Sw i hx,this.2.1]
theorem qp (hCk:BV Tryz.prog CU EZ) (hMd:BV Tryz.prog Cx E8) (s:Bytes) (l:List FQ) (hp:RP s l):
  HC Tryz.prog Br [.str s,.Ez l.length (l.flatMap iI)] HM.nil fun r m'=>(EI s l/\r= .DH [.AL,.AL,.int .i64 0,.int .i64 0,.int .i64 1])\/(¬EI s l/\ ∃p1 v1 p2 v2 X,r= .DH [.sl p1 v1 0 l.length,.sl p2 v2 0 l.length,.int .i64 (Fm (BZ s) l).As.length,.int .i64 (Fm (BZ s) l).DF.length,.int .i64 0]/\
   m'=pt p1 (.row v1 1 ((DO (BZ s) l).map .str))+(pt p2 (.row v2 1 ((DN (BZ s) l).map (.int .i64)))+X)):=by
 obtain ⟨hs,hl,hd⟩:=hp;have hs:s.length<=140737488351232:=hs;have hl:l.length<=140737488351232:=hl;intro S mf hS;have hS:=hS.right;refine JU LP ?_;refine rz ?_;refine AX (Am (BF (fun hg=>?_) (fun hg=>?_)));all_goals refine Z5 ?_
 ·refine Z1 ?_;refine BS rfl (fun _=>?_) (fun hb=>by cases hb);refine xI ?_;exact ⟨HM.nil,.inl ⟨.inl (by omega),rfl⟩,hS.eq (by ac_rfl)⟩
 refine Z1 ?_;refine Av rfl (fun hc=>?_) (fun hc=>?_)
 ·refine xI ?_;exact ⟨HM.nil,.inl ⟨.inr (by omega),rfl⟩,hS.eq (by ac_rfl)⟩
 have hbig: ¬EI s l:=by unfold EI;omega
 refine Z6 fun v28 l28 S hS=>?_;refine YI fun v12 l12 S hS=>?_;refine Z5 fun v13 l13 S hS=>?_;refine SI ?_;refine GY (fun n xs S=> ∃(j p v off:Nat) (cs:List AA) (p1 v1 p2 v2:Nat) (X:HM),xs=[.sl p v off (FM (Fm (BZ s) (l.take j))).length,.int .i64 (Fm (BZ s) (l.take j)).As.length,.bool (Fm (BZ s) (l.take j)).O5,.sl p1 v1 0 j,.sl p2 v2 0 j,.int .i64 (j:Int)]/\j<=l.length/\n=l.length-j/\
  jt cs off (FM (Fm (BZ s) (l.take j)))/\Has S (pt p1 (.row v1 1 ((DO (BZ s) (l.take j)).map .str))+(pt p2 (.row v2 1 ((DN (BZ s) (l.take j)).map (.int .i64)))+(pt p (.row v 1 cs)+(X+mf))))) l.length ⟨0,l28,v28,0,[.str s],l12,v12,l13,v13,HM.nil,rfl,Nat.zero_le _,rfl,⟨Nat.le_refl _,rfl⟩,hS.eq (by show _=pt l12 (.row v12 1 [])+(pt l13 (.row v13 1 [])+(pt l28 (.row v28 1 [.str s])+(HM.nil+mf)));ac_rfl)⟩ ?_
 clear hS;rintro n xs S hl' ⟨j,p,v,off,cs,p1,v1,p2,v2,X,rfl,hj,rfl,hln,hS⟩;dsimp only [Er,List.map,Frame.get];refine Z6 ?_;refine Av rfl (fun hlt=>?_) (fun hlt=>?_)
 ·obtain ⟨d,hdj⟩: ∃d,l[j]?=some d:=⟨_,List.getElem?_eq_getElem (by omega)⟩
  have ht:=VL hdj;have e1:l.take (j+1)=l.take j++[d]:=by rw [List.take_add_one,hdj];rfl
  have ic:=F4.run (s:=s) (by unfold EI at hbig;omega) (l.take j);have lt:(l.take j).length=j:=by rw [List.length_take];omega
  rw [lt] at ic;have hfit:E_ d.2:=hd d (List.mem_of_getElem? hdj);have h80:l.length<=80:=by unfold EI at hbig;omega
  have ll:=QK (Fm (BZ s) (l.take j));have ia:=ic.all;have il:=ic.len;have htx:=hln.get (Yn _);have nx:(DO (BZ s) (l.take (j+1)))=DO (BZ s) (l.take j)++[(Bh (Fm (BZ s) (l.take j)) d).1.text]:=by rw [e1,LG,G0]
  have nc:(DN (BZ s) (l.take (j+1)))=DN (BZ s) (l.take j)++[(Bh (Fm (BZ s) (l.take j)) d).2]:=by rw [e1,LF]
  have ne:Fm (BZ s) (l.take (j+1))=(Bh (Fm (BZ s) (l.take j)) d).1:=by rw [e1,G0]
  have tl:=JD (l.take j) (BZ s);have cl:=JC (l.take j) (BZ s);rw [lt] at tl cl;generalize Fm (BZ s) (l.take j)=h at*;generalize DO (BZ s) (l.take j)=T at*;generalize DN (BZ s) (l.take j)=C at*;obtain ⟨kd,x⟩:=d;refine Z9 fun v15 l15 S hS=>?_;refine Z1 fun S hS=>?_;refine YI ?_;refine Hu fun K hK=>?_;have rest: ∀(h':Bz) (c:Int) (p v off:Nat) (cs:List AA) (X:HM) (S:AB),Bh h (kd,x)=(h',c)->jt cs off (FM h')->Has S (pt p1 (.row v1 1 (T.map .str))+(pt p2 (.row v2 1 (C.map (.int .i64)))+(pt p (.row v 1 cs)+(X+mf))))->K [.sl p v off (FM h').length,.int .i64 h'.As.length,.bool h'.O5,.int .i64 c] S:=by
   intro h' c p v off cs X S hde hln hS;refine hK _ _ rfl ?_;have ll':=QK h';have htx:=hln.get (Yn _);dsimp only [Er,List.map,Frame.get];refine Z6 ?_;refine AX ?_;refine Lm hS rfl rfl htx rfl ?_;refine Z2 ?_;refine AX ?_;refine EX hS rfl (DL.one rfl) rfl (by simp [tl]) (by omega) fun v1' S hS=>?_;refine Z8 ?_;refine AX ?_;refine EX hS rfl (DL.one rfl) rfl (by simp [cl]) (by omega) fun v2' S hS=>?_;refine Nn ?_;rw [hde] at nx nc ne;refine ⟨l.length-(j+1),by omega,j+1,p,v,off,cs,p1,v1',p2,v2',X,?_,by omega,rfl,?_,?_⟩
   ·rw [ne];rfl
   ·rw [ne];exact hln
   ·rw [nx,nc,List.map_append,List.map_append];exact hS
  refine ju ?_;refine Av rfl (fun h1=>?_) (fun h1=>?_)
  ·subst h1;refine Z8 ?_;refine gh hCk (size:=h.text.length) (e:=x) ⟨by unfold AQ;omega,hfit⟩ ?_;refine Nn ?_;refine gR rfl (fun hf=>?_) (fun hf=>?_)
   ·refine Z4 ?_;exact rest h _ p v off cs X _ (Zn hf).1 hln hS.right
   have hmay:Bg h.text.length x:=hf;rw [hf];have pl:=KP h;have hh:=hln.head (n:=h.As.length+1) (by omega);rw [mg] at hh;have hh1:=hh.1;simp only [List.length_append,List.length_singleton,pl] at hh1;refine Z7 ?_;refine AX ?_;refine VQ (h':=h.As.length+1) (j:=0) hS rfl rfl ⟨_,rfl⟩ rfl (by omega) (by omega) ?_;simp only [Nat.zero_mul,Nat.add_zero,Nat.sub_zero];refine Nn ?_;refine Rc hMd (s:=h.text) (e:=x) hmay ?_;refine Nn ?_;refine BS rfl (fun ho=>?_) (fun ho=>?_)
   ·refine Z6 ?_;refine AX ?_;refine G4 hS rfl rfl rfl rfl (by omega) fun S hS=>?_;(try dsimp only [AK,rd,Frame.get] at hS);refine Z7 ?_;obtain ⟨m1,m2⟩:=mn ic hmay ho;have hL:=hh.set (AY h.text x);rw [pl,<-m1] at hL;have:=rest (Dq h x) 0 p v off _ X _ (Ou hf).1 hL hS.right;rw [m1,m2] at this;simp only [List.length_append,List.length_singleton,pl] at this;rw [ho];exact this
   ·obtain ⟨m1,m2⟩:=mq ic hmay ho;have hsl:(A6 cs off ((h.As.length+1)*1)).length=(h.As.length+1)*1:=by unfold A6;rw [List.length_take,List.length_drop];omega
    have hR:A6 cs off ((h.As.length+1)*1)++[AA.str (AY h.text x)]=(GR h++[h.text]++[AY h.text x]).map .str:=by
     have:=hh.2;simp only [List.length_append,List.length_singleton,pl] at this;rw [Nat.mul_one,this];simp only [List.map_append,List.map_cons,List.map_nil]
    have hL:jt ((GR h++[h.text]++[AY h.text x]).map .str) 0 (GR h++[h.text]++[AY h.text x]):=⟨by simp,by unfold A6;rw [List.drop_zero,List.take_of_length_le (by simp)]⟩
    have hLl:(GR h++[h.text]++[AY h.text x]).length=h.As.length+1+1:=by simp [pl]
    refine Z5 ?_;refine AX ?_;refine TA hS rfl (DL.own rfl (by omega)) (by omega) fun v64 l64 S hS=>?_;refine Z3 ?_;refine AX ?_;refine EX hS rfl (DL.one rfl) rfl hsl (by omega) fun v67 S hS=>?_;refine Z3 ?_;rw [hR] at hS;have hS:=hS.wT.eq (m':=pt p1 (.row v1 1 (T.map .str))+(pt p2 (.row v2 1 (C.map (.int .i64)))+(pt l64 (.row v67 1 ((GR h++[h.text]++[AY h.text x]).map .str))+((X+pt p (.row v 1 cs))+mf)))) (by ac_rfl);refine yI ?_;refine Av rfl (fun hg=>?_) (fun hg=>?_)
    ·obtain ⟨m1,m2⟩:=m1 (by omega);refine Z3 ?_;refine AX (VQ hS rfl rfl rfl ⟨_,(rfl:_=AA.int .i64 ((1:Nat):Int))⟩ (by omega) (by omega) (Dj ?_));dsimp only [AK,rd,Frame.get];simp only [Nat.zero_mul,Nat.mul_zero,Nat.mul_one,Nat.add_zero,Nat.zero_add,Nat.sub_zero,Nat.reduceAdd,Nat.reduceMul];refine Nn ?_;have hT:=hL.tail (n:=1) (by omega);rw [<-m1] at hT;have:=rest (Dq h x) 0 l64 v67 (0+1) _ _ _ (Ou hf).1 hT hS;rw [m1,m2,List.length_drop,hLl] at this;rw [show ((h.As.length:Int)+1-1)=(h.As.length:Int) by omega];exact this
    ·obtain ⟨m1,m2⟩:=m2 (by omega);refine Z3 ?_;rw [<-m1] at hL;have:=rest (Dq h x) 0 l64 v67 0 _ _ _ (Ou hf).1 hL (by rw [m1];exact hS);rw [m1,m2,hLl] at this;exact this
  refine Z6 ?_;refine Av rfl (fun h2=>?_) (fun h2=>?_)
  ·subst h2;refine Z5 ?_;exact rest _ _ p v off cs X _ pB.1 hln hS.right
  refine Z6 ?_;refine Av rfl (fun h3=>?_) (fun h3=>?_)
  ·subst h3;refine Z7 ?_;refine Av rfl (fun hz=>?_) (fun hz=>?_)
   ·have hu:h.As=[]:=List.eq_nil_of_length_eq_zero (by omega);refine Z9 ?_;exact rest h 7 p v off cs X _ (Zo hu).1 hln hS.right
   ·have hu:h.As≠[]:=fun e=>hz (by rw [e];rfl);obtain ⟨i1,i2,i3⟩:=ic.ue hu;refine gJ ?_;have:=rest (RN h) 0 p v off cs X _ (VJ hu).1 (by rw [i2];exact hln) hS.right;rw [i2] at this;rw [show ((h.As.length:Int)-1)=((RN h).As.length:Int) by omega];exact this
  refine Z6 ?_;refine Av rfl (fun h4=>?_) (fun h4=>?_)
  ·subst h4;refine Nn ?_;refine Av rfl (fun hz=>?_) (fun hz=>?_)
   ·have hu:h.DF=[]:=List.eq_nil_of_length_eq_zero (by omega);refine Z9 ?_;exact rest h 7 p v off cs X _ (Zp hu).1 hln hS.right
   ·have hu:h.DF≠[]:=fun e=>hz (by rw [ll,e];simp);obtain ⟨i1,i2,i3⟩:=ic.uY hu;refine gJ ?_;have:=rest (Pl h) 0 p v off cs X _ (VK hu).1 (by rw [i2];exact hln) hS.right;rw [i2] at this;rw [show ((h.As.length:Int)+1)=((Pl h).As.length:Int) by omega];exact this
  ·skip
   refine Z5 ?_;exact rest h 3 p v off cs X _ (Zq h1 h2 h3 h4).1 hln hS.right
 ·obtain rfl:j=l.length:=by omega
  rw [List.take_of_length_le (Nat.le_refl _)] at hS hln |-;have ll:=QK (Fm (BZ s) l);have ia:=(F4.run (s:=s) (by unfold EI at hbig;omega) l).all;refine yM ?_;refine ⟨_,.inr ⟨hbig,p1,v1,p2,v2,pt p (.row v 1 cs)+X,?_,rfl⟩,hS.eq (by ac_rfl)⟩;rw [show (((FM (Fm (BZ s) l)).length:Int)-1-((Fm (BZ s) l).As.length:Int))=((Fm (BZ s) l).DF.length:Int) by omega]
theorem aH (hCk:BV Tryz.prog CU EZ) (hMd:BV Tryz.prog Cx E8):BV Tryz.prog Br FG:=by
 refine ⟨LP.1,fun (x:Bytes×List FQ) hp=>?_⟩;obtain ⟨s,l⟩:=x;refine HC.th (qp hCk hMd s l hp) ?_;rintro r m' S' (⟨hb,rfl⟩ | ⟨hb,p1,v1,p2,v2,X,rfl,rfl⟩) hS
 ·refine ⟨_,id,[],.refl _,V6,[.AL,.AL,.int .i64 0,.int .i64 0,.int .i64 1],?_,rfl⟩;show IQ [.own .str,.own tI,.val tI,.val tI,.val tI] ((Dr s l).1,(Dr s l).2.1,(Cc s l).1,(Cc s l).2.1,(Dr s l).2.2) 0 _ _;rw [(Wf hb).1,(Wf hb).2];exact .inr ⟨rfl,_,rfl,.inr ⟨rfl,_,rfl,_,rfl,_,rfl,_,rfl,rfl,rfl⟩⟩
 ·have hl1:=JD l (BZ s);have hl2:=JC l (BZ s);rw [H.kW,H.kV] at hS;refine ⟨.DH [.sl 0 v1 0 l.length,.sl 1 v2 0 l.length,.int .i64 (Fm (BZ s) l).As.length,.int .i64 (Fm (BZ s) l).DF.length,.int .i64 0],_,_,.DH (.cons .sl (.cons .sl (.refl _))),sm hS,[.sl 0 v1 0 l.length,.sl 1 v2 0 l.length,.int .i64 (Fm (BZ s) l).As.length,.int .i64 (Fm (BZ s) l).DF.length,.int .i64 0],?_,rfl⟩;show IQ [.own .str,.own tI,.val tI,.val tI,.val tI] ((Dr s l).1,(Dr s l).2.1,(Cc s l).1,(Cc s l).2.1,(Dr s l).2.2) 0 _ _;rw [(QO hb).1,(QO hb).2];refine .inl ⟨v1,[.sl 1 v2 0 l.length,.int .i64 (Fm (BZ s) l).As.length,.int .i64 (Fm (BZ s) l).DF.length,.int .i64 0],_,?_,rfl,.inl ⟨v2,[.int .i64 (Fm (BZ s) l).As.length,.int .i64 (Fm (BZ s) l).DF.length,.int .i64 0],[],?_,rfl,_,rfl,_,rfl,[],rfl,rfl,rfl⟩⟩
  ·show _=AA.sl 0 v1 0 (DO (BZ s) l).length::_;rw [hl1]
  ·show _=AA.sl 1 v2 0 (DN (BZ s) l).length::_;rw [hl2]
end Go.Proofs.YtlibocgedgdmlaaGreat.R
end
section
set_option maxRecDepth 100000
set_option maxHeartbeats 2000000
namespace Go.Proofs.YtlibocgedgdmlaaGreat.R
open Go.Vc Go.Fu
open Go.Proofs.YtlibocgedgdmlaaGreat.E (ints JV Bt Q_ Vr Pb MG)
theorem dp: ∀l:List Int,l.map (AA.int .i64)=l.flatMap (BP tI)
 | []=>rfl
 | a::l=>by show AA.int .i64 a::l.map (AA.int .i64)=AA.int .i64 a::l.flatMap (BP tI);rw [dp l]
set_option maxHeartbeats 1000000 in
theorem mM (hH:BV Tryz.prog Br FG) {s:Bytes} {l:List FQ} (hp:RP s l) (hsm: ¬EI s l) (hne:l≠[]) {x:AA} {a:HM} (hx:Ed 4 x (l.flatMap Pb) l.length a):
  HC Tryz.prog Br [.str s,x] a fun r m'=> ∃p1 v1 p2 v2,r= .DH [.sl p1 v1 0 l.length,.sl p2 v2 0 l.length,.int .i64 (Cc s l).1,.int .i64 (Cc s l).2.1,.int .i64 0]/\m'=pt p1 (.row v1 1 ((DO (BZ s) l).map .str))+(pt p2 (.row v2 1 ((DN (BZ s) l).map (.int .i64)))+a):=by
 intro S mf hS;have hl:0<l.length:=List.length_pos_iff.2 hne;have hfn:Dr s l=(DO (BZ s) l,DN (BZ s) l,0):=by unfold Dr H6;rw [if_neg hsm]
 obtain ⟨p,v,off,cs,rfl,rfl,hle,hcs⟩:=hx.pos hl;have hpS:=Has.here (l:=p) hS;refine AV.uS (hH.2 (s,l) hp) (fun E fz w vals st hr=>?_) fun r S' hr=>?_
 ·simp only [AZ] at hr;obtain ⟨u1,us,rfl,h1,u2,_,rfl,h2,rfl⟩:=hr;have h2':=QA st 1 _ _ h2;have e:Bc S 1 (.sl p v off l.length)=DV (.sl jd) l:=by
   rw [hx.Bc hS 0,Jf fun c hc=>rfl];rfl
  rw [e] at h2';exact ⟨u1,[u2],rfl,h1,u2,[],rfl,h2',rfl⟩
 ·obtain ⟨ys,h1,rfl⟩:=hr;have h1:IQ [.own .str,.own tI,.val tI,.val tI,.val tI] ((Dr s l).1,(Dr s l).2.1,(Cc s l).1,(Cc s l).2.1,(Dr s l).2.2) 0 ys S':=h1;rw [hfn] at h1;have n1:=JD l (BZ s);have n2:=JC l (BZ s);rcases h1 with ⟨v1,ys',S1,rfl,rfl,h2⟩ | ⟨h0,_⟩
  ·rcases h2 with ⟨v2,ys2,S2,rfl,rfl,h3⟩ | ⟨h0,_⟩
   ·obtain ⟨_,rfl,_,rfl,_,rfl,rfl,rfl⟩:=h3;have e1:(DO (BZ s) l).flatMap (BP .str)=(DO (BZ s) l).map .str:=(MG _).symm;have e2:(DN (BZ s) l).flatMap (BP tI)=(DN (BZ s) l).map (.int .i64):=(dp _).symm;refine ⟨.DH [.sl S.length v1 0 l.length,.sl (S.length+1) v2 0 l.length,.int .i64 (Cc s l).1,.int .i64 (Cc s l).2.1,.int .i64 0],?_,rfl,fun o ho=>?_,?_⟩
    ·show PS (.DH [.sl 0 v1 0 (DO (BZ s) l).length,.sl 1 v2 0 (DN (BZ s) l).length,.int .i64 (Cc s l).1,.int .i64 (Cc s l).2.1,.int .i64 0]) _;rw [n1,n2];exact .DH (.cons .sl (.cons .sl (.refl _)))
    ·rcases List.mem_cons.1 ho with rfl | ho
     ·exact O0 (t:= .str) rfl _
     ·rcases List.mem_cons.1 ho with rfl | ho
      ·exact O0 (t:=tI) rfl _
      ·cases ho
    ·show ∃m',_/\Has (S++[.row v1 1 ((DO (BZ s) l).flatMap (BP .str)),.row v2 1 ((DN (BZ s) l).flatMap (BP tI))]) _;rw [e1,e2];have g:=(hS.more (.row v1 1 ((DO (BZ s) l).map .str))).more (.row v2 1 ((DN (BZ s) l).map (.int .i64)));rw [List.length_append,List.append_assoc] at g;exact ⟨_,⟨_,_,_,_,rfl,rfl⟩,g.eq (by show pt (S.length+1) _+_=_;ac_rfl)⟩
   ·exact absurd (show DN (BZ s) l=[] from h0) (fun q=>by rw [q] at n2;simp at n2;omega)
  ·exact absurd (show DO (BZ s) l=[] from h0) (fun q=>by rw [q] at n1;simp at n1;omega)
end Go.Proofs.YtlibocgedgdmlaaGreat.R
end
section
set_option maxRecDepth 100000
set_option maxHeartbeats 2000000
namespace Go.Proofs.YtlibocgedgdmlaaGreat.R
open Go.Vc Go.Fu
open Go.Proofs.YtlibocgedgdmlaaGreat.E (M0 LC ints_at ints JV Bt Q_ Vr Pb MG)
theorem nW (h:BV Tryz.prog D9 G7) {s:Bytes} (hs:s.length<=600) (n:Int):RC Tryz.prog D9 [.str s,.int .i64 n] (.DH [.agg [.int .i64 (FP s n).1.1,.int .i64 (FP s n).1.2.1,.int .i64 (FP s n).1.2.2],.int .i64 (FP s n).2]):=
 h.plain (S:=[]) (K:=fun r _=>r= .DH [.agg [.int .i64 (FP s n).1.1,.int .i64 (FP s n).1.2.1,.int .i64 (FP s n).1.2.2],.int .i64 (FP s n).2]) (s,n) (by show s.length<=_;omega) rfl rfl
theorem sZ (h:BV Tryz.prog B_ Eb) {s w:Bytes} (hs:s.length<=600) (hw:Hw w):RC Tryz.prog B_ [.str s,.str w] (.DH [.Ez (CP s w).1.length (ints (CP s w).1),.int .i64 (CP s w).2]):=by
 have hq:RC Tryz.prog B_ [.str s,.str w] (.DH [DV (.sl tI) (CP s w).1,DV tI (CP s w).2]):=BV.kP h (s,w) ⟨by show s.length<=_;omega,hw⟩ (fun _ _=>rfl);rw [JV] at hq;exact hq
theorem pn (h:BV Tryz.prog B9 Ea) {s:Bytes} (hs:s.length<=600):RC Tryz.prog B9 [.str s] (.DH [.Ez (AH s).length (ints ((AH s).map fun l=>(BJ l).1)),.int .i64 0]):=by
 have hq:RC Tryz.prog B9 [.str s] (.DH [DV (.sl tI) (EY s).1,DV tI (EY s).2]):=BV.kP h s trivial (fun _ _=>rfl);have e:EY s=((AH s).map fun l=>(BJ l).1,0):=by unfold EY;rw [if_neg (by omega)]
 rw [e,JV] at hq;have hl:((AH s).map fun l=>(BJ l).1).length=(AH s).length:=List.length_map ..;rw [hl] at hq;exact hq
abbrev De (l:List (Option Bytes)):List AA:=l.map fun o=>.bool o.isSome
def Nj (S4:List Bytes) (l:List (Option Bytes)):Prop:=S4.length=l.length/\ ∀(i:Nat) (t:Bytes),l[i]?=some (some t)->S4[i]?=some t
theorem wk (s:Bytes):Nj [[],[],[],[]] (Au s).e.BA:=⟨rfl,fun i t h=>by
 exfalso;have h0: ∀o∈(Au s).e.BA,o=none:=by simp [Au]
 have:=h0 _ (List.mem_of_getElem? h);cases this⟩
theorem HA {cs:List AA} {i:Nat} {x:AA} (h:cs[i]?=some x):takeN 1 (cs.drop i)=some [x]:=by
 have hi:=(List.getElem?_eq_some_iff.1 h).1;rw [List.drop_eq_getElem_cons hi,(List.getElem?_eq_some_iff.1 h).2];simp [takeN]
theorem Nj.set {S4:List Bytes} {l:List (Option Bytes)} {i:Nat} {t:Bytes} (h:Nj S4 l):Nj (S4.set i t) (l.set i (some t)):=by
 refine ⟨by simp [h.1],fun k u hk=>?_⟩;rw [List.getElem?_set] at hk |-;by_cases c:i=k
 ·rw [if_pos c] at hk |-;split at hk
  ·rw [if_pos (by have:=h.1;omega)];injection hk with hk
  ·cases hk
 ·rw [if_neg c] at hk |-;exact h.2 k u hk
theorem Nj.w4 {S4:List Bytes} {l:List (Option Bytes)} {i:Nat} (h:Nj S4 l):Nj S4 (l.set i none):=by
 refine ⟨by simp [h.1],fun k u hk=>?_⟩;rw [List.getElem?_set] at hk;by_cases c:i=k
 ·rw [if_pos c] at hk;split at hk
  ·cases hk
  ·cases hk
 ·rw [if_neg c] at hk;exact h.2 k u hk
section
variable {P : Program} {F : Vc.Frame} {S : AB} {K : AA -> AB -> Prop} {x y : AO}
theorem tP {k b n p v off:Nat} {cells ys:List AA} {md mr:HM} (hS:Has S (md+mr)) (hx:rd F x= .sl p v off n) (hs:Ed k (.sl p v off n) cells n md) (hy:DL (md+mr) k (rd F y) 1 ys) (hl:ys.length=k) (hb:(n+1)*b<=140737488355328)
  (h: ∀(X8:AA) (m8 a8 R8 md' R9:HM) (S':AB),Ed k X8 (cells++ys) (n+1) a8->m8=a8+R8->m8=md'+R9->Ed k (.sl p v off n) cells n md'->Has S' (m8+mr)->K X8 S'):AF P F S K (.XQ k b x y):=by
 rcases hs with ⟨h1,_⟩ | ⟨p',v',off',cs,e,rfl,hle,rfl⟩
 ·cases h1
 cases e;have ht:(cs.take (off+n*k)).length=off+n*k:=by rw [List.length_take];omega
 have hsub: ∀zs:List AA,A6 (cs.take (off+n*k)++zs) off (n*k)=A6 cs off (n*k):=fun zs=>by
  unfold A6;rw [List.drop_append_of_le_length (by omega),List.take_append_of_le_length (by rw [List.length_drop];omega),List.drop_take,List.take_take];congr 1;omega
 refine vC hS hx hy (by omega) rfl hle hb (fun S' hS'=>?_) fun v' l' S' hS'=>?_
 ·refine h _ (pt p (.row v k (cs.take (off+n*k)++ys))) (pt p (.row v k (cs.take (off+n*k)++ys))) HM.nil (pt p (.row v k (cs.take (off+n*k)++ys))) HM.nil S' (.inr ⟨p,v,off,_,rfl,rfl,?_,?_⟩) (HM.add_nil _).symm (HM.add_nil _).symm (.inr ⟨p,v,off,_,rfl,rfl,?_,(hsub _).symm⟩) hS'
  ·rw [List.length_append,ht,hl,Nat.add_mul];omega
  ·have e:(cs.take (off+n*k)).drop off=(cs.drop off).take (n*k):=by rw [List.drop_take];congr 1;omega
   unfold A6;rw [List.drop_append_of_le_length (by omega),e,List.take_of_length_le (l:=(cs.drop off).take (n*k)++ys)];rw [List.length_append,List.length_take,List.length_drop,hl,Nat.add_mul];omega
  ·rw [List.length_append,ht];omega
 ·refine h _ (pt l' (.row v' k (A6 cs off (n*k)++ys))+pt p (.row v k cs)) (pt l' (.row v' k (A6 cs off (n*k)++ys))) (pt p (.row v k cs)) (pt p (.row v k cs)) (pt l' (.row v' k (A6 cs off (n*k)++ys))) S' (Ed.whole ?_) rfl (by ac_rfl) (.inr ⟨p,v,off,cs,rfl,rfl,hle,rfl⟩) (hS'.eq (by ac_rfl));rw [List.length_append,hl];unfold A6;rw [List.length_take,List.length_drop,Nat.add_mul];omega
end
def TC (t:P4) (cs:List AA):Prop:= ∃x,cs=[.int .i64 t.1,.int .i64 t.2.1,.int .i64 t.2.2.1,x,.str t.2.2.2.2]/\(x= .Ez t.2.2.2.1.length (ints t.2.2.2.1)\/(x= .AL/\t.2.2.2.1=[]))
def I8:List P4->List AA->Prop
 | [],cs=>cs=[]
 | t::l,cs=> ∃c cs',cs=c++cs'/\TC t c/\I8 l cs'
theorem TC.len {t:P4} {cs:List AA} (h:TC t cs):cs.length=5:=by obtain ⟨x,rfl,_⟩:=h;rfl
theorem I8.SM: ∀ {l:List P4} {cs:List AA},I8 l cs->cs.length=l.length*5
 | [],cs,h=>by rw [h];rfl
 | t::l,cs,⟨c,cs',h1,h2,h⟩=>by rw [h1,List.length_append,h2.len,I8.SM h,List.length_cons];omega
theorem I8.snoc: ∀ {l:List P4} {cs:List AA},I8 l cs-> ∀ {t:P4} {c:List AA},TC t c->I8 (l++[t]) (cs++c)
 | [],cs,h,t,c,h'=>by rw [h];exact ⟨c,[],by simp,h',rfl⟩
 | t0::l,cs,⟨c0,cs',h1,h2,h⟩,t,c,h'=>by subst h1;exact ⟨c0,_,by rw [List.append_assoc],h2,I8.snoc h h'⟩
theorem I8.deref {S:AB}: ∀ {l:List P4} {cs:List AA},I8 l cs->cs.map (Bc S 1)=l.flatMap (BP NY)
 | [],cs,h=>by rw [h];rfl
 | t::l,cs,⟨c,cs',h1,⟨x,h2,h3⟩,h⟩=>by
  subst h1;subst h2;rw [List.map_append,I8.deref h];show _=[AA.int .i64 t.1,.int .i64 t.2.1,.int .i64 t.2.2.1,DV (.sl tI) t.2.2.2.1,.str t.2.2.2.2]++l.flatMap (BP NY);rw [JV];rcases h3 with rfl | ⟨rfl,e⟩
  ·rfl
  ·rw [e];rfl
def oe (s:Bytes) (j:Nat) (R:JY) (x8:AA) (l9 v9 l10 v10 l12 v12:Nat) (m:HM):Prop:= ∃(deeds:List FQ) (md:HM) (S4:List Bytes),Ed 4 x8 (deeds.flatMap Pb) deeds.length md/\(∃p v off,x8= .sl p v off deeds.length)/\Fm (BZ s) deeds=R.e.h/\deeds.length<=j/\(∀d∈deeds,E_ d.2)/\Nj S4 R.e.BA/\R.e.BA.length=4/\0<=R.w0/\R.w0<=j/\0<=R.w1/\R.w1<=j/\
 m=md+(pt l9 (.row v9 1 (S4.map .str))+(pt l10 (.row v10 1 (De R.e.BA))+pt l12 (.row v12 1 [.int .i64 R.w0,.int .i64 R.w1])))
theorem oe.more {s:Bytes} {j:Nat} {R:JY} {x8:AA} {l9 v9 l10 v10 l12 v12:Nat} {m:HM} (h:oe s j R x8 l9 v9 l10 v10 l12 v12 m):oe s (j+1) R x8 l9 v9 l10 v10 l12 v12 m:=by
 obtain ⟨deeds,md,S4,a,b,c,d,e,f,g,h1,h2,h3,h4,h5⟩:=h;exact ⟨deeds,md,S4,a,b,c,by omega,e,f,g,h1,by omega,h3,by omega,h5⟩
set_option maxHeartbeats 4000000 in
theorem eN (hH:BV Tryz.prog Br FG) (hPA:BV Tryz.prog D9 G7) (hWF:BV Tryz.prog B_ Eb) (hPL:BV Tryz.prog B9 Ea)
  (s:Bytes) (l:List Rq) (hp:Nx s l):
  HC Tryz.prog B1 [.str s,.Ez l.length (l.flatMap Bt)] HM.nil fun r m'=>(Gd s l/\r= .DH [.AL,.AL,.AL,.int .i64 1])\/(¬Gd s l/\ ∃p1 v1 p2 v2 p3 v3 cs X,r= .DH [.sl p1 v1 0 l.length,.sl p2 v2 0 l.length,.sl p3 v3 0 l.length,.int .i64 0]/\I8 (Ds (Au s) l) cs/\
   m'=pt p1 (.row v1 5 cs)+(pt p2 (.row v2 1 ((Bx (Au s) l).map .str))+(pt p3 (.row v3 1 ((Bl (Au s) l).map .bool))+X))):=by
 obtain ⟨hs,hl,hd⟩:=hp;have hs:s.length<=140737488351232:=hs;have hl:l.length<=140737488351232:=hl;intro S mf hS;have hS:=hS.right;refine JU KB ?_;refine gJ ?_;refine AX (Am (BF (fun hg=>?_) (fun hg=>?_)));all_goals refine Z5 ?_
 ·refine Z1 ?_;refine BS rfl (fun _=>?_) (fun hb=>by cases hb);refine YI ?_;exact ⟨HM.nil,.inl ⟨.inl (by omega),rfl⟩,by rw [HM.nil_add];exact hS⟩
 refine Z1 ?_;refine Av rfl (fun hc=>?_) (fun hc=>?_)
 ·refine YI ?_;exact ⟨HM.nil,.inl ⟨.inr (by omega),rfl⟩,by rw [HM.nil_add];exact hS⟩
 have hbig: ¬Gd s l:=by unfold Gd;omega
 have h600:s.length<=600:=by omega
 have h80:l.length<=80:=by omega
 refine Z5 fun v8 l8 S hS=>?_;refine Z5 fun v9 l9 S hS=>?_;refine Z5 fun v10 l10 S hS=>?_;refine SI fun v12 l12 S hS=>?_;refine Z5 fun v13 l13 S hS=>?_;refine Z5 fun v14 l14 S hS=>?_;refine Z5 fun v15 l15 S hS=>?_;refine SI ?_;refine GY (fun n xs S=> ∃(j p1 v1 p2 v2 p3 v3:Nat) (cs:List AA) (x8:AA) (m2 X:HM),xs=[x8,.str (Ft (Au s) (l.take j)).e.h.text,.sl p1 v1 0 j,.sl p2 v2 0 j,.sl p3 v3 0 j,.int .i64 (j:Int)]/\j<=l.length/\n=l.length-j/\I8 (Ds (Au s) (l.take j)) cs/\oe s j (Ft (Au s) (l.take j)) x8 l9 v9 l10 v10 l12 v12 m2/\
  Has S (pt p1 (.row v1 5 cs)+(pt p2 (.row v2 1 ((Bx (Au s) (l.take j)).map .str))+(pt p3 (.row v3 1 ((Bl (Au s) (l.take j)).map .bool))+(m2+(X+mf)))))) l.length ⟨0,l13,v13,l14,v14,l15,v15,[],.sl l8 v8 0 0,(pt l8 (.row v8 4 [])+(pt l9 (.row v9 1 [.str [],.str [],.str [],.str []])+(pt l10 (.row v10 1 [.bool false,.bool false,.bool false,.bool false])+pt l12 (.row v12 1 [.int .i64 0,.int .i64 0])))),HM.nil,rfl,Nat.zero_le _,rfl,rfl,⟨[],pt l8 (.row v8 4 []),[[],[],[],[]],.inr ⟨l8,v8,0,[],rfl,rfl,by simp,rfl⟩,⟨_,_,_,rfl⟩,rfl,Nat.le_refl _,fun d hd=>(by cases hd),wk s,rfl,Int.le_refl _,Int.le_refl _,Int.le_refl _,Int.le_refl _,rfl⟩,
   hS.eq (by rw [HM.nil_add];show _=pt l13 (.row v13 5 [])+(pt l14 (.row v14 1 [])+(pt l15 (.row v15 1 [])+(pt l8 (.row v8 4 [])+(pt l9 (.row v9 1 [.str [],.str [],.str [],.str []])+(pt l10 (.row v10 1 [.bool false,.bool false,.bool false,.bool false])+pt l12 (.row v12 1 [.int .i64 0,.int .i64 0])))+mf)));ac_rfl)⟩ ?_
 clear hS;rintro n xs S hl' ⟨j,p1,v1,p2,v2,p3,v3,cs,x8,m2,X,rfl,hj,rfl,hT,hR,hS⟩;dsimp only [Er,List.map,Frame.get];refine Z6 ?_;refine Av rfl (fun hlt=>?_) (fun hlt=>?_);rotate_left
 ·obtain rfl:j=l.length:=by omega
  rw [List.take_of_length_le (Nat.le_refl _)] at hS hT;refine x9 ?_;exact ⟨_,.inr ⟨hbig,p1,v1,p2,v2,p3,v3,cs,m2+X,rfl,hT,rfl⟩,hS.eq (by ac_rfl)⟩
 obtain ⟨r,hrj⟩: ∃r,l[j]?=some r:=⟨_,List.getElem?_eq_getElem (by omega)⟩
 have ht:=Q_ hrj;have e1:l.take (j+1)=l.take j++[r]:=by rw [List.take_add_one,hrj];rfl
 have lt:(l.take j).length=j:=by rw [List.length_take];omega
 obtain ⟨f1,f2⟩:=hd r (List.mem_of_getElem? hrj);have hcl5:=hT.SM;rw [Ip,lt] at hcl5;obtain ⟨R,hRe⟩: ∃R,R=Ft (Au s) (l.take j):=⟨_,rfl⟩
 rw [<-hRe] at hR |-;refine Z9 fun v17 l17 S hS=>?_;refine Z1 fun S hS=>?_;refine Z5 fun v18 l18 S hS=>?_;refine Z2 ?_;refine Hu fun K1 hK1=>?_;have tail: ∀(x8':AA) (tc:List AA) (m3 X':HM) (S':AB),oe s (j+1) (CF R r).1 x8' l9 v9 l10 v10 l12 v12 m3->TC (CF R r).2 tc->
   Has S' (pt l18 (.row v18 0 tc)+(pt p1 (.row v1 5 cs)+(pt p2 (.row v2 1 ((Bx (Au s) (l.take j)).map .str))+(pt p3 (.row v3 1 ((Bl (Au s) (l.take j)).map .bool))+(m3+(X'+mf))))))->K1 [x8',.str (CF R r).1.e.h.text] S':=by
  clear hS;intro x8' tc m3 X' S hR' ⟨x,htc,hx⟩ hS;subst htc;have hTc:TC (CF R r).2 [.int .i64 (CF R r).2.1,.int .i64 (CF R r).2.2.1,.int .i64 (CF R r).2.2.2.1,x,.str (CF R r).2.2.2.2.2]:=⟨x,rfl,hx⟩
  generalize hTe:(CF R r).2=T at*;generalize hRe':(CF R r).1=R' at*;obtain ⟨deeds,md,S4,a1,a2,a3,a4,a5,a6,a7,a8,a9,a10,a11,rfl⟩:=hR';refine hK1 _ _ rfl ?_;dsimp only [Er,List.map,Frame.get];refine Z5 ?_;refine AX ?_;refine EX hS rfl (DL.one rfl) rfl hcl5 (by omega) fun v1' S hS=>?_;refine Z9 ?_;refine AX ?_;refine EX hS rfl (DL.one rfl) rfl (by simp [Io,lt]) (by omega) fun v2' S hS=>?_;refine Z4 ?_;by_cases hw:(R'.e.h.text.length:Int)<R'.w0
  ·have hmu:JW R'=decide ((R'.e.h.text.length:Int)<R'.w1):=by unfold JW;simp [hw]
   refine Z2 ?_;refine AX (Jj (j:=0) rfl rfl (by omega) (Dj ?_));dsimp only [AK,rd,Frame.get];simp only [Nat.zero_mul,Nat.mul_zero,Nat.mul_one,Nat.add_zero,Nat.zero_add,Nat.sub_zero,Nat.reduceAdd,Nat.reduceMul];refine Z4 ?_;refine AX ?_;refine Am (BF (fun hg=>?_) (fun hg=>by exfalso;omega));dsimp only [AK,rd,Frame.get];refine tk rfl (Jj (j:=1) rfl rfl (by omega) (Dj ?_));dsimp only [AK,rd,Frame.get];simp only [Nat.zero_mul,Nat.mul_zero,Nat.mul_one,Nat.add_zero,Nat.zero_add,Nat.sub_zero,Nat.reduceAdd,Nat.reduceMul];refine Z6 ?_;refine AX ?_;refine EX hS rfl (DL.one rfl) rfl (by simp [G6,lt]) (by omega) fun v3' S hS=>?_;refine Nn ?_;refine ⟨l.length-(j+1),by omega,j+1,p1,v1',p2,v2',p3,v3',cs++[.int .i64 T.1,.int .i64 T.2.1,.int .i64 T.2.2.1,x,.str T.2.2.2.2],x8',md+(pt l9 (.row v9 1 (S4.map .str))+(pt l10 (.row v10 1 (De R'.e.BA))+pt l12 (.row v12 1 [.int .i64 R'.w0,.int .i64 R'.w1]))),pt l18 (.row v18 0 [.int .i64 T.1,.int .i64 T.2.1,.int .i64 T.2.2.1,x,.str T.2.2.2.2])+X',?_,by omega,rfl,?_,?_,?_⟩;rotate_left 3
   ·rw [e1,Lp,Lo,<-hRe,hRe',List.map_append,List.map_append,List.map_cons,List.map_nil,List.map_cons,List.map_nil,hmu];exact hS.eq (by ac_rfl)
   ·rw [e1,LO,<-hRe,hRe'];rfl
   ·rw [e1,Lq,<-hRe,hTe];exact hT.snoc hTc
   ·rw [e1,LO,<-hRe,hRe'];exact ⟨deeds,md,S4,a1,a2,a3,a4,a5,a6,a7,a8,a9,a10,a11,rfl⟩
  ·have hmu:JW R'=false:=by unfold JW;simp [hw]
   refine Z2 ?_;refine AX (Jj (j:=0) rfl rfl (by omega) (Dj ?_));dsimp only [AK,rd,Frame.get];simp only [Nat.zero_mul,Nat.mul_zero,Nat.mul_one,Nat.add_zero,Nat.zero_add,Nat.sub_zero,Nat.reduceAdd,Nat.reduceMul];refine Z4 ?_;refine AX ?_;refine Am (BF (fun hg=>by exfalso;omega) (fun hg=>?_));dsimp only [AK,rd,Frame.get];refine Z7 ?_;refine AX ?_;refine EX hS rfl (DL.one rfl) rfl (by simp [G6,lt]) (by omega) fun v3' S hS=>?_;refine Nn ?_;refine ⟨l.length-(j+1),by omega,j+1,p1,v1',p2,v2',p3,v3',cs++[.int .i64 T.1,.int .i64 T.2.1,.int .i64 T.2.2.1,x,.str T.2.2.2.2],x8',md+(pt l9 (.row v9 1 (S4.map .str))+(pt l10 (.row v10 1 (De R'.e.BA))+pt l12 (.row v12 1 [.int .i64 R'.w0,.int .i64 R'.w1]))),pt l18 (.row v18 0 [.int .i64 T.1,.int .i64 T.2.1,.int .i64 T.2.2.1,x,.str T.2.2.2.2])+X',?_,by omega,rfl,?_,?_,?_⟩;rotate_left 3
   ·rw [e1,Lp,Lo,<-hRe,hRe',List.map_append,List.map_append,List.map_cons,List.map_nil,List.map_cons,List.map_nil,hmu];exact hS.eq (by ac_rfl)
   ·rw [e1,LO,<-hRe,hRe'];rfl
   ·rw [e1,Lq,<-hRe,hTe];exact hT.snoc hTc
   ·rw [e1,LO,<-hRe,hRe'];exact ⟨deeds,md,S4,a1,a2,a3,a4,a5,a6,a7,a8,a9,a10,a11,rfl⟩
 obtain ⟨kd,d,n,z,w⟩:=r;dsimp only at f1 f2;have hR0:=hR;obtain ⟨deeds,md,S4,r1,⟨p8,v8',off8,rfl⟩,r3,r4,r5,r6,r7,r8,r9,r10,r11,rm⟩:=hR;have hinv:=F4.run (s:=s) h600 deeds;rw [r3] at hinv;have hlen:=hinv.len;refine ju ?_;refine Av rfl (fun h1=>?_) (fun h1=>?_)
 ·subst h1;subst rm;have hrd:=tn (R:=R) (r:=(1,d,n,z,w)) rfl;dsimp only at hrd;have hfl:(deeds++[d]).flatMap Pb=deeds.flatMap Pb++Pb d:=by rw [List.flatMap_append];simp
  have hnl:(deeds++[d]).length=deeds.length+1:=by simp
  have hpre:RP s (deeds++[d]):=⟨hs,by show (deeds++[d]).length<=_;omega,fun x hx=>by
   rcases List.mem_append.1 hx with hx | hx
   ·exact r5 x hx
   ·rw [List.mem_singleton.1 hx];exact f1⟩
  have hsm: ¬EI s (deeds++[d]):=by unfold EI;omega
  have hcds:DN (BZ s) (deeds++[d])=DN (BZ s) deeds++[(Bh R.e.h d).2]:=by rw [LF,r3]
  have htxs:DO (BZ s) (deeds++[d])=DO (BZ s) deeds++[(Bh R.e.h d).1.text]:=by rw [LG,G0,r3]
  have n1:=JD deeds (BZ s);have n2:=JC deeds (BZ s);generalize hC:(Bh R.e.h d).2=C at*;refine Z1 ?_;have hS:=hS.eq (m':=md+(pt l18 (.row v18 0 [.int .i64 0,.int .i64 0,.int .i64 0,.AL,.str []])+(pt l17 (.row v17 0 (Bt (1,d,n,z,w)))+(pt p1 (.row v1 5 cs)+(pt p2 (.row v2 1 ((Bx (Au s) (l.take j)).map .str))+(pt p3 (.row v3 1 ((Bl (Au s) (l.take j)).map .bool))+(pt l9 (.row v9 1 (S4.map .str))+(pt l10 (.row v10 1 (De R.e.BA))+pt l12 (.row v12 1 [.int .i64 R.w0,.int .i64 R.w1]))+(X+mf)))))))) (by ac_rfl);refine Z6 ?_;refine AX ?_;refine tP hS rfl r1 (DL.one rfl) rfl (by omega) fun X8 m8 a8 R8 md' R9 S hX8 hm8 hm9 hx8 hS=>?_;refine Z2 ?_;rw [hm8] at hS;rw [<-hfl,<-hnl] at hX8;have hS:=hS.eq (m':=a8+(R8+(pt l18 (.row v18 0 [.int .i64 0,.int .i64 0,.int .i64 0,.AL,.str []])+(pt l17 (.row v17 0 (Bt (1,d,n,z,w)))+(pt p1 (.row v1 5 cs)+(pt p2 (.row v2 1 ((Bx (Au s) (l.take j)).map .str))+(pt p3 (.row v3 1 ((Bl (Au s) (l.take j)).map .bool))+(pt l9 (.row v9 1 (S4.map .str))+(pt l10 (.row v10 1 (De R.e.BA))+pt l12 (.row v12 1 [.int .i64 R.w0,.int .i64 R.w1]))+(X+mf))))))))) (by ac_rfl);refine HC.use (mM hH hpre hsm (by simp) hX8) hS ?_;rintro r m' S ⟨q1,u1,q2,u2,rfl,rfl⟩ hS;refine rz ?_;have hS:=hS.eq (m':=m8+(pt q1 (.row u1 1 ((DO (BZ s) (deeds++[d])).map .str))+(pt q2 (.row u2 1 ((DN (BZ s) (deeds++[d])).map (.int .i64)))+(pt l18 (.row v18 0 [.int .i64 0,.int .i64 0,.int .i64 0,.AL,.str []])+(pt l17 (.row v17 0 (Bt (1,d,n,z,w)))+(pt p1 (.row v1 5 cs)+(pt p2 (.row v2 1 ((Bx (Au s) (l.take j)).map .str))+(pt p3 (.row v3 1 ((Bl (Au s) (l.take j)).map .bool))+(pt l9 (.row v9 1 (S4.map .str))+(pt l10 (.row v10 1 (De R.e.BA))+pt l12 (.row v12 1 [.int .i64 R.w0,.int .i64 R.w1]))+(X+mf)))))))))) (by rw [hm8];ac_rfl);rw [hm9,hcds,htxs] at hS;have hcode:takeN 1 (List.drop deeds.length ((DN (BZ s) deeds++[C]).map (AA.int .i64)))=some [.int .i64 C]:=HA (by rw [List.getElem?_map,List.getElem?_append_right (by omega),n2,Nat.sub_self];rfl);have htext:takeN 1 (List.drop deeds.length ((DO (BZ s) deeds++[(Bh R.e.h d).1.text]).map AA.str))=some [.str (Bh R.e.h d).1.text]:=HA (by rw [List.getElem?_map,List.getElem?_append_right (by omega),n1,Nat.sub_self];rfl);refine Z8 ?_;have ei:(((deeds++[d]).length:Nat):Int)-1=(deeds.length:Int):=by rw [hnl];omega
  rw [ei];refine Z7 fun S hS=>?_;refine Z9 ?_;refine Av rfl (fun hc0=>?_) (fun hc0=>?_)
  ·rw [if_pos hc0] at hrd;refine Z6 ?_;refine AX ?_;refine G3 hS rfl hx8 (DL.one rfl) rfl (by omega) fun X9 a9 S hX9 hS=>?_;refine YI fun S hS=>?_;refine Z3 ?_;rw [<-hfl,<-hnl] at hX9;obtain ⟨p9,v9',off9,cs9,rfl,ha9,_,_⟩:=hX9.pos (by rw [hnl];omega);have tl:=tail (.sl p9 v9' off9 (deeds++[d]).length) [.int .i64 C,.int .i64 0,.int .i64 0,.AL,.str []] (a9+(pt l9 (.row v9 1 (S4.map .str))+(pt l10 (.row v10 1 (De R.e.BA))+pt l12 (.row v12 1 [.int .i64 0,.int .i64 0])))) (pt l17 (.row v17 0 (Bt (1,d,n,z,w)))+(X+(R9+(pt q1 (.row u1 1 ((DO (BZ s) deeds++[(Bh R.e.h d).1.text]).map .str))+pt q2 (.row u2 1 ((DN (BZ s) deeds++[C]).map (.int .i64))))))) S;rw [hrd] at tl;exact tl ⟨deeds++[d],a9,S4,hX9,⟨_,_,_,rfl⟩,by rw [G0,r3],by omega,hpre.2.2,r6,r7,Int.le_refl _,by show (0:Int)<=((j+1:Nat):Int);omega,Int.le_refl _,by show (0:Int)<=((j+1:Nat):Int);omega,rfl⟩ ⟨.AL,rfl,.inr ⟨rfl,rfl⟩⟩ (hS.eq (by ac_rfl))
  ·rw [if_neg hc0] at hrd;refine Z3 ?_;have tl:=tail (.sl p8 v8' off8 deeds.length) [.int .i64 C,.int .i64 0,.int .i64 0,.AL,.str []] (md'+(pt l9 (.row v9 1 (S4.map .str))+(pt l10 (.row v10 1 (De R.e.BA))+pt l12 (.row v12 1 [.int .i64 R.w0,.int .i64 R.w1])))) (pt l17 (.row v17 0 (Bt (1,d,n,z,w)))+(X+(R9+(pt q1 (.row u1 1 ((DO (BZ s) deeds++[(Bh R.e.h d).1.text]).map .str))+pt q2 (.row u2 1 ((DN (BZ s) deeds++[C]).map (.int .i64))))))) S;rw [hrd] at tl;exact tl ⟨deeds,md',S4,hx8,⟨_,_,_,rfl⟩,r3,by omega,r5,r6,r7,r8,by show R.w0<=((j+1:Nat):Int);omega,r10,by show R.w1<=((j+1:Nat):Int);omega,rfl⟩ ⟨.AL,rfl,.inr ⟨rfl,rfl⟩⟩ (hS.eq (by ac_rfl))
 refine Z6 ?_;refine Av rfl (fun h2=>?_) (fun h2=>?_)
 ·subst h2;subst rm;have hrd:=vP (R:=R) (r:=(2,d,n,z,w)) rfl;dsimp only at hrd;refine Z1 ?_;by_cases cb:n<0\/1<n\/z<1\/50<z
  ·rw [if_pos cb] at hrd;have bad: ∀S,Has S (pt l18 (.row v18 0 [.int .i64 2,.int .i64 0,.int .i64 0,.AL,.str []])+(pt l17 (.row v17 0 (Bt (2,d,n,z,w)))+(pt p1 (.row v1 5 cs)+(pt p2 (.row v2 1 ((Bx (Au s) (l.take j)).map .str))+(pt p3 (.row v3 1 ((Bl (Au s) (l.take j)).map .bool))+((md+(pt l9 (.row v9 1 (S4.map .str))+(pt l10 (.row v10 1 (De R.e.BA))+pt l12 (.row v12 1 [.int .i64 R.w0,.int .i64 R.w1]))))+(X+mf)))))))->K1 [(.sl p8 v8' off8 deeds.length),.str R.e.h.text] S:=fun S hS=>by
    have tl:=tail (.sl p8 v8' off8 deeds.length) [.int .i64 2,.int .i64 0,.int .i64 0,.AL,.str []] (md+(pt l9 (.row v9 1 (S4.map .str))+(pt l10 (.row v10 1 (De R.e.BA))+pt l12 (.row v12 1 [.int .i64 R.w0,.int .i64 R.w1])))) (pt l17 (.row v17 0 (Bt (2,d,n,z,w)))+X) S;rw [hrd] at tl;exact tl hR0.more ⟨.AL,rfl,.inr ⟨rfl,rfl⟩⟩ (hS.eq (by ac_rfl))
   by_cases c0:n=0\/n=1
   ·by_cases cn:n=0
    ·by_cases c3:z<1
     ·refine Z4 ?_;refine AX ?_;refine Am (EU (fun hg=>by exfalso;simp at hg<;>omega) (fun hg=>?_));dsimp only [AK,rd,Frame.get];refine Z4 ?_;refine AX ?_;refine Am (EU (fun hb=>by cases hb) (fun hg=>?_));dsimp only [AK,rd,Frame.get];refine Z4 ?_;refine AX ?_;refine Am (BF (fun hg=>?_) (fun hg=>by exfalso;omega));dsimp only [AK,rd,Frame.get];refine Z6 ?_;refine BS rfl (fun _=>?_) (fun hb=>by cases hb);refine Z3 fun S hS=>?_;refine Z3 ?_;exact bad S hS
     ·refine Z4 ?_;refine AX ?_;refine Am (EU (fun hg=>by exfalso;simp at hg<;>omega) (fun hg=>?_));dsimp only [AK,rd,Frame.get];refine Z4 ?_;refine AX ?_;refine Am (EU (fun hb=>by cases hb) (fun hg=>?_));dsimp only [AK,rd,Frame.get];refine Z4 ?_;refine AX ?_;refine Am (BF (fun hg=>by exfalso;omega) (fun hg=>?_));dsimp only [AK,rd,Frame.get];refine Z6 ?_;refine Av rfl (fun _=>?_) (fun hb=>by exfalso;omega);refine Z3 fun S hS=>?_;refine Z3 ?_;exact bad S hS
    ·by_cases c3:z<1
     ·refine Z4 ?_;refine AX ?_;refine Am (EU (fun hg=>?_) (fun hg=>by exfalso;simp at hg<;>omega));dsimp only [AK,rd,Frame.get];refine Z4 ?_;refine AX ?_;refine Am (EU (fun hg=>by exfalso;simp at hg<;>omega) (fun hg=>?_));dsimp only [AK,rd,Frame.get];refine Z4 ?_;refine AX ?_;refine Am (BF (fun hg=>?_) (fun hg=>by exfalso;omega));dsimp only [AK,rd,Frame.get];refine Z6 ?_;refine BS rfl (fun _=>?_) (fun hb=>by cases hb);refine Z3 fun S hS=>?_;refine Z3 ?_;exact bad S hS
     ·refine Z4 ?_;refine AX ?_;refine Am (EU (fun hg=>?_) (fun hg=>by exfalso;simp at hg<;>omega));dsimp only [AK,rd,Frame.get];refine Z4 ?_;refine AX ?_;refine Am (EU (fun hg=>by exfalso;simp at hg<;>omega) (fun hg=>?_));dsimp only [AK,rd,Frame.get];refine Z4 ?_;refine AX ?_;refine Am (BF (fun hg=>by exfalso;omega) (fun hg=>?_));dsimp only [AK,rd,Frame.get];refine Z6 ?_;refine Av rfl (fun _=>?_) (fun hb=>by exfalso;omega);refine Z3 fun S hS=>?_;refine Z3 ?_;exact bad S hS
   ·refine Z4 ?_;refine AX ?_;refine Am (EU (fun hg=>?_) (fun hg=>by exfalso;simp at hg<;>omega));dsimp only [AK,rd,Frame.get];refine Z4 ?_;refine AX ?_;refine Am (EU (fun hg=>?_) (fun hg=>by exfalso;simp at hg<;>omega));dsimp only [AK,rd,Frame.get];refine Z4 ?_;refine AX ?_;refine Am (EU (fun hg=>?_) (fun hb=>by cases hb));dsimp only [AK,rd,Frame.get];refine Z6 ?_;refine BS rfl (fun _=>?_) (fun hb=>by cases hb);refine Z3 fun S hS=>?_;refine Z3 ?_;exact bad S hS
  rw [if_neg cb] at hrd;by_cases cn:n=0
  ·rw [if_pos cn] at hrd;subst cn;refine Z4 ?_;refine AX ?_;refine Am (EU (fun hg=>by exfalso;simp at hg<;>omega) (fun hg=>?_));dsimp only [AK,rd,Frame.get];refine Z4 ?_;refine AX ?_;refine Am (EU (fun hb=>by cases hb) (fun hg=>?_));dsimp only [AK,rd,Frame.get];refine Z4 ?_;refine AX ?_;refine Am (BF (fun hg=>by exfalso;omega) (fun hg=>?_));dsimp only [AK,rd,Frame.get];refine Z6 ?_;refine Av rfl (fun hb=>by exfalso;omega) (fun _=>?_);refine Z3 ?_;refine AX ?_;refine Jj (j:=0) rfl rfl (by omega) ?_;refine Z3 ?_;refine AX ?_;refine Jj (j:=0) rfl rfl (by omega) ?_;refine Z2 fun S hS=>?_;refine Z3 ?_;have tl:=tail (.sl p8 v8' off8 deeds.length) [.int .i64 0,.int .i64 0,.int .i64 0,.AL,.str []] (md+(pt l9 (.row v9 1 (S4.map .str))+(pt l10 (.row v10 1 (De R.e.BA))+pt l12 (.row v12 1 [.int .i64 (R.w0+1),.int .i64 R.w1])))) (pt l17 (.row v17 0 (Bt (2,d,0,z,w)))+X) S;rw [hrd] at tl;exact tl ⟨deeds,md,S4,r1,⟨p8,v8',off8,rfl⟩,r3,by omega,r5,r6,r7,by show 0<=R.w0+1;omega,by show R.w0+1<=((j+1:Nat):Int);omega,r10,by show R.w1<=((j+1:Nat):Int);omega,rfl⟩ ⟨.AL,rfl,.inr ⟨rfl,rfl⟩⟩ (hS.eq (by ac_rfl))
  rw [if_neg cn] at hrd;obtain rfl:n=1:=by omega
  refine Z4 ?_;refine AX ?_;refine Am (EU (fun hg=>?_) (fun hg=>by exfalso;simp at hg<;>omega));dsimp only [AK,rd,Frame.get];refine Z4 ?_;refine AX ?_;refine Am (EU (fun hg=>by exfalso;simp at hg<;>omega) (fun hg=>?_));dsimp only [AK,rd,Frame.get];refine Z4 ?_;refine AX ?_;refine Am (BF (fun hg=>by exfalso;omega) (fun hg=>?_));dsimp only [AK,rd,Frame.get];refine Z6 ?_;refine Av rfl (fun hb=>by exfalso;omega) (fun _=>?_);refine Z3 ?_;refine AX ?_;refine Jj (j:=1) rfl rfl (by omega) ?_;refine Z3 ?_;refine AX ?_;refine Jj (j:=1) rfl rfl (by omega) ?_;refine Z2 fun S hS=>?_;refine Z3 ?_;have tl:=tail (.sl p8 v8' off8 deeds.length) [.int .i64 0,.int .i64 0,.int .i64 0,.AL,.str []] (md+(pt l9 (.row v9 1 (S4.map .str))+(pt l10 (.row v10 1 (De R.e.BA))+pt l12 (.row v12 1 [.int .i64 R.w0,.int .i64 (R.w1+1)])))) (pt l17 (.row v17 0 (Bt (2,d,1,z,w)))+X) S;rw [hrd] at tl;exact tl ⟨deeds,md,S4,r1,⟨p8,v8',off8,rfl⟩,r3,by omega,r5,r6,r7,r8,by show R.w0<=((j+1:Nat):Int);omega,by show 0<=R.w1+1;omega,by show R.w1+1<=((j+1:Nat):Int);omega,rfl⟩ ⟨.AL,rfl,.inr ⟨rfl,rfl⟩⟩ (hS.eq (by ac_rfl))
 refine Z6 ?_;refine Av rfl (fun h3=>?_) (fun h3=>?_)
 ·subst h3;refine Z6 ?_;refine (nW hPA hlen n).use ?_;refine Z5 fun v25 l25 S hS=>?_;refine Z1 fun S hS=>?_;refine SI fun S hS=>?_;refine Z3 ?_;have tl:=tail (.sl p8 v8' off8 deeds.length) [.int .i64 (FP R.e.h.text n).2,.int .i64 (FP R.e.h.text n).1.2.1,.int .i64 (FP R.e.h.text n).1.2.2,.AL,.str []] (m2) (pt l17 (.row v17 0 (Bt (3,d,n,z,w)))+(X+pt l25 (.row v25 0 [.int .i64 (FP R.e.h.text n).1.1,.int .i64 (FP R.e.h.text n).1.2.1,.int .i64 (FP R.e.h.text n).1.2.2]))) S;rw [vQ (r:=(3,d,n,z,w)) rfl] at tl;exact tl (hR0.more) ⟨.AL,rfl,.inr ⟨rfl,rfl⟩⟩ (hS.eq (by ac_rfl))
 refine Z6 ?_;refine Av rfl (fun h4=>?_) (fun h4=>?_)
 ·subst h4;refine Z6 ?_;refine (sZ hWF hlen f2).use ?_;refine ju fun S hS=>?_;refine Z3 ?_;have tl:=tail (.sl p8 v8' off8 deeds.length) [.int .i64 (CP R.e.h.text w).2,.int .i64 0,.int .i64 0,.Ez (CP R.e.h.text w).1.length (ints (CP R.e.h.text w).1),.str []] (m2) (pt l17 (.row v17 0 (Bt (4,d,n,z,w)))+(X)) S;rw [vR (r:=(4,d,n,z,w)) rfl] at tl;exact tl (hR0.more) ⟨_,rfl,.inl rfl⟩ (hS.eq (by ac_rfl))
 refine Z6 ?_;refine Av rfl (fun h5=>?_) (fun h5=>?_)
 ·subst h5;have hcl:=DY R.e.h.text;refine Z4 ?_;refine (pn hPL hlen).use ?_;refine Z9 ?_;by_cases c1:n<0
  ·have e:C6 R.e.h.text n=Rh 2:=by unfold C6;rw [if_pos (.inl c1)]
   refine Z4 ?_;refine AX ?_;refine Am (BF (fun hg=>?_) (fun hg=>by exfalso;omega));dsimp only [AK,rd,Frame.get];refine Z8 ?_;refine BS rfl (fun _=>?_) (fun hb=>by cases hb);refine Z3 fun S hS=>?_;refine Z3 ?_;have tl:=tail (.sl p8 v8' off8 deeds.length) [.int .i64 2,.int .i64 0,.int .i64 0,.AL,.str []] (m2) (pt l17 (.row v17 0 (Bt (5,d,n,z,w)))+(X)) S;rw [qn (r:=(5,d,n,z,w)) rfl] at tl;exact tl (hR0.more) (by show TC (C6 R.e.h.text n) _;rw [e];exact ⟨.AL,rfl,.inr ⟨rfl,rfl⟩⟩) (hS.eq (by ac_rfl))
  by_cases c2:((AH R.e.h.text).length:Int)<=n
  ·have e:C6 R.e.h.text n=Rh 2:=by unfold C6;rw [if_pos (.inr c2)]
   refine Z4 ?_;refine AX ?_;refine Am (BF (fun hg=>by exfalso;omega) (fun hg=>?_));dsimp only [AK,rd,Frame.get];refine Z8 ?_;refine Av rfl (fun _=>?_) (fun hb=>by exfalso;omega);refine Z3 fun S hS=>?_;refine Z3 ?_;have tl:=tail (.sl p8 v8' off8 deeds.length) [.int .i64 2,.int .i64 0,.int .i64 0,.AL,.str []] (m2) (pt l17 (.row v17 0 (Bt (5,d,n,z,w)))+(X)) S;rw [qn (r:=(5,d,n,z,w)) rfl] at tl;exact tl (hR0.more) (by show TC (C6 R.e.h.text n) _;rw [e];exact ⟨.AL,rfl,.inr ⟨rfl,rfl⟩⟩) (hS.eq (by ac_rfl))
  obtain ⟨N,rfl⟩: ∃N:Nat,n=(N:Int):=⟨n.toNat,by omega⟩
  obtain ⟨u,hu⟩: ∃u,(AH R.e.h.text)[N]?=some u:=⟨_,List.getElem?_eq_getElem (by omega)⟩
  have e:C6 R.e.h.text (N:Int)=(0,(BJ u).1,0,[],[]):=by
   have hg:gt (AH R.e.h.text) (N:Int)=u:=by
    have:=Ig (l:=AH R.e.h.text) (i:=(N:Int)) (by omega) (by omega);rw [Int.toNat_natCast,hu] at this;exact (Option.some.inj this).symm
   unfold C6;rw [if_neg (by omega),hg]
  have ht5:takeN 1 (List.drop N (ints ((AH R.e.h.text).map fun l=>(BJ l).1)))=some [.int .i64 (BJ u).1]:=by
   have:=Go.Proofs.YtlibocgedgdmlaaGreat.E.ints_at (l:=(AH R.e.h.text).map fun l=>(BJ l).1) (j:=N) (a:=(BJ u).1) (by rw [List.getElem?_map,hu];rfl);rwa [Nat.mul_one] at this
  have ht5':takeN 1 (List.drop (N*1) (ints ((AH R.e.h.text).map fun l=>(BJ l).1)))=some [.int .i64 (BJ u).1]:=by rw [Nat.mul_one];exact ht5
  refine Z4 ?_;refine AX ?_;refine Am (BF (fun hg=>by exfalso;omega) (fun hg=>?_));dsimp only [AK,rd,Frame.get];refine Z8 ?_;refine Av rfl (fun hb=>by exfalso;omega) (fun _=>?_);refine Z8 fun S hS=>?_;refine Z3 ?_;have tl:=tail (.sl p8 v8' off8 deeds.length) [.int .i64 0,.int .i64 (BJ u).1,.int .i64 0,.AL,.str []] (m2) (pt l17 (.row v17 0 (Bt (5,d,(N:Int),z,w)))+(X)) S;rw [qn (r:=(5,d,(N:Int),z,w)) rfl] at tl;exact tl (hR0.more) (by show TC (C6 R.e.h.text N) _;rw [e];exact ⟨.AL,rfl,.inr ⟨rfl,rfl⟩⟩) (hS.eq (by ac_rfl))
 refine Z6 ?_;refine Av rfl (fun h6=>?_) (fun h6=>?_)
 ·subst h6;subst rm;have hrd:=vS (R:=R) (r:=(6,d,n,z,w)) rfl;refine Z7 ?_;refine GY (fun k xs S'=> ∃i:Nat,xs=[.int .i64 (i:Int)]/\i<=4/\k=4-i/\(∀i',i'<i-> ∃t,R.e.BA[i']?=some (some t))/\Has S' (pt l18 (.row v18 0 [.int .i64 0,.int .i64 0,.int .i64 0,.AL,.str []])+(pt l17 (.row v17 0 (Bt (6,d,n,z,w)))+(pt p1 (.row v1 5 cs)+(pt p2 (.row v2 1 ((Bx (Au s) (l.take j)).map .str))+(pt p3 (.row v3 1 ((Bl (Au s) (l.take j)).map .bool))+((md+(pt l9 (.row v9 1 (S4.map .str))+(pt l10 (.row v10 1 (De R.e.BA))+pt l12 (.row v12 1 [.int .i64 R.w0,.int .i64 R.w1]))))+(X+mf)))))))) 4 ⟨0,rfl,Nat.zero_le _,rfl,fun i h=>by omega,hS⟩ ?_;clear hS;rintro k xs S hl2 ⟨i,rfl,hi,rfl,he,hS⟩;dsimp only [Er,List.map,Frame.get];refine Z2 ?_;by_cases hi4:i<4
  ·obtain ⟨o,ho⟩: ∃o,R.e.BA[i]?=some o:=⟨_,List.getElem?_eq_getElem (by omega)⟩
   cases o with
   | some t=>
    have hu:takeN 1 (List.drop i (De R.e.BA))=some [.bool true]:=HA (by rw [List.getElem?_map,ho];rfl);have hu':takeN 1 (List.drop (i*1) (De R.e.BA))=some [.bool true]:=by rw [Nat.mul_one];exact hu
    refine Z3 ?_;refine AX ?_;refine Am (BF (fun hg=>?_) (fun hg=>by exfalso;omega));dsimp only [AK,rd,Frame.get];refine Z6 ?_;refine BS rfl (fun _=>?_) (fun hb=>by cases hb);refine Nn ?_;refine ⟨4-(i+1),by omega,i+1,rfl,by omega,rfl,fun i' h=>?_,hS⟩;by_cases q:i'<i
    ·exact he i' q
    ·obtain rfl:i'=i:=by omega
     exact ⟨t,ho⟩
   | none=>
    have hu:takeN 1 (List.drop i (De R.e.BA))=some [.bool false]:=HA (by rw [List.getElem?_map,ho];rfl);have hu':takeN 1 (List.drop (i*1) (De R.e.BA))=some [.bool false]:=by rw [Nat.mul_one];exact hu
    have e:=M0 he ho;have hl4:S4.length=4:=by have:=r6.1;omega
    refine Z3 ?_;refine AX ?_;refine Am (BF (fun hg=>?_) (fun hg=>by exfalso;omega));dsimp only [AK,rd,Frame.get];refine Z6 ?_;refine BS rfl (fun hb=>by cases hb) (fun _=>?_);refine SI ?_;refine Av rfl (fun hb=>by exfalso;omega) (fun _=>?_);refine Z5 ?_;refine AX ?_;refine G4 hS rfl rfl rfl rfl (by simp;omega) fun S hS=>?_;(try dsimp only [AK,rd,Frame.get] at hS);(try simp only [Nat.mul_one,Nat.zero_add] at hS);rw [FH] at hS;refine Z7 ?_;refine AX ?_;refine G4 hS rfl rfl rfl rfl (by simp;omega) fun S hS=>?_;(try dsimp only [AK,rd,Frame.get] at hS);(try simp only [Nat.mul_one,Nat.zero_add] at hS);rw [FH] at hS;refine Z7 fun S hS=>?_;refine Z3 ?_;have hus:(De R.e.BA).set i (.bool true)=De (R.e.BA.set i (some R.e.h.text)):=by unfold De;rw [List.map_set];rfl
    have hst:(S4.map AA.str).set i (.str R.e.h.text)=(S4.set i R.e.h.text).map .str:=by rw [List.map_set]
    rw [hus,hst] at hS;have es:Cg R.e=(⟨R.e.h,R.e.Ba,R.e.known,R.e.BA.set i (some R.e.h.text)⟩,(0,(i:Int),0,[],[])):=by unfold Cg;rw [if_neg (by omega),e]
    have tl:=tail (.sl p8 v8' off8 deeds.length) [.int .i64 0,.int .i64 (i:Int),.int .i64 0,.AL,.str []] (md+(pt l9 (.row v9 1 ((S4.set i R.e.h.text).map .str))+(pt l10 (.row v10 1 (De (R.e.BA.set i (some R.e.h.text))))+pt l12 (.row v12 1 [.int .i64 R.w0,.int .i64 R.w1])))) (pt l17 (.row v17 0 (Bt (6,d,n,z,w)))+X) S;rw [hrd,es] at tl;exact tl ⟨deeds,md,S4.set i R.e.h.text,r1,⟨p8,v8',off8,rfl⟩,r3,by omega,r5,r6.set,by simp [r7],r8,by show R.w0<=((j+1:Nat):Int);omega,r10,by show R.w1<=((j+1:Nat):Int);omega,rfl⟩ ⟨.AL,rfl,.inr ⟨rfl,rfl⟩⟩ (hS.eq (by ac_rfl))
  ·obtain rfl:i=4:=by omega
   have e:=LC (l:=R.e.BA) (fun i h=>he i (by omega));have es:Cg R.e=(R.e,Rh 8):=by unfold Cg;rw [if_pos (by omega)]
   refine Z3 ?_;refine AX ?_;refine Am (BF (fun hg=>by exfalso;omega) (fun hg=>?_));dsimp only [AK,rd,Frame.get];refine Z6 ?_;refine BS rfl (fun hb=>by cases hb) (fun _=>?_);refine SI ?_;refine Av rfl (fun _=>?_) (fun hb=>by exfalso;omega);refine Z3 fun S hS=>?_;refine Z3 ?_;have tl:=tail (.sl p8 v8' off8 deeds.length) [.int .i64 8,.int .i64 0,.int .i64 0,.AL,.str []] (md+(pt l9 (.row v9 1 (S4.map .str))+(pt l10 (.row v10 1 (De R.e.BA))+pt l12 (.row v12 1 [.int .i64 R.w0,.int .i64 R.w1])))) (pt l17 (.row v17 0 (Bt (6,d,n,z,w)))+X) S;rw [hrd,es] at tl;exact tl hR0.more ⟨.AL,rfl,.inr ⟨rfl,rfl⟩⟩ (hS.eq (by ac_rfl))
 refine Hu fun K2 hK2=>?_;refine Z6 ?_;refine Av rfl (fun h7=>?_) (fun h7=>?_)
 ·subst h7;subst rm;have hrd:=tp (R:=R) (r:=(7,d,n,z,w)) (.inl rfl);dsimp only at hrd;refine Z2 ?_;refine hK2 _ _ rfl ?_;dsimp only [Er,List.map,Frame.get];refine Av rfl (fun _=>?_) (fun hb=>by exfalso;omega);have bad: ∀S,HP R.e n=none->Has S (pt l18 (.row v18 0 [.int .i64 7,.int .i64 0,.int .i64 0,.AL,.str []])+(pt l17 (.row v17 0 (Bt (7,d,n,z,w)))+(pt p1 (.row v1 5 cs)+(pt p2 (.row v2 1 ((Bx (Au s) (l.take j)).map .str))+(pt p3 (.row v3 1 ((Bl (Au s) (l.take j)).map .bool))+((md+(pt l9 (.row v9 1 (S4.map .str))+(pt l10 (.row v10 1 (De R.e.BA))+pt l12 (.row v12 1 [.int .i64 R.w0,.int .i64 R.w1]))))+(X+mf)))))))->K1 [(.sl p8 v8' off8 deeds.length),.str R.e.h.text] S:=fun S hn hS=>by
   have er:B7 R.e 7 n=(R.e,Rh 7):=by unfold B7;rw [hn]
   have tl:=tail (.sl p8 v8' off8 deeds.length) [.int .i64 7,.int .i64 0,.int .i64 0,.AL,.str []] (md+(pt l9 (.row v9 1 (S4.map .str))+(pt l10 (.row v10 1 (De R.e.BA))+pt l12 (.row v12 1 [.int .i64 R.w0,.int .i64 R.w1])))) (pt l17 (.row v17 0 (Bt (7,d,n,z,w)))+X) S;rw [hrd,er] at tl;exact tl hR0.more ⟨.AL,rfl,.inr ⟨rfl,rfl⟩⟩ (hS.eq (by ac_rfl))
  refine Z2 ?_;by_cases c1:n<0
  ·refine Z4 ?_;refine AX ?_;refine Am (BF (fun hg=>?_) (fun hg=>by exfalso;omega));dsimp only [AK,rd,Frame.get];refine Z4 ?_;refine AX ?_;refine Am (EU (fun hg=>?_) (fun hb=>by cases hb));dsimp only [AK,rd,Frame.get];refine Z9 ?_;refine BS rfl (fun _=>?_) (fun hb=>by cases hb);refine Z3 fun S hS=>?_;refine Z4 ?_;exact bad S (by unfold HP;rw [if_pos c1]) hS
  by_cases c2:3<n
  ·refine Z4 ?_;refine AX ?_;refine Am (BF (fun hg=>by exfalso;omega) (fun hg=>?_));dsimp only [AK,rd,Frame.get];refine Z4 ?_;refine AX ?_;refine Am (BF (fun hg=>?_) (fun hg=>by exfalso;omega));dsimp only [AK,rd,Frame.get];refine Z9 ?_;refine BS rfl (fun _=>?_) (fun hb=>by cases hb);refine Z3 fun S hS=>?_;refine Z4 ?_;exact bad S (by unfold HP;rw [if_neg c1,List.getD_eq_getElem?_getD,List.getElem?_eq_none (by omega)];rfl) hS
  obtain ⟨N,rfl⟩: ∃N:Nat,n=(N:Int):=⟨n.toNat,by omega⟩
  obtain ⟨o,ho⟩: ∃o,R.e.BA[N]?=some o:=⟨_,List.getElem?_eq_getElem (by omega)⟩
  have hsn:HP R.e N=o:=by unfold HP;rw [if_neg c1,Int.toNat_natCast,List.getD_eq_getElem?_getD,ho];rfl
  cases o with
  | none=>
   have hu:takeN 1 (List.drop N (De R.e.BA))=some [.bool false]:=HA (by rw [List.getElem?_map,ho];rfl);have hu':takeN 1 (List.drop (N*1) (De R.e.BA))=some [.bool false]:=by rw [Nat.mul_one];exact hu
   refine Z4 ?_;refine AX ?_;refine Am (BF (fun hg=>by exfalso;omega) (fun hg=>?_));dsimp only [AK,rd,Frame.get];refine Z4 ?_;refine AX ?_;refine Am (BF (fun hg=>by exfalso;omega) (fun hg=>?_));dsimp only [AK,rd,Frame.get];refine Z9 ?_;refine BS (c:= !false) rfl (fun _=>?_) (fun hb=>by cases hb);refine Z3 fun S hS=>?_;refine Z4 ?_;exact bad S hsn hS
  | some t=>
   have hu:takeN 1 (List.drop N (De R.e.BA))=some [.bool true]:=HA (by rw [List.getElem?_map,ho];rfl);have hu':takeN 1 (List.drop (N*1) (De R.e.BA))=some [.bool true]:=by rw [Nat.mul_one];exact hu
   refine Z4 ?_;refine AX ?_;refine Am (BF (fun hg=>by exfalso;omega) (fun hg=>?_));dsimp only [AK,rd,Frame.get];refine Z4 ?_;refine AX ?_;refine Am (BF (fun hg=>by exfalso;omega) (fun hg=>?_));dsimp only [AK,rd,Frame.get];refine Z9 ?_;refine BS (c:= !true) rfl (fun hb=>by cases hb) (fun _=>?_);refine Z8 ?_;refine Av rfl (fun hb=>by exfalso;omega) (fun _=>?_);refine Z4 ?_;refine AX ?_;refine G4 hS rfl rfl rfl rfl (by simp;omega) fun S hS=>?_;(try dsimp only [AK,rd,Frame.get] at hS);(try simp only [Nat.mul_one,Nat.zero_add] at hS);rw [FH] at hS;refine Z5 ?_;have hus:(De R.e.BA).set N (.bool false)=De (R.e.BA.set N none):=by unfold De;rw [List.map_set];rfl
   rw [hus] at hS;have er:B7 R.e 7 (N:Int)=(⟨R.e.h,R.e.Ba,R.e.known,R.e.BA.set N none⟩,Rh 0):=by unfold B7;rw [hsn];rfl
   have tl:=tail (.sl p8 v8' off8 deeds.length) [.int .i64 0,.int .i64 0,.int .i64 0,.AL,.str []] (md+(pt l9 (.row v9 1 (S4.map .str))+(pt l10 (.row v10 1 (De (R.e.BA.set N none)))+pt l12 (.row v12 1 [.int .i64 R.w0,.int .i64 R.w1])))) (pt l17 (.row v17 0 (Bt (7,d,(N:Int),z,w)))+X) S;rw [hrd,er] at tl;exact tl ⟨deeds,md,S4,r1,⟨p8,v8',off8,rfl⟩,r3,by omega,r5,r6.w4,by simp [r7],r8,by show R.w0<=((j+1:Nat):Int);omega,r10,by show R.w1<=((j+1:Nat):Int);omega,rfl⟩ ⟨.AL,rfl,.inr ⟨rfl,rfl⟩⟩ (hS.eq (by ac_rfl))
 refine Z5 ?_;refine hK2 _ _ rfl ?_;dsimp only [Er,List.map,Frame.get];refine Av rfl (fun h8=>?_) (fun h8=>?_)
 ·subst h8;subst rm;have hrd:=tp (R:=R) (r:=(8,d,n,z,w)) (.inr rfl);dsimp only at hrd;have bad: ∀S,HP R.e n=none->Has S (pt l18 (.row v18 0 [.int .i64 7,.int .i64 0,.int .i64 0,.AL,.str []])+(pt l17 (.row v17 0 (Bt (8,d,n,z,w)))+(pt p1 (.row v1 5 cs)+(pt p2 (.row v2 1 ((Bx (Au s) (l.take j)).map .str))+(pt p3 (.row v3 1 ((Bl (Au s) (l.take j)).map .bool))+((md+(pt l9 (.row v9 1 (S4.map .str))+(pt l10 (.row v10 1 (De R.e.BA))+pt l12 (.row v12 1 [.int .i64 R.w0,.int .i64 R.w1]))))+(X+mf)))))))->K1 [(.sl p8 v8' off8 deeds.length),.str R.e.h.text] S:=fun S hn hS=>by
   have er:B7 R.e 8 n=(R.e,Rh 7):=by unfold B7;rw [hn]
   have tl:=tail (.sl p8 v8' off8 deeds.length) [.int .i64 7,.int .i64 0,.int .i64 0,.AL,.str []] (md+(pt l9 (.row v9 1 (S4.map .str))+(pt l10 (.row v10 1 (De R.e.BA))+pt l12 (.row v12 1 [.int .i64 R.w0,.int .i64 R.w1])))) (pt l17 (.row v17 0 (Bt (8,d,n,z,w)))+X) S;rw [hrd,er] at tl;exact tl hR0.more ⟨.AL,rfl,.inr ⟨rfl,rfl⟩⟩ (hS.eq (by ac_rfl))
  refine Z2 ?_;by_cases c1:n<0
  ·refine Z4 ?_;refine AX ?_;refine Am (BF (fun hg=>?_) (fun hg=>by exfalso;omega));dsimp only [AK,rd,Frame.get];refine Z4 ?_;refine AX ?_;refine Am (EU (fun hg=>?_) (fun hb=>by cases hb));dsimp only [AK,rd,Frame.get];refine Z9 ?_;refine BS rfl (fun _=>?_) (fun hb=>by cases hb);refine Z3 fun S hS=>?_;refine Z4 ?_;exact bad S (by unfold HP;rw [if_pos c1]) hS
  by_cases c2:3<n
  ·refine Z4 ?_;refine AX ?_;refine Am (BF (fun hg=>by exfalso;omega) (fun hg=>?_));dsimp only [AK,rd,Frame.get];refine Z4 ?_;refine AX ?_;refine Am (BF (fun hg=>?_) (fun hg=>by exfalso;omega));dsimp only [AK,rd,Frame.get];refine Z9 ?_;refine BS rfl (fun _=>?_) (fun hb=>by cases hb);refine Z3 fun S hS=>?_;refine Z4 ?_;exact bad S (by unfold HP;rw [if_neg c1,List.getD_eq_getElem?_getD,List.getElem?_eq_none (by omega)];rfl) hS
  obtain ⟨N,rfl⟩: ∃N:Nat,n=(N:Int):=⟨n.toNat,by omega⟩
  obtain ⟨o,ho⟩: ∃o,R.e.BA[N]?=some o:=⟨_,List.getElem?_eq_getElem (by omega)⟩
  have hsn:HP R.e N=o:=by unfold HP;rw [if_neg c1,Int.toNat_natCast,List.getD_eq_getElem?_getD,ho];rfl
  cases o with
  | none=>
   have hu:takeN 1 (List.drop N (De R.e.BA))=some [.bool false]:=HA (by rw [List.getElem?_map,ho];rfl);have hu':takeN 1 (List.drop (N*1) (De R.e.BA))=some [.bool false]:=by rw [Nat.mul_one];exact hu
   refine Z4 ?_;refine AX ?_;refine Am (BF (fun hg=>by exfalso;omega) (fun hg=>?_));dsimp only [AK,rd,Frame.get];refine Z4 ?_;refine AX ?_;refine Am (BF (fun hg=>by exfalso;omega) (fun hg=>?_));dsimp only [AK,rd,Frame.get];refine Z9 ?_;refine BS (c:= !false) rfl (fun _=>?_) (fun hb=>by cases hb);refine Z3 fun S hS=>?_;refine Z4 ?_;exact bad S hsn hS
  | some t=>
   have hu:takeN 1 (List.drop N (De R.e.BA))=some [.bool true]:=HA (by rw [List.getElem?_map,ho];rfl);have hu':takeN 1 (List.drop (N*1) (De R.e.BA))=some [.bool true]:=by rw [Nat.mul_one];exact hu
   refine Z4 ?_;refine AX ?_;refine Am (BF (fun hg=>by exfalso;omega) (fun hg=>?_));dsimp only [AK,rd,Frame.get];refine Z4 ?_;refine AX ?_;refine Am (BF (fun hg=>by exfalso;omega) (fun hg=>?_));dsimp only [AK,rd,Frame.get];refine Z9 ?_;refine BS (c:= !true) rfl (fun hb=>by cases hb) (fun _=>?_);refine Z8 ?_;refine Av rfl (fun _=>?_) (fun hb=>by exfalso;omega);have h4:takeN 1 (List.drop N (S4.map AA.str))=some [.str t]:=HA (by rw [List.getElem?_map,r6.2 N t ho];rfl);have h4':takeN 1 (List.drop (N*1) (S4.map AA.str))=some [.str t]:=by rw [Nat.mul_one];exact h4
   refine Z7 fun S hS=>?_;refine Z4 ?_;have er:B7 R.e 8 (N:Int)=(R.e,(0,0,0,[],t)):=by unfold B7;rw [hsn];rfl
   have tl:=tail (.sl p8 v8' off8 deeds.length) [.int .i64 0,.int .i64 0,.int .i64 0,.AL,.str t] (md+(pt l9 (.row v9 1 (S4.map .str))+(pt l10 (.row v10 1 (De R.e.BA))+pt l12 (.row v12 1 [.int .i64 R.w0,.int .i64 R.w1])))) (pt l17 (.row v17 0 (Bt (8,d,(N:Int),z,w)))+X) S;rw [hrd,er] at tl;exact tl hR0.more ⟨.AL,rfl,.inr ⟨rfl,rfl⟩⟩ (hS.eq (by ac_rfl))
 refine Z6 ?_;refine Av rfl (fun h9=>?_) (fun h9=>?_)
 ·subst h9;refine Z3 fun S hS=>?_;refine Z3 ?_;have tl:=tail (.sl p8 v8' off8 deeds.length) [.int .i64 0,.int .i64 (-1),.int .i64 0,.AL,.str []] (m2) (pt l17 (.row v17 0 (Bt (9,d,n,z,w)))+(X)) S;rw [tq (r:=(9,d,n,z,w)) rfl] at tl;exact tl (hR0.more) ⟨.AL,rfl,.inr ⟨rfl,rfl⟩⟩ (hS.eq (by ac_rfl))
 refine Z3 fun S hS=>?_;refine Z3 ?_;have tl:=tail (.sl p8 v8' off8 deeds.length) [.int .i64 3,.int .i64 0,.int .i64 0,.AL,.str []] (m2) (pt l17 (.row v17 0 (Bt (kd,d,n,z,w)))+(X)) S;rw [vO (r:=(kd,d,n,z,w)) (by show ¬(kd=1\/kd=2\/kd=3\/kd=4\/kd=5\/kd=6\/kd=7\/kd=8\/kd=9);omega)] at tl;exact tl (hR0.more) ⟨.AL,rfl,.inr ⟨rfl,rfl⟩⟩ (hS.eq (by ac_rfl))
theorem Yt: ∀l:List Bool,l.map AA.bool=l.flatMap (BP .bool)
 | []=>rfl
 | a::l=>by show AA.bool a::l.map AA.bool=AA.bool a::l.flatMap (BP .bool);rw [Yt l]
theorem Gm (hH:BV Tryz.prog Br FG) (hPA:BV Tryz.prog D9 G7) (hWF:BV Tryz.prog B_ Eb) (hPL:BV Tryz.prog B9 Ea):BV Tryz.prog B1 FT:=by
 refine ⟨KB.1,fun (x:Bytes×List Rq) hp=>?_⟩;obtain ⟨s,l⟩:=x;have h:=RC.yC (r0:= .DH [DV (.sl NY) (AJ s l).1,DV (.sl .str) (AJ s l).2.1,DV (.sl .bool) (AJ s l).2.2.1,DV tI (AJ s l).2.2.2]) 3 (eN hH hPA hWF hPL s l hp) fun r m' S' h hS=>by
  rcases h with ⟨h,rfl⟩ | ⟨h,p1,v1,p2,v2,p3,v3,cs,X,rfl,hT,rfl⟩
  ·rw [T3 h];rfl
  ·rw [PX h];show AA.DH [Bc S' 2 _,Bc S' 2 _,Bc S' 2 _,Bc S' 2 _]=_;have hl:=hT.SM;rw [Ip] at hl;rw [Gc (k:=5) (cs:=cs) hS 1,Gc (k:=1) (cs:=(Bx (Au s) l).map .str) (m:=pt p1 (.row v1 5 cs)+(pt p3 (.row v3 1 ((Bl (Au s) l).map .bool))+X)) (hS.eq (by ac_rfl)) 1,
    Gc (k:=1) (cs:=(Bl (Au s) l).map .bool) (m:=pt p1 (.row v1 5 cs)+(pt p2 (.row v2 1 ((Bx (Au s) l).map .str))+X)) (hS.eq (by ac_rfl)) 1]
   have e1:A6 cs 0 (l.length*5)=cs:=by unfold A6;rw [List.drop_zero,List.take_of_length_le (by omega)]
   have e2:A6 ((Bx (Au s) l).map AA.str) 0 (l.length*1)=(Bx (Au s) l).map .str:=by unfold A6;rw [List.drop_zero,List.take_of_length_le (by simp [Io])]
   have e3:A6 ((Bl (Au s) l).map AA.bool) 0 (l.length*1)=(Bl (Au s) l).map .bool:=by unfold A6;rw [List.drop_zero,List.take_of_length_le (by simp [G6])]
   rw [e1,e2,e3,hT.deref];have g1:((Bx (Au s) l).map AA.str).map (Bc S' 1)=(Bx (Au s) l).flatMap (BP .str):=by
    rw [Jf fun c hc=>by obtain ⟨b,_,rfl⟩:=List.mem_map.1 hc;rfl,MG]
   have g2:((Bl (Au s) l).map AA.bool).map (Bc S' 1)=(Bl (Au s) l).flatMap (BP .bool):=by
    rw [Jf fun c hc=>by obtain ⟨b,_,rfl⟩:=List.mem_map.1 hc;rfl,Yt]
   rw [g1,g2];show AA.DH [.Ez l.length _,.Ez l.length _,.Ez l.length _,_]=AA.DH [.Ez (Ds (Au s) l).length _,.Ez (Bx (Au s) l).length _,.Ez (Bl (Au s) l).length _,_];rw [Ip,Io,G6];rfl
 exact AV.bh h fun r S' e=>⟨_,id,[],PS.refl _,V6,[DV (.sl NY) (AJ s l).1,DV (.sl .str) (AJ s l).2.1,DV (.sl .bool) (AJ s l).2.2.1,DV tI (AJ s l).2.2.2],⟨_,rfl,_,rfl,_,rfl,_,rfl,rfl,rfl⟩,e⟩
end Go.Proofs.YtlibocgedgdmlaaGreat.R
end
section
set_option maxRecDepth 100000
namespace Go.Proofs.YtlibocgedgdmlaaGreat
open Go.ChangeShapes Go.WideShapes Go.ChangeAt Go.RowKit Go.Vc
theorem own_knob:ownKnob Tryz.prog.godebug=none:=by kernel_rfl
theorem laid_out:laidOutB Tryz.prog=true:=by kernel_rfl
theorem bulk_law (H:Type):gD (H:=H) Rows.uptoBulk Rows.uptoBulkAll where
 int k n:=by simp [Rows.uptoBulk]
 bool b:=by simp [Rows.uptoBulk]
 str s:=by simp [Rows.uptoBulk]
 nil:=by simp [Rows.uptoBulk]
 slice es sp:=by simp only [Rows.uptoBulk];omega
 agg ps:=by simp [Rows.uptoBulk]
 none:=by simp [Rows.uptoBulkAll]
 cons d r:=by simp [Rows.uptoBulkAll]
theorem par_ok {ts:List TypeId} (h:(ts.all fun t=>Tryz.prog.readableRec t && decide (t<Tryz.prog.types.size))=true): ∀t∈ts,Tryz.prog.readableRec t=true/\t<Tryz.prog.types.size:=by
 simpa using h
abbrev enginePlays_tys:Ky:=(.cons .str (.cons (.sl (.st (.cons (.int .i64) (.cons (.st (.cons (.int .i64) (.cons (.st (.cons (.int .i64) (.cons (.int .i64) (.cons .str .nil)))) .nil))) (.cons (.int .i64) (.cons (.int .i64) (.cons .str .nil))))))) .nil))
abbrev law_EnginePlays_ct:Ct:=Yl enginePlays_tys
abbrev topEngine_tys:Ky:=(.cons (.sl (.int .i64)) (.cons (.sl (.st (.cons (.int .i64) (.cons (.st (.cons (.int .i64) (.cons (.st (.cons (.int .i64) (.cons (.int .i64) (.cons (.sl (.int .i64)) .nil)))) .nil))) (.cons (.int .i64) (.cons (.int .i64) (.cons (.sl (.int .i64)) .nil))))))) (.cons (.int .i64) (.cons (.sl (.int .i64)) .nil))))
abbrev law_TopEngine_ct:Ct:=Yl topEngine_tys
end Go.Proofs.YtlibocgedgdmlaaGreat
end
