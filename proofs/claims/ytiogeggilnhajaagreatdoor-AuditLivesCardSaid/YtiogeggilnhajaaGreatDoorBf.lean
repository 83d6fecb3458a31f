/- Texts of the proof, put together: Ty. -/
import Derived.Test.YtiogeggilnhajaaGreatDoorProg
import Derived.Test.YtiogeggilnhajaaGreatDoorBb
set_option maxRecDepth 100000
namespace Go.Proofs
open Go Go.Pl Tryz
@[go_sem] theorem Tn : bu prog 2 = .int .i64:=by kernel_rfl
@[go_sem] theorem AQ : aE prog 2 = 1:=by kernel_rfl
@[go_sem] theorem F0 : nX prog 2 = 8:=by kernel_rfl
@[go_sem] theorem aeb : db prog 2 = false:=by kernel_rfl
@[go_sem] theorem aec : cw prog 2 = true:=by kernel_rfl
@[go_sem] theorem tp : aT prog 2 = some (.int .i64 0):=by kernel_rfl
@[go_sem] theorem aam : bu prog 3 = .int .i64:=by kernel_rfl
@[go_sem] theorem IN : aE prog 3 = 1:=by kernel_rfl
@[go_sem] theorem aan : nX prog 3 = 8:=by kernel_rfl
@[go_sem] theorem aed : db prog 3 = false:=by kernel_rfl
@[go_sem] theorem aee : cw prog 3 = true:=by kernel_rfl
@[go_sem] theorem MV : aT prog 3 = some (.int .i64 0):=by kernel_rfl
@[go_sem] theorem aao : bu prog 4 = .bool:=by kernel_rfl
@[go_sem] theorem aap : aE prog 4 = 1:=by kernel_rfl
@[go_sem] theorem aef : db prog 4 = false:=by kernel_rfl
@[go_sem] theorem aeg : cw prog 4 = true:=by kernel_rfl
@[go_sem] theorem afg : bu prog 5 = .int .u8:=by kernel_rfl
@[go_sem] theorem To : aE prog 5 = 1:=by kernel_rfl
@[go_sem] theorem Tp : nX prog 5 = 1:=by kernel_rfl
@[go_sem] theorem aeh : cw prog 5 = true:=by kernel_rfl
@[go_sem] theorem F1 : aT prog 5 = some (.int .u8 0):=by kernel_rfl
@[go_sem] theorem Tq : bu prog 9 = .str:=by kernel_rfl
@[go_sem] theorem afh : aE prog 9 = 1:=by kernel_rfl
@[go_sem] theorem aei : db prog 9 = false:=by kernel_rfl
@[go_sem] theorem aej : cw prog 9 = true:=by kernel_rfl
@[go_sem] theorem KN : bu prog 22 = .slice 111:=by kernel_rfl
@[go_sem] theorem Ts : aE prog 22 = 1:=by kernel_rfl
@[go_sem] theorem aaq : db prog 22 = false:=by kernel_rfl
@[go_sem] theorem aar : cw prog 22 = true:=by kernel_rfl
@[go_sem] theorem zf : bu prog 23 = .slice 69:=by kernel_rfl
@[go_sem] theorem Tt : aE prog 23 = 1:=by kernel_rfl
@[go_sem] theorem aas : db prog 23 = false:=by kernel_rfl
@[go_sem] theorem aat : cw prog 23 = true:=by kernel_rfl
@[go_sem] theorem F2 : bu prog 25 = .s7:=by kernel_rfl
@[go_sem] theorem Tu : aE prog 25 = 3:=by kernel_rfl
@[go_sem] theorem F3 : db prog 25 = true:=by kernel_rfl
@[go_sem] theorem aau : cw prog 25 = true:=by kernel_rfl
@[go_sem] theorem XK : aT prog 25 = some (.agg #[.slice none 0 0,.int .i64 0,.slice none 0 0]):=by kernel_rfl
@[go_sem] theorem aek : dC prog 25 = true:=by kernel_rfl
@[go_sem] theorem XL : aS prog 25 0 = some (0,1):=by kernel_rfl
@[go_sem] theorem IQ : cz prog 25 0 = some (0,22):=by kernel_rfl
@[go_sem] theorem XM : aS prog 25 1 = some (1,1):=by kernel_rfl
@[go_sem] theorem IS : cz prog 25 1 = some (1,3):=by kernel_rfl
@[go_sem] theorem XN : aS prog 25 2 = some (2,1):=by kernel_rfl
@[go_sem] theorem IT : cz prog 25 2 = some (2,23):=by kernel_rfl
@[go_sem] theorem vh : bu prog 31 = .slice 66:=by kernel_rfl
@[go_sem] theorem ael : aE prog 31 = 1:=by kernel_rfl
@[go_sem] theorem aav : db prog 31 = false:=by kernel_rfl
@[go_sem] theorem aaw : cw prog 31 = true:=by kernel_rfl
@[go_sem] theorem KO : bu prog 36 = .slice 77:=by kernel_rfl
@[go_sem] theorem KP : bu prog 55 = .slice 154:=by kernel_rfl
@[go_sem] theorem aem : aE prog 55 = 1:=by kernel_rfl
@[go_sem] theorem aax : db prog 55 = false:=by kernel_rfl
@[go_sem] theorem aay : cw prog 55 = true:=by kernel_rfl
@[go_sem] theorem aen : aE prog 57 = 3:=by kernel_rfl
@[go_sem] theorem aaz : db prog 57 = true:=by kernel_rfl
@[go_sem] theorem aa0 : cw prog 57 = true:=by kernel_rfl
@[go_sem] theorem XO : aT prog 57 = some (.agg #[.int .i64 0,.bool false,.slice none 0 0]):=by kernel_rfl
@[go_sem] theorem aeo : dC prog 57 = true:=by kernel_rfl
@[go_sem] theorem XP : cz prog 57 2 = some (2,55):=by kernel_rfl
@[go_sem] theorem mA : bu prog 60 = .slice 2:=by kernel_rfl
@[go_sem] theorem aep : aE prog 60 = 1:=by kernel_rfl
@[go_sem] theorem aa1 : db prog 60 = false:=by kernel_rfl
@[go_sem] theorem aa2 : cw prog 60 = true:=by kernel_rfl
@[go_sem] theorem KQ : aE prog 66 = 2:=by kernel_rfl
@[go_sem] theorem KS : nX prog 66 = 16:=by kernel_rfl
@[go_sem] theorem aa3 : db prog 66 = true:=by kernel_rfl
@[go_sem] theorem aa4 : cw prog 66 = true:=by kernel_rfl
@[go_sem] theorem Ca : aT prog 66 = some (.agg #[.int .i64 0,.int .i64 0]):=by kernel_rfl
@[go_sem] theorem aeq : dC prog 66 = true:=by kernel_rfl
@[go_sem] theorem XQ : aS prog 66 0 = some (0,1):=by kernel_rfl
@[go_sem] theorem XR : cz prog 66 0 = some (0,3):=by kernel_rfl
@[go_sem] theorem XS : aS prog 66 1 = some (1,1):=by kernel_rfl
@[go_sem] theorem XT : cz prog 66 1 = some (1,3):=by kernel_rfl
@[go_sem] theorem aa5 : yt prog 66 = true:=by kernel_rfl
@[go_sem] theorem Tv : ki prog 66 = [.int .i64,.int .i64]:=by kernel_rfl
@[go_sem] theorem qK : bu prog 69 = .s7:=by kernel_rfl
@[go_sem] theorem vk : aE prog 69 = 8:=by kernel_rfl
@[go_sem] theorem Cb : nX prog 69 = 64:=by kernel_rfl
@[go_sem] theorem MW : db prog 69 = true:=by kernel_rfl
@[go_sem] theorem aa6 : cw prog 69 = true:=by kernel_rfl
@[go_sem] theorem rY : aT prog 69 = some (.agg #[.int .i64 0,.int .i64 0,.int .i64 0,.int .i64 0,.int .i64 0,.int .i64 0,.int .i64 0,.bool false]):=by kernel_rfl
@[go_sem] theorem aer : dC prog 69 = true:=by kernel_rfl
@[go_sem] theorem XU : aS prog 69 0 = some (0,1):=by kernel_rfl
@[go_sem] theorem IU : cz prog 69 0 = some (0,3):=by kernel_rfl
@[go_sem] theorem IV : cz prog 69 1 = some (1,3):=by kernel_rfl
@[go_sem] theorem XV : aS prog 69 2 = some (2,1):=by kernel_rfl
@[go_sem] theorem IX : cz prog 69 2 = some (2,2):=by kernel_rfl
@[go_sem] theorem XW : aS prog 69 3 = some (3,1):=by kernel_rfl
@[go_sem] theorem IY : cz prog 69 3 = some (3,2):=by kernel_rfl
@[go_sem] theorem XX : aS prog 69 4 = some (4,1):=by kernel_rfl
@[go_sem] theorem IZ : cz prog 69 4 = some (4,2):=by kernel_rfl
@[go_sem] theorem XY : aS prog 69 5 = some (5,1):=by kernel_rfl
@[go_sem] theorem Ja : cz prog 69 5 = some (5,2):=by kernel_rfl
@[go_sem] theorem XZ : aS prog 69 6 = some (6,1):=by kernel_rfl
@[go_sem] theorem Jb : cz prog 69 6 = some (6,2):=by kernel_rfl
@[go_sem] theorem Ya : aS prog 69 7 = some (7,1):=by kernel_rfl
@[go_sem] theorem Jc : cz prog 69 7 = some (7,4):=by kernel_rfl
@[go_sem] theorem aa7 : yt prog 69 = true:=by kernel_rfl
@[go_sem] theorem Tw : ki prog 69 = [.int .i64,.int .i64,.int .i64,.int .i64,.int .i64,.int .i64,.int .i64,.bool]:=by kernel_rfl
@[go_sem] theorem KT : aE prog 77 = 7:=by kernel_rfl
@[go_sem] theorem KU : nX prog 77 = 56:=by kernel_rfl
@[go_sem] theorem aa8 : db prog 77 = true:=by kernel_rfl
@[go_sem] theorem aa9 : cw prog 77 = true:=by kernel_rfl
@[go_sem] theorem Cc : aT prog 77 = some (.agg #[.int .i64 0,.int .i64 0,.int .i64 0,.int .i64 0,.int .i64 0,.int .i64 0,.int .i64 0]):=by kernel_rfl
@[go_sem] theorem aes : dC prog 77 = true:=by kernel_rfl
@[go_sem] theorem Yb : aS prog 77 0 = some (0,1):=by kernel_rfl
@[go_sem] theorem Yc : aS prog 77 1 = some (1,1):=by kernel_rfl
@[go_sem] theorem Yd : cz prog 77 1 = some (1,3):=by kernel_rfl
@[go_sem] theorem Ye : aS prog 77 2 = some (2,1):=by kernel_rfl
@[go_sem] theorem Yf : cz prog 77 2 = some (2,3):=by kernel_rfl
@[go_sem] theorem Yg : aS prog 77 3 = some (3,1):=by kernel_rfl
@[go_sem] theorem Yh : cz prog 77 3 = some (3,2):=by kernel_rfl
@[go_sem] theorem Yi : aS prog 77 4 = some (4,1):=by kernel_rfl
@[go_sem] theorem Yj : cz prog 77 4 = some (4,2):=by kernel_rfl
@[go_sem] theorem Yk : aS prog 77 5 = some (5,1):=by kernel_rfl
@[go_sem] theorem Yl : cz prog 77 5 = some (5,2):=by kernel_rfl
@[go_sem] theorem Ym : aS prog 77 6 = some (6,1):=by kernel_rfl
@[go_sem] theorem Yn : cz prog 77 6 = some (6,2):=by kernel_rfl
@[go_sem] theorem aba : yt prog 77 = true:=by kernel_rfl
@[go_sem] theorem Tx : ki prog 77 = [.int .i64,.int .i64,.int .i64,.int .i64,.int .i64,.int .i64,.int .i64]:=by kernel_rfl
@[go_sem] theorem aet : bu prog 80 = .slice 86:=by kernel_rfl
@[go_sem] theorem aeu : aE prog 83 = 6:=by kernel_rfl
@[go_sem] theorem abb : db prog 83 = true:=by kernel_rfl
@[go_sem] theorem abc : cw prog 83 = true:=by kernel_rfl
@[go_sem] theorem Yo : aT prog 83 = some (.agg #[.bool false,.bool false,.bool false,.bool false,.int .i64 0,.int .i64 0]):=by kernel_rfl
@[go_sem] theorem aev : dC prog 83 = true:=by kernel_rfl
@[go_sem] theorem Yp : aS prog 83 0 = some (0,1):=by kernel_rfl
@[go_sem] theorem Yq : cz prog 83 0 = some (0,4):=by kernel_rfl
@[go_sem] theorem Yr : aS prog 83 1 = some (1,1):=by kernel_rfl
@[go_sem] theorem Ys : cz prog 83 1 = some (1,4):=by kernel_rfl
@[go_sem] theorem Yt : aS prog 83 2 = some (2,1):=by kernel_rfl
@[go_sem] theorem Yu : cz prog 83 2 = some (2,4):=by kernel_rfl
@[go_sem] theorem Yv : aS prog 83 3 = some (3,1):=by kernel_rfl
@[go_sem] theorem Yw : cz prog 83 3 = some (3,4):=by kernel_rfl
@[go_sem] theorem Yx : aS prog 83 4 = some (4,1):=by kernel_rfl
@[go_sem] theorem Yy : cz prog 83 4 = some (4,2):=by kernel_rfl
@[go_sem] theorem Yz : aS prog 83 5 = some (5,1):=by kernel_rfl
@[go_sem] theorem Y1 : cz prog 83 5 = some (5,2):=by kernel_rfl
@[go_sem] theorem aew : aE prog 84 = 1:=by kernel_rfl
@[go_sem] theorem abd : db prog 84 = false:=by kernel_rfl
@[go_sem] theorem abe : cw prog 84 = true:=by kernel_rfl
@[go_sem] theorem aex : aE prog 86 = 7:=by kernel_rfl
@[go_sem] theorem abf : db prog 86 = true:=by kernel_rfl
@[go_sem] theorem abg : cw prog 86 = true:=by kernel_rfl
@[go_sem] theorem Y2 : aT prog 86 = some (.agg #[.bool false,.bool false,.bool false,.bool false,.int .i64 0,.int .i64 0,.nilFunc]):=by kernel_rfl
@[go_sem] theorem aey : dC prog 86 = true:=by kernel_rfl
@[go_sem] theorem Y3 : aS prog 86 0 = some (0,6):=by kernel_rfl
@[go_sem] theorem Y4 : cz prog 86 0 = some (0,83):=by kernel_rfl
@[go_sem] theorem Y5 : aS prog 86 1 = some (6,1):=by kernel_rfl
@[go_sem] theorem Y6 : cz prog 86 1 = some (6,84):=by kernel_rfl
@[go_sem] theorem aez : bu prog 88 = .slice 194:=by kernel_rfl
@[go_sem] theorem ae0 : aE prog 88 = 1:=by kernel_rfl
@[go_sem] theorem abh : db prog 88 = false:=by kernel_rfl
@[go_sem] theorem abi : cw prog 88 = true:=by kernel_rfl
@[go_sem] theorem ae1 : bu prog 89 = .map 2 106:=by kernel_rfl
@[go_sem] theorem ae2 : aE prog 89 = 1:=by kernel_rfl
@[go_sem] theorem abj : db prog 89 = false:=by kernel_rfl
@[go_sem] theorem abk : cw prog 89 = true:=by kernel_rfl
@[go_sem] theorem ae3 : bu prog 90 = .map 2 188:=by kernel_rfl
@[go_sem] theorem ae4 : aE prog 90 = 1:=by kernel_rfl
@[go_sem] theorem abl : db prog 90 = false:=by kernel_rfl
@[go_sem] theorem abm : cw prog 90 = true:=by kernel_rfl
@[go_sem] theorem ae5 : bu prog 91 = .map 2 197:=by kernel_rfl
@[go_sem] theorem ae6 : aE prog 91 = 1:=by kernel_rfl
@[go_sem] theorem abn : db prog 91 = false:=by kernel_rfl
@[go_sem] theorem abo : cw prog 91 = true:=by kernel_rfl
@[go_sem] theorem ae7 : bu prog 92 = .map 2 3:=by kernel_rfl
@[go_sem] theorem ae8 : aE prog 92 = 1:=by kernel_rfl
@[go_sem] theorem abp : db prog 92 = false:=by kernel_rfl
@[go_sem] theorem abq : cw prog 92 = true:=by kernel_rfl
@[go_sem] theorem ae9 : aE prog 94 = 13:=by kernel_rfl
@[go_sem] theorem abr : cw prog 94 = true:=by kernel_rfl
@[go_sem] theorem Y7 : aT prog 94 = some (.agg #[.slice none 0 0,.int .i64 0,.slice none 0 0,.int .i64 0,.int .i64 0,.slice none 0 0,.map none,.slice none 0 0,.map none,.map none,.map none,.bool false,.slice none 0 0]):=by kernel_rfl
@[go_sem] theorem afa : dC prog 94 = true:=by kernel_rfl
@[go_sem] theorem Y8 : aS prog 94 0 = some (0,3):=by kernel_rfl
@[go_sem] theorem Y9 : cz prog 94 0 = some (0,25):=by kernel_rfl
@[go_sem] theorem YA : cz prog 94 1 = some (3,2):=by kernel_rfl
@[go_sem] theorem YB : cz prog 94 2 = some (4,3):=by kernel_rfl
@[go_sem] theorem YC : aS prog 94 3 = some (5,1):=by kernel_rfl
@[go_sem] theorem YD : cz prog 94 3 = some (5,88):=by kernel_rfl
@[go_sem] theorem YE : aS prog 94 4 = some (6,1):=by kernel_rfl
@[go_sem] theorem YG : cz prog 94 4 = some (6,89):=by kernel_rfl
@[go_sem] theorem YH : cz prog 94 5 = some (7,60):=by kernel_rfl
@[go_sem] theorem YI : aS prog 94 6 = some (8,1):=by kernel_rfl
@[go_sem] theorem YJ : cz prog 94 6 = some (8,90):=by kernel_rfl
@[go_sem] theorem YK : aS prog 94 7 = some (9,1):=by kernel_rfl
@[go_sem] theorem YL : cz prog 94 7 = some (9,91):=by kernel_rfl
@[go_sem] theorem YM : aS prog 94 8 = some (10,1):=by kernel_rfl
@[go_sem] theorem YN : cz prog 94 8 = some (10,92):=by kernel_rfl
@[go_sem] theorem YO : cz prog 94 9 = some (11,4):=by kernel_rfl
@[go_sem] theorem Ty : cz prog 94 10 = some (12,31):=by kernel_rfl
@[go_sem] theorem afb : aE prog 95 = 1:=by kernel_rfl
@[go_sem] theorem abt : db prog 95 = false:=by kernel_rfl
@[go_sem] theorem abu : cw prog 95 = true:=by kernel_rfl
@[go_sem] theorem afc : bu prog 99 = .slice 209:=by kernel_rfl
@[go_sem] theorem afd : aE prog 99 = 1:=by kernel_rfl
@[go_sem] theorem abv : db prog 99 = false:=by kernel_rfl
@[go_sem] theorem abw : cw prog 99 = true:=by kernel_rfl
@[go_sem] theorem wW : bu prog 100 = .slice 108:=by kernel_rfl
@[go_sem] theorem abx : aE prog 100 = 1:=by kernel_rfl
@[go_sem] theorem YP : db prog 100 = false:=by kernel_rfl
@[go_sem] theorem YQ : cw prog 100 = true:=by kernel_rfl
@[go_sem] theorem F4 : bu prog 101 = .slice 205:=by kernel_rfl
@[go_sem] theorem aby : aE prog 101 = 1:=by kernel_rfl
@[go_sem] theorem YR : db prog 101 = false:=by kernel_rfl
@[go_sem] theorem YS : cw prog 101 = true:=by kernel_rfl
@[go_sem] theorem abz : aE prog 103 = 10:=by kernel_rfl
@[go_sem] theorem YT : cw prog 103 = true:=by kernel_rfl
@[go_sem] theorem Tz : aT prog 103 = some (.agg #[.slice none 0 0,.int .i64 0,.slice none 0 0,.int .i64 0,.slice none 0 0,.slice none 0 0,.slice none 0 0,.bool false,.int .i64 0,.slice none 0 0]):=by kernel_rfl
@[go_sem] theorem ab6 : dC prog 103 = true:=by kernel_rfl
@[go_sem] theorem T0 : aS prog 103 0 = some (0,3):=by kernel_rfl
@[go_sem] theorem T1 : cz prog 103 0 = some (0,25):=by kernel_rfl
@[go_sem] theorem T2 : cz prog 103 1 = some (3,2):=by kernel_rfl
@[go_sem] theorem T3 : aS prog 103 2 = some (4,1):=by kernel_rfl
@[go_sem] theorem T4 : cz prog 103 2 = some (4,99):=by kernel_rfl
@[go_sem] theorem T5 : cz prog 103 3 = some (5,100):=by kernel_rfl
@[go_sem] theorem T6 : cz prog 103 4 = some (6,101):=by kernel_rfl
@[go_sem] theorem T7 : cz prog 103 5 = some (7,4):=by kernel_rfl
@[go_sem] theorem T8 : cz prog 103 6 = some (8,3):=by kernel_rfl
@[go_sem] theorem T9 : cz prog 103 7 = some (9,31):=by kernel_rfl
@[go_sem] theorem ab7 : aE prog 105 = 10:=by kernel_rfl
@[go_sem] theorem YU : cw prog 105 = true:=by kernel_rfl
@[go_sem] theorem TA : aT prog 105 = some (.agg #[.int .i64 0,.int .i64 0,.int .i64 0,.int .i64 0,.int .i64 0,.int .i64 0,.int .i64 0,.int .i64 0,.int .i64 0,.int .i64 0]):=by kernel_rfl
@[go_sem] theorem ab8 : dC prog 105 = true:=by kernel_rfl
@[go_sem] theorem TB : aS prog 105 0 = some (0,7):=by kernel_rfl
@[go_sem] theorem TC : cz prog 105 0 = some (0,77):=by kernel_rfl
@[go_sem] theorem TD : aS prog 105 1 = some (7,1):=by kernel_rfl
@[go_sem] theorem TE : cz prog 105 1 = some (7,3):=by kernel_rfl
@[go_sem] theorem TF : cz prog 105 2 = some (8,2):=by kernel_rfl
@[go_sem] theorem TH : cz prog 105 3 = some (9,2):=by kernel_rfl
@[go_sem] theorem ab9 : bu prog 106 = .ptr 105:=by kernel_rfl
@[go_sem] theorem TI : aT prog 106 = some (.pointer none):=by kernel_rfl
@[go_sem] theorem F5 : aE prog 108 = 10:=by kernel_rfl
@[go_sem] theorem F6 : nX prog 108 = 80:=by kernel_rfl
@[go_sem] theorem YV : db prog 108 = true:=by kernel_rfl
@[go_sem] theorem YW : cw prog 108 = true:=by kernel_rfl
@[go_sem] theorem zg : aT prog 108 = some (.agg #[.int .i64 0,.int .i64 0,.int .i64 0,.int .i64 0,.int .i64 0,.int .i64 0,.int .i64 0,.int .i64 0,.int .i64 0,.int .i64 0]):=by kernel_rfl
@[go_sem] theorem aca : dC prog 108 = true:=by kernel_rfl
@[go_sem] theorem TJ : aS prog 108 0 = some (0,1):=by kernel_rfl
@[go_sem] theorem TK : cz prog 108 0 = some (0,2):=by kernel_rfl
@[go_sem] theorem TL : aS prog 108 1 = some (1,1):=by kernel_rfl
@[go_sem] theorem TM : cz prog 108 1 = some (1,3):=by kernel_rfl
@[go_sem] theorem TN : aS prog 108 2 = some (2,1):=by kernel_rfl
@[go_sem] theorem TO : cz prog 108 2 = some (2,3):=by kernel_rfl
@[go_sem] theorem TP : cz prog 108 3 = some (3,2):=by kernel_rfl
@[go_sem] theorem TQ : aS prog 108 4 = some (4,1):=by kernel_rfl
@[go_sem] theorem TR : cz prog 108 4 = some (4,2):=by kernel_rfl
@[go_sem] theorem TS : cz prog 108 5 = some (5,2):=by kernel_rfl
@[go_sem] theorem TT : cz prog 108 6 = some (6,2):=by kernel_rfl
@[go_sem] theorem TU : cz prog 108 7 = some (7,3):=by kernel_rfl
@[go_sem] theorem TV : cz prog 108 8 = some (8,2):=by kernel_rfl
@[go_sem] theorem TW : cz prog 108 9 = some (9,2):=by kernel_rfl
@[go_sem] theorem wX : bu prog 111 = .s7:=by kernel_rfl
@[go_sem] theorem AR : aE prog 111 = 4:=by kernel_rfl
@[go_sem] theorem MX : nX prog 111 = 32:=by kernel_rfl
@[go_sem] theorem Jd : db prog 111 = true:=by kernel_rfl
@[go_sem] theorem YX : cw prog 111 = true:=by kernel_rfl
@[go_sem] theorem F7 : aT prog 111 = some (.agg #[.int .i64 0,.int .i64 0,.int .i64 0,.int .i64 0]):=by kernel_rfl
@[go_sem] theorem acb : dC prog 111 = true:=by kernel_rfl
@[go_sem] theorem TX : aS prog 111 0 = some (0,1):=by kernel_rfl
@[go_sem] theorem F8 : cz prog 111 0 = some (0,3):=by kernel_rfl
@[go_sem] theorem TY : aS prog 111 1 = some (1,1):=by kernel_rfl
@[go_sem] theorem F9 : cz prog 111 1 = some (1,3):=by kernel_rfl
@[go_sem] theorem TZ : aS prog 111 2 = some (2,1):=by kernel_rfl
@[go_sem] theorem FA : cz prog 111 2 = some (2,2):=by kernel_rfl
@[go_sem] theorem Ua : aS prog 111 3 = some (3,1):=by kernel_rfl
@[go_sem] theorem FB : cz prog 111 3 = some (3,2):=by kernel_rfl
@[go_sem] theorem MY : bu prog 113 = .slice 3:=by kernel_rfl
@[go_sem] theorem FC : bu prog 120 = .slice 5:=by kernel_rfl
@[go_sem] theorem acd : aE prog 120 = 1:=by kernel_rfl
@[go_sem] theorem YY : db prog 120 = false:=by kernel_rfl
@[go_sem] theorem YZ : cw prog 120 = true:=by kernel_rfl
@[go_sem] theorem ace : aE prog 122 = 2:=by kernel_rfl
@[go_sem] theorem Za : cw prog 122 = true:=by kernel_rfl
@[go_sem] theorem Ub : aT prog 122 = some (.agg #[.pointer none,.slice none 0 0]):=by kernel_rfl
@[go_sem] theorem Uc : cz prog 122 1 = some (1,120):=by kernel_rfl
@[go_sem] theorem acf : bu prog 123 = .slice 9:=by kernel_rfl
@[go_sem] theorem FD : aE prog 154 = 11:=by kernel_rfl
@[go_sem] theorem FE : nX prog 154 = 152:=by kernel_rfl
@[go_sem] theorem Zb : cw prog 154 = true:=by kernel_rfl
@[go_sem] theorem zh : aT prog 154 = some (.agg #[.int .i64 0,.int .i64 0,.int .i64 0,.int .i64 0,.slice none 0 0,.slice none 0 0,.slice none 0 0,.slice none 0 0,.bool false,.int .i64 0,.int .i64 0]):=by kernel_rfl
@[go_sem] theorem acg : dC prog 154 = true:=by kernel_rfl
@[go_sem] theorem Ud : aS prog 154 0 = some (0,4):=by kernel_rfl
@[go_sem] theorem Ue : aS prog 154 5 = some (8,1):=by kernel_rfl
@[go_sem] theorem ach : bu prog 188 = .ptr 190:=by kernel_rfl
@[go_sem] theorem Uf : aT prog 188 = some (.pointer none):=by kernel_rfl
@[go_sem] theorem aci : aE prog 190 = 5:=by kernel_rfl
@[go_sem] theorem Zc : cw prog 190 = true:=by kernel_rfl
@[go_sem] theorem Ug : aT prog 190 = some (.agg #[.bool false,.bool false,.int .i64 0,.int .i64 0,.int .i64 0]):=by kernel_rfl
@[go_sem] theorem acj : dC prog 190 = true:=by kernel_rfl
@[go_sem] theorem Uh : aS prog 190 0 = some (0,1):=by kernel_rfl
@[go_sem] theorem Ui : cz prog 190 0 = some (0,4):=by kernel_rfl
@[go_sem] theorem Uj : cz prog 190 1 = some (1,4):=by kernel_rfl
@[go_sem] theorem Uk : cz prog 190 2 = some (2,3):=by kernel_rfl
@[go_sem] theorem Ul : aS prog 190 3 = some (3,1):=by kernel_rfl
@[go_sem] theorem Um : cz prog 190 3 = some (3,3):=by kernel_rfl
@[go_sem] theorem Un : cz prog 190 4 = some (4,3):=by kernel_rfl
@[go_sem] theorem ack : aE prog 194 = 6:=by kernel_rfl
@[go_sem] theorem acm : nX prog 194 = 64:=by kernel_rfl
@[go_sem] theorem Zd : db prog 194 = true:=by kernel_rfl
@[go_sem] theorem Ze : cw prog 194 = true:=by kernel_rfl
@[go_sem] theorem Uo : aT prog 194 = some (.agg #[.bool false,.int .i64 0,.int .i64 0,.int .i64 0,.int .i64 0,.slice none 0 0]):=by kernel_rfl
@[go_sem] theorem Up : cz prog 194 0 = some (0,4):=by kernel_rfl
@[go_sem] theorem Uq : cz prog 194 1 = some (1,3):=by kernel_rfl
@[go_sem] theorem Ur : cz prog 194 2 = some (2,2):=by kernel_rfl
@[go_sem] theorem Us : cz prog 194 3 = some (3,3):=by kernel_rfl
@[go_sem] theorem Ut : cz prog 194 4 = some (4,3):=by kernel_rfl
@[go_sem] theorem Uu : cz prog 194 5 = some (5,60):=by kernel_rfl
@[go_sem] theorem acn : aE prog 197 = 3:=by kernel_rfl
@[go_sem] theorem Zf : db prog 197 = true:=by kernel_rfl
@[go_sem] theorem Zg : cw prog 197 = true:=by kernel_rfl
@[go_sem] theorem Uv : aT prog 197 = some (.agg #[.bool false,.bool false,.bool false]):=by kernel_rfl
@[go_sem] theorem aco : dC prog 197 = true:=by kernel_rfl
@[go_sem] theorem Uw : aS prog 197 0 = some (0,1):=by kernel_rfl
@[go_sem] theorem Ux : cz prog 197 0 = some (0,4):=by kernel_rfl
@[go_sem] theorem Uy : aS prog 197 1 = some (1,1):=by kernel_rfl
@[go_sem] theorem Uz : cz prog 197 1 = some (1,4):=by kernel_rfl
@[go_sem] theorem U0 : aS prog 197 2 = some (2,1):=by kernel_rfl
@[go_sem] theorem Zh : yt prog 197 = true:=by kernel_rfl
@[go_sem] theorem Q6 : ki prog 197 = [.bool,.bool,.bool]:=by kernel_rfl
@[go_sem] theorem acp : bu prog 202 = .ptr 205:=by kernel_rfl
@[go_sem] theorem MZ : aE prog 205 = 6:=by kernel_rfl
@[go_sem] theorem Na : nX prog 205 = 48:=by kernel_rfl
@[go_sem] theorem Zi : cw prog 205 = true:=by kernel_rfl
@[go_sem] theorem FF : aT prog 205 = some (.agg #[.int .i64 0,.bool false,.int .i64 0,.int .i64 0,.int .i64 0,.bool false]):=by kernel_rfl
@[go_sem] theorem acq : dC prog 205 = true:=by kernel_rfl
@[go_sem] theorem U1 : aS prog 205 0 = some (0,1):=by kernel_rfl
@[go_sem] theorem U2 : cz prog 205 0 = some (0,2):=by kernel_rfl
@[go_sem] theorem U3 : aS prog 205 1 = some (1,1):=by kernel_rfl
@[go_sem] theorem U4 : cz prog 205 1 = some (1,4):=by kernel_rfl
@[go_sem] theorem U5 : cz prog 205 2 = some (2,3):=by kernel_rfl
@[go_sem] theorem U6 : cz prog 205 3 = some (3,3):=by kernel_rfl
@[go_sem] theorem U7 : cz prog 205 4 = some (4,3):=by kernel_rfl
@[go_sem] theorem U8 : cz prog 205 5 = some (5,4):=by kernel_rfl
@[go_sem] theorem acr : bu prog 206 = .ptr 108:=by kernel_rfl
@[go_sem] theorem acs : aE prog 209 = 5:=by kernel_rfl
@[go_sem] theorem acu : nX prog 209 = 72:=by kernel_rfl
@[go_sem] theorem Zj : cw prog 209 = true:=by kernel_rfl
@[go_sem] theorem U9 : aT prog 209 = some (.agg #[.bool false,.int .i64 0,.int .i64 0,.slice none 0 0,.slice none 0 0]):=by kernel_rfl
@[go_sem] theorem UA : cz prog 209 0 = some (0,4):=by kernel_rfl
@[go_sem] theorem UB : cz prog 209 1 = some (1,3):=by kernel_rfl
@[go_sem] theorem UC : cz prog 209 2 = some (2,2):=by kernel_rfl
@[go_sem] theorem UD : cz prog 209 3 = some (3,60):=by kernel_rfl
@[go_sem] theorem UE : cz prog 209 4 = some (4,60):=by kernel_rfl
@[go_sem] theorem acv : bu prog 213 = .int .u32:=by kernel_rfl
@[go_sem] theorem acw : bu prog 236 = .int .u64:=by kernel_rfl
@[go_sem] theorem acx : bu prog 255 = .int .u64:=by kernel_rfl
end Go.Proofs
